/-
  Texts of this claim, one behind the other, each built on those ahead of it. No condition.
-/
import Derived.Test.YtkmenhhapfombaaGreatDoorK45c
set_option maxHeartbeats 16000000
open Bool renaming false_and → zA, true_and → zF, and_eq_true → zQ, and_true → z7, and_false → yB, not_false → yG, not_true → yI, or_false → yL, or_eq_false_iff → yM, false_eq_true → yQ, and_self → yZ
open List renaming drop_eq_getElem_cons → zB, getElem_mem → zD, drop_eq_nil_of_le → zE, map_cons → zG, length_replicate → zH, drop_zero → zI, length_append → zJ, replicate → zL, map_append → zM, map_map → zN, map_nil → zP, all_eq_true → zR, length_nil → zS, append_assoc → zT, take_succ_eq_append_getElem → zU, length_map → zV, map_congr_left → zW, all_map → zX, getD_eq_getElem?_getD → zZ, append_nil → z6, getElem?_eq_getElem → z8, length_take → yA, take_of_length_le → yD, nodup_append → yE, cons_append → yH, mem_append → yJ, take_zero → yK, eq_nil_of_length_eq_zero → yN, nil_append → yO, mem_map → yP, mem_range → yR, mem_singleton → yS, pairwise_iff_getElem → yT, length → yU, take_length → yV, mem_cons → y0
open Nat renaming lt_or_ge → zC, zero_le → zK, eq_zero_or_pos → zO, not_lt → zY, le_refl → yC, zero_add → yX
open Int renaming toNat_zero → yF, natCast_zero → yW
open Option.some renaming inj → yY
set_option maxRecDepth 100000
set_option linter.unusedSimpArgs false
set_option linter.unusedVariables false
set_option linter.unusedSectionVars false
namespace Go.Proofs.YtkmenhhapfombaaGreatDoor
open Go.RowKit
def IF:SC:=(.seq (.reg [⟨some 3,none,.boxv 119 1 (.t 0)⟩,⟨some 5,none,.boxv 26 2 (.t 2)⟩,⟨some 6,none,.alloc 119 [.nil]⟩]) (.seq (.seq (.reg [⟨some 9,none,.faddr 0 (.t 5)⟩,⟨some 10,none,.load false 1 (.t 9)⟩,⟨some 11,none,.mv (.t 1)⟩,⟨some 12,none,.bin .eql false (.t 10) (.t 11)⟩]) (.cond (.t 12) (.seq (.reg [⟨some 13,none,.load true 1 (.t 3)⟩,⟨none,none,(.store 1 (.t 6) (.t 13))⟩]) .ret) .skip)) (.seq (.reg [⟨some 7,none,.mv (.c (.int .i64 0))⟩]) (.seq (.block 0 (.loop [0,1,0,1,0,1,1,1,0,0,0,0,0,0,0,0,0,0,0,0,0,0,0,0,0,0,0,0,0,0,0,0,0,0,0,0,0,0,0,0,0,0,0,0,0,0,0,0,0,0,0] (.seq (.seq (.reg [⟨some 14,none,.mv (.t 7)⟩,⟨some 15,none,.faddr 0 (.t 3)⟩,⟨some 16,none,.load false 1 (.t 15)⟩,⟨some 17,none,.len false (.t 16)⟩,⟨some 18,none,.bin .lss false (.t 14) (.t 17)⟩,⟨some 19,none,.mv (.t 18)⟩,⟨(some 20),(some (19,true)),(.faddr 0 (.t 3))⟩,⟨(some 21),(some (19,true)),(.load false 1 (.t 20))⟩,⟨(some 22),(some (19,true)),(.mv (.t 7))⟩,⟨(some 23),(some (19,true)),(.iaddr 3 (.t 21) (.t 22))⟩,⟨(some 24),(some (19,true)),(.faddr 0 (.t 23))⟩,⟨(some 25),(some (19,true)),(.load false 1 (.t 24))⟩,⟨(some 26),(some (19,true)),(.mv (.t 1))⟩,⟨(some 27),(some (19,true)),(.bin .lss false (.t 25) (.t 26))⟩,⟨some 28,none,.pick (.t 19) (.t 27) (.c (.bool false))⟩]) (.cond (.t 28) .skip (.exit 0))) (.block 1 (.reg [⟨some 29,none,.mv (.t 7)⟩,⟨some 30,none,.bin .add false (.t 29) (.c (.int .i64 1))⟩,⟨some 7,none,.mv (.t 30)⟩]))))) (.seq (.reg [⟨(some 31),none,(.mkrow 182 3 [(.str ⟨#[]⟩),(.str ⟨#[]⟩),.nil] 0 [])⟩,⟨some 32,none,.faddr 0 (.t 3)⟩,⟨some 33,none,.load false 1 (.t 32)⟩,⟨some 34,none,.mv (.t 7)⟩,⟨some 35,none,.slice false 3 (.t 33) none (some (.t 34))⟩,⟨(some 36),none,(.append 182 3 56 [(.str ⟨#[]⟩),(.str ⟨#[]⟩),.nil] (.t 31) (.t 35))⟩,⟨some 8,none,.mv (.t 36)⟩]) (.seq (.reg [⟨some 37,none,.mv (.t 8)⟩,⟨some 38,none,.mv (.t 1)⟩,⟨some 39,none,.load true 2 (.t 5)⟩,⟨some 40,none,.call 120 [(.t 39)]⟩,⟨(some 41),none,(.build [(.str ⟨#[]⟩),(.str ⟨#[]⟩),.nil] [(0,(1,(.t 38))),(1,(2,(.t 40)))])⟩,⟨(some 42),none,(.mkrow 182 3 [(.str ⟨#[]⟩),(.str ⟨#[]⟩),.nil] 1 [(0,(.t 41))])⟩,⟨(some 43),none,(.append 182 3 56 [(.str ⟨#[]⟩),(.str ⟨#[]⟩),.nil] (.t 37) (.t 42))⟩,⟨some 8,none,.mv (.t 43)⟩]) (.seq (.reg [⟨some 44,none,.mv (.t 8)⟩,⟨some 45,none,.faddr 0 (.t 3)⟩,⟨some 46,none,.load false 1 (.t 45)⟩,⟨some 47,none,.mv (.t 7)⟩,⟨some 48,none,.slice false 3 (.t 46) (some (.t 47)) none⟩,⟨(some 49),none,(.append 182 3 56 [(.str ⟨#[]⟩),(.str ⟨#[]⟩),.nil] (.t 44) (.t 48))⟩,⟨some 50,none,.build [.nil] [(0,(1,(.t 49)))]⟩,⟨none,none,(.store 1 (.t 6) (.t 50))⟩]) .ret)))))))
theorem LC:At Tryz.prog 139=some ⟨51,IF,[(.cell 6 true 1)]⟩:=by kernel_rfl
theorem Gv:modes 139=⟨[],.frz,none,false⟩:=by unfold modes; rfl
noncomputable def Sb.put (x:Sb) (b:Bd):Sb:=bif dec (b.term.name=b.var) then x else ⟨Ee x.binds b⟩
theorem Bd.ot_take (xs:List Bd) (k:Nat):((xs.map Bd.d).take k).map (fun x=>x.map D.ot)=(xs.take k).map fun b=>b.d.map D.ot:=by
 rw [←List.map_take,zN]; rfl
theorem Bd.ot_drop (xs:List Bd) (k:Nat):((xs.map Bd.d).drop k).map (fun x=>x.map D.ot)=(xs.drop k).map fun b=>b.d.map D.ot:=by
 rw [←List.map_drop,zN]; rfl
theorem Bd.al3 (xs:List Bd):((xs.map fun b=>b.d.map D.ot).all fun l=>l.length == 3)=true:=by
 rw [zX,zR]
 intro x _
 show ((x.d.map D.ot).length == 3)=true
 rw [Bd.d_eq]; rfl
theorem Bd.Qcz (xs:List Bd):((xs.map Bd.d).all fun l=>l.length == 3)=true:=by
 rw [zX,zR]
 intro x _
 show (x.d.length == 3)=true
 rw [Bd.d_eq]; rfl
theorem Bd.dfu:∀ xs:List Bd,OT.AA (xs.map fun b=>b.d.map D.ot)=true
 | []=>rfl
 | x :: xs=>by rw [zG,Bd.d_eq]; simp [OT.AA,OT.C1,OT.full,D.ot,Bd.dfu xs]
theorem Bd.der:∀ xs:List Bd,OT.erss (xs.map fun b=>b.d.map D.ot)=xs.map Bd.d
 | []=>rfl
 | x :: xs=>by rw [zG,zG,Bd.d_eq]; simp [OT.erss,OT.ers,OT.er,D.ot,Bd.der xs]
theorem Xz {xs:List Bd} {n:ByteArray} {k:Nat} (h:k+Cf (xs.drop k) n=Cf xs n) (hk:k<xs.length):(strLt xs[k].var n=true∧k+1+Cf (xs.drop (k+1)) n=Cf xs n)∨(strLt xs[k].var n=false∧k=Cf xs n):=by
 rw [zB hk,Cf] at h
 cases hq:strLt xs[k].var n with
 | true=>rw [hq] at h; simp only [cond_true,if_true] at h; exact .inl ⟨rfl,by omega⟩
 | false=>rw [hq] at h; simp only [cond_false,yQ,if_false] at h; exact .inr ⟨rfl,by omega⟩
theorem Qa0 (x:Sb) (n:ByteArray) (t:Tm) (hl:x.binds.length≤1048576) (ht:t.nodes≤1099511627776):E 139 [x.sv,.str n,t.sv] []=some ((x.put ⟨n,t⟩).sv,[]):=by
 have ho:=NL t ht
 have e1:=Bd.ot_take x.binds (Cf x.binds n)
 have e2:=Bd.ot_drop x.binds (Cf x.binds n)
 have e3:=Bd.al3 (x.binds.take (Cf x.binds n))
 have e4:=Bd.al3 (x.binds.drop (Cf x.binds n))
 have e5:=Bd.Qcz x.binds
 have l1:=Ww n x.binds
 have e6:(x.binds.map Bd.d).take x.binds.length=x.binds.map Bd.d:=yD (by simp)
 have e7:(x.binds.take (Cf x.binds n)).length=Cf x.binds n:=by rw [yA]; omega
 have e8:(x.binds.drop (Cf x.binds n)).length=x.binds.length-Cf x.binds n:=List.length_drop
 have hin:=T7 ⟨n,t⟩ x.binds
 have hx2:(x.binds.take (Cf x.binds n)).map (fun b=>b.d.map D.ot)++[[OT.str n,.str t.name,.sh (t.args.map Tm.d)]]++(x.binds.drop (Cf x.binds n)).map (fun b=>b.d.map D.ot)=(Ee x.binds ⟨n,t⟩).map fun b=>b.d.map D.ot:=by
  rw [hin]
  simp only [zM,zG,zT,yH,yO]
  rw [Bd.d_eq]; rfl
 have hfu:=Bd.dfu (Ee x.binds ⟨n,t⟩)
 have her:=Bd.der (Ee x.binds ⟨n,t⟩)
 have hsv:(Sb.mk (Ee x.binds ⟨n,t⟩)).sv=.agg [.arr ((Ee x.binds ⟨n,t⟩).map Bd.d)]:=rfl
 unfold Sb.put
 cases hq:dec (t.name=n) with
 | true =>
  simp only [hq,cond_true]
  refine Ai LC Gv (of_decide_eq_true rfl) ?_
  simp (disch:=omega) only [IF,go_sem,Ab,hq]
  try rfl
 | false =>
  simp only [hq,cond_false]
  rw [hsv]
  refine Ai LC Gv (of_decide_eq_true rfl) ?_
  simp (disch:=omega) only [IF,go_sem,Ab,hq]
  refine go_loop (α:=Int) (fun a=>⟨slots 51 0 [(1,.str n),(3,.ptr 0 0),(5,.ptr 1 0),(6,.ptr 2 0),(7,.int .i64 a)],[.box 119 [.arr (x.binds.map Bd.d)],.box 26 [.str t.name,.arr (t.args.map Tm.d)],.box 119 [.nil]]⟩) (fun a=>∃ k:Nat,a=k∧k≤(x.binds).length∧k+Cf (x.binds.drop k) n=Cf x.binds n) (fun a=>(x.binds).length-(a).toNat) 0 ⟨0,rfl,zK _,by rw [zI,yX]⟩ (by simp (disch:=omega) only [go_sem,Ab]) ?_
  rintro i ⟨k,hi,hk,hR⟩
  have hni:i.toNat=k:=by omega
  have hni1:(i+1).toNat=k+1:=by omega
  rcases zC k (x.binds).length with hlt | hge
  ·have hg:=get_at Bd.d hlt
   rw [Bd.d_eq] at hg
   rcases Xz hR hlt with ⟨q,hR'⟩ | ⟨q,hk'⟩
   ·simp (disch:=omega) only [go_sem,Ab,hni,hg,q]
    exact ⟨i+1,⟨k+1,by omega,hlt,hR'⟩,by omega,by first | trivial | rfl⟩
   ·subst hk'
    simp (disch:=omega) only [go_sem,Ab,hni,hg,q,ho,e1,e2,e3,e4,e5,e6,e7,e8,hx2,hfu,her,zJ,yF,Dn]
  ·obtain rfl:k=x.binds.length:=by omega
   have hk':x.binds.length=Cf x.binds n:=by rw [←hR,zE (yC _)]; simp [Cf]
   rw [hk'] at hni
   simp (disch:=omega) only [go_sem,Ab,hni,ho,e1,e2,e3,e4,e5,e6,e7,e8,hx2,hfu,her,zJ,yF,Dn]
theorem Sb.T8 {s:Sb} {n:ByteArray} {t:Tm} (h:s.look n=some t):(⟨n,t⟩:Bd)∈s.binds:=by
 cases hh:IC s.binds n with
 | false=>rw [Sb.NN hh] at h; cases h
 | true =>
  have hlt:=NM hh
  rw [Sb.Pa hh hlt] at h
  obtain rfl:=yY h
  have e:=Wy hh hlt
  have h1:=zD hlt
  have h2:∀ c:Bd,c.var=n→(⟨n,c.term⟩:Bd)=c:=fun c e=>by rw [←e]
  rw [h2 _ e]; exact h1
theorem Sb.Ij {s:Sb} (hs:OZ s.binds) {n:ByteArray}:s.look n=none ↔ ∀ b∈s.binds,b.var≠n:=by
 cases hh:IC s.binds n with
 | false =>
  rw [Sb.NN hh]
  refine ⟨fun _ b hb e=>?_,fun _=>rfl⟩
  rw [Zb hs] at hh
  exact List.any_eq_false.1 hh b hb (Ar e)
 | true =>
  have hlt:=NM hh
  rw [Sb.Pa hh hlt]
  exact ⟨fun h=>(by cases h),fun h=>absurd (Wy hh hlt) (h _ (zD hlt))⟩
theorem Sb.Jx {s:Sb} (hs:OZ s.binds) {b:Bd} (h:b∈s.binds):s.look b.var=some b.term:=by
 cases hq:s.look b.var with
 | none=>exact absurd rfl ((Sb.Ij hs).1 hq b h)
 | some t =>
  have h2:=Sb.T8 hq
  obtain ⟨i,hi,e1⟩:=List.getElem_of_mem h
  obtain ⟨j,hj,e2⟩:=List.getElem_of_mem h2
  have hij:i=j:=(List.getElem_inj (h₀:=by simpa using hi) (h₁:=by simpa using hj) (Pg hs)).1 (by simp only [List.getElem_map,e1,e2])
  subst hij
  rw [e1] at e2
  rw [e2]
def Sb.idem (s:Sb):Prop:=∀ w t,s.look w=some t→∀ v∈t.vs,s.look v=none
noncomputable def Zc (x y:Tm):Bd:=bif AS x.name&&!(AS y.name&&strLt x.name y.name) then ⟨x.name,y⟩ else ⟨y.name,x⟩
noncomputable def Qcg (b:Bd):Bool:=!dec (b.var∈b.term.vs)&&(Sb.mk [b]).ok
noncomputable def Qbz:Nat→Sb→List (Tm × Tm)→Option (Option Sb)
 | 0,_,_=>none
 | n+1,s,l=>match l with
  | []=>some (some s)
  | p :: l=>bif Qbw s p.1&&Qbw s p.2 then
    (bif dec (Ka s p.1=Ka s p.2) then Qbz n s l
    else bif AS (Ka s p.1).name || AS (Ka s p.2).name then
     (bif Qcg (Zc (Ka s p.1) (Ka s p.2))&&Qcf s ⟨[Zc (Ka s p.1) (Ka s p.2)]⟩ then Qbz n (Qce s ⟨[Zc (Ka s p.1) (Ka s p.2)]⟩) l else some none)
    else bif dec ((Ka s p.1).name=(Ka s p.2).name)&&dec ((Ka s p.1).args.length=(Ka s p.2).args.length) then Qbz n s ((Ka s p.1).args.zip (Ka s p.2).args++l)
    else some none)
   else some none
def Qch:List (Tm × Tm)→Nat
 | []=>0
 | p :: l=>p.1.nodes+Qch l
structure uInv (s:Sb) (l:List (Tm × Tm)):Prop where
 ok:s.ok=true
 idem:s.idem
 ex:∀ p∈l,p.1.expr=true∧p.2.expr=true
 pq:∃ P Q,l=P++Q∧(∀ p∈P,p.1.ap s.look=p.1)∧Qch P≤30∧Q.length≤1+30*s.binds.length
theorem T9 {x:Tm} (h:x.atom=true):AS x.name=false:=by
 unfold Tm.atom at h
 split at h
 ·rename_i hq
  have:x.name=⟨#[61]⟩:=Aw.1 hq
  rw [this]; decide +kernel
 ·rw [zQ] at h
  cases hv:AS x.name with
  | false=>rfl
  | true =>
   have:=M4 hv
   rw [h.1] at this
   cases this
theorem Fm.Ph {x:Fm} (h:x.form=true) (ho:qB x.op=false):x.var=⟨#[]⟩:=by
 unfold qB at ho
 rw [yM] at ho
 have h8:¬ x.op=8:=fun e=>by rw [Ar e] at ho; cases ho.1
 have h9:¬ x.op=9:=fun e=>by rw [Ar e] at ho; cases ho.2
 unfold Fm.form at h
 split at h
 ·rw [zQ] at h; exact Aw.1 h.2
 ·split at h
  ·rw [zQ] at h; exact Aw.1 h.2
  ·split at h
   ·rw [zQ] at h; exact Aw.1 h.2
   ·split at h
    ·rw [zQ] at h; exact Aw.1 h.2
    ·split at h
     ·omega
     ·cases h
abbrev TEnv:=ByteArray→Option Tm
def CI (e:TEnv):MF
 | .str s=>match e s with
  | some t=>some (true,[.str t.name,.arr (t.args.map Tm.d)])
  | none=>none
 | .int _=>none
theorem Fu (e:TEnv) (s:ByteArray):CI e (.str s)=match e s with | some t=>some (true,[.str t.name,.arr (t.args.map Tm.d)]) | none=>none:=rfl
noncomputable def GQ (e:TEnv) (s:ByteArray) (t:Tm):TEnv:=fun q=>bif dec (q=s) then some t else e q
theorem X1 (e:TEnv) (s:ByteArray) (t:Tm):K9 (CI e) (.str s) (true,[.str t.name,.arr (t.args.map Tm.d)])=CI (GQ e s t):=by
 funext k
 cases k with
 | int i=>rw [Hm (fun h=>by cases h)]; rfl
 | str q =>
  rw [Oq,Fu,Fu]
  unfold GQ
  cases dec (q=s) <;> rfl
theorem Vw:CI (fun _=>none)=nomap:=by
 funext k
 cases k <;> rfl
def FinT (e:TEnv):Prop:=∃ l:List ByteArray,∀ s,e s≠none→s∈l
theorem FinT.none:FinT fun _=>Option.none:=⟨[],fun s h=>absurd rfl h⟩
theorem FinT.put {e:TEnv} (h:FinT e) (s:ByteArray) (t:Tm):FinT (GQ e s t):=by
 obtain ⟨l,hl⟩:=h
 refine ⟨s :: l,fun q hq=>?_⟩
 unfold GQ at hq
 by_cases he:q=s
 ·simp [he]
 ·rw [Aj he,cond_false] at hq
  simp [hl q hq]
theorem FinT.enum {e:TEnv} (h:FinT e):∃ L,Enum (CI e) L:=by
 obtain ⟨l,hl⟩:=h
 refine Qav l fun k x hk=>?_
 cases k with
 | int i=>cases hk
 | str s=>exact ⟨s,hl s (fun hn=>by rw [Fu,hn] at hk; exact absurd hk (by simp)),rfl⟩
def TB (m:Nat) (e:TEnv):Prop:=∀ s t,e s=some t→t.nodes≤m∧AS s=true
theorem TB.none (m:Nat):TB m fun _=>Option.none:=fun s t h=>by cases h
theorem TB.put {m:Nat} {e:TEnv} (h:TB m e) {s:ByteArray} (hs:AS s=true) {t:Tm} (ht:t.nodes≤m):TB m (GQ e s t):=fun q u hq=>by
 unfold GQ at hq
 by_cases he:q=s
 ·rw [Ar he,cond_true] at hq
  obtain rfl:=yY hq
  rw [he]; exact ⟨ht,hs⟩
 ·rw [Aj he,cond_false] at hq; exact h q u hq
mutual
noncomputable def Tm.rv (e:TEnv):Tm→Tm
 | .mk n args=>bif args.isEmpty then (e n).getD (.mk n []) else .mk n (Tm.rvL e args)
noncomputable def Tm.rvL (e:TEnv):List Tm→List Tm
 | []=>[]
 | x :: xs=>Tm.rv e x :: Tm.rvL e xs
end
theorem Tm.W6 (e:TEnv):∀ xs:List Tm,Tm.rvL e xs=xs.map (Tm.rv e)
 | []=>by rw [Tm.rvL]; rfl
 | x :: xs=>by rw [Tm.rvL,Tm.W6 e xs]; rfl
theorem Tm.Pi (e:TEnv) (x:Tm):x.rv e=bif x.args.isEmpty then (e x.name).getD (.mk x.name []) else .mk x.name (x.args.map (Tm.rv e)):=by
 obtain ⟨n,args⟩:=x
 rw [Tm.rv,Tm.W6]; rfl
theorem Tm.Pj {m:Nat} (hm:1≤m) {e:TEnv} (he:TB m e) (x:Tm):(x.rv e).nodes≤m*x.nodes:=by
 have key:∀ xs:List Tm,(∀ y∈xs,(y.rv e).nodes≤m*y.nodes)→Tm.nodeS (xs.map (Tm.rv e))≤m*Tm.nodeS xs:=by
  intro xs
  induction xs with
  | nil=>intro _; simp [Tm.nodeS]
  | cons y ys ih =>
   intro h
   have h1:=h y (by simp)
   have h2:=ih fun z hz=>h z (by simp [hz])
   rw [zG,Tm.nodeS,Tm.nodeS,Nat.mul_add]; omega
 have h1:=key x.args fun y hy=>Tm.Pj hm he y
 rw [Tm.Pi,Tm.nodes_eq x,Nat.mul_add,Nat.mul_one]
 cases x.args.isEmpty with
 | true =>
  rw [cond_true]
  cases hx:e x.name with
  | none =>
   show (Tm.mk x.name []).nodes≤_
   rw [Tm.nodes_eq]
   show 1+Tm.nodeS []≤_
   rw [Tm.nodeS]; omega
  | some t=>have:=(he _ _ hx).1; show t.nodes≤_; omega
 | false =>
  rw [cond_false,Tm.nodes_eq]
  show 1+Tm.nodeS (x.args.map (Tm.rv e))≤_
  omega
termination_by SizeOf.sizeOf x
decreasing_by exact Tm.lt_of_mem hy
theorem Tm.QaR {m:Nat} {e:TEnv} (he:TB m e) (x:Tm) (hx:x.names=true):x.rv e=x.ap e:=by
 have ih:∀ y∈x.args,y.rv e=y.ap e:=fun y hy=>Tm.QaR he y (Tm.DS hx hy)
 rw [Tm.Pi,Tm.Tq,Tm.NK]
 cases hv:AS x.name with
 | true =>
  have h0:=Tm.G2 hx hv
  rw [h0]
  simp
 | false =>
  have hn:e x.name=none:=by
   cases h:e x.name with
   | none=>rfl
   | some t=>have:=(he _ _ h).2; rw [hv] at this; cases this
  cases h0:x.args.isEmpty with
  | true =>
   have:x.args=[]:=by simpa using h0
   rw [hn,this]
   simp
  | false =>
   rw [cond_false]
   simp only [yQ,if_false]
   congr 1
   exact zW ih
termination_by SizeOf.sizeOf x
decreasing_by exact Tm.lt_of_mem hy
theorem Tm.Qb0 {m:Nat} {e:TEnv} (he:TB m e) (x:Tm) (hx:x.atom=true):x.rv e=x.ap e:=by
 have hnv:=T9 hx
 have hn:e x.name=none:=by
  cases h:e x.name with
  | none=>rfl
  | some t=>have:=(he _ _ h).2; rw [hnv] at this; cases this
 rw [Tm.Pi,Tm.Tq,Tm.NK,hnv]
 simp only [yQ,if_false]
 cases h0:x.args.isEmpty with
 | true =>
  have:x.args=[]:=by simpa using h0
  rw [hn,this]
  simp
 | false =>
  rw [cond_false]
  congr 1
  exact zW fun y hy=>Tm.QaR he y (Tm.Tu (Tm.M1 hx) hy)
def vT (l:List ByteArray):List Tm:=l.map fun v=>.mk v []
theorem Jy:∀ l:List ByteArray,Tm.nodeS (vT l)=l.length
 | []=>by simp [vT,Tm.nodeS]
 | v :: l=>by
  have ih:=Jy l
  unfold vT at ih ⊢
  rw [zG,Tm.nodeS,ih,Tm.nodes_eq]
  show 1+Tm.nodeS []+_=_
  rw [Tm.nodeS,List.length_cons]; omega
theorem QaS {l:List ByteArray} {k:Nat} (h:k<l.length) (h2:k<(vT l).length):(vT l)[k]=.mk l[k] []:=by simp only [vT,List.getElem_map]
def BL:ByteArray:=⟨#[115,107]⟩
def No:List Fm→Fm
 | []=>Fm.zero
 | x :: _=>x
noncomputable def skT (tk fr ou:List ByteArray) (c:Int):Tm:=.mk (pre BL (fresh BL tk c)) (vT (fr++ou))
mutual
noncomputable def Fm.sk (tk fr:List ByteArray):Fm→List ByteArray→TEnv→Int→Fm × Int
 | .mk op atom var parts,ou,e,c=>bif dec (op=3) then (.mk 3 (atom.rv e) ⟨#[]⟩ [],c)
  else bif dec (op=8) then (.mk 8 Tm.zero var [No (Fm.skL tk fr parts (ou++[var]) e c).1],(Fm.skL tk fr parts (ou++[var]) e c).2)
  else bif dec (op=9) then (No (Fm.skL tk fr parts ou (GQ e var (skT tk fr ou c)) (fresh BL tk c)).1,(Fm.skL tk fr parts ou (GQ e var (skT tk fr ou c)) (fresh BL tk c)).2)
  else (.mk op Tm.zero ⟨#[]⟩ (Fm.skL tk fr parts ou e c).1,(Fm.skL tk fr parts ou e c).2)
noncomputable def Fm.skL (tk fr:List ByteArray):List Fm→List ByteArray→TEnv→Int→List Fm × Int
 | [],_,_,c=>([],c)
 | x :: xs,ou,e,c=>((Fm.sk tk fr x ou e c).1 :: (Fm.skL tk fr xs ou e (Fm.sk tk fr x ou e c).2).1,(Fm.skL tk fr xs ou e (Fm.sk tk fr x ou e c).2).2)
end
theorem Fm.TA (tk fr ou:List ByteArray) (e:TEnv):∀ (xs:List Fm) (c:Int),Fm.skL tk fr xs ou e c=A4 (fun y c=>Fm.sk tk fr y ou e c) xs c
 | [],c=>by rw [Fm.skL]; rfl
 | x :: xs,c=>by rw [Fm.skL,A4,Fm.TA tk fr ou e xs]
theorem Fm.F7 (tk fr:List ByteArray) {x:Fm} (h:x.op=3) (ou:List ByteArray) (e:TEnv) (c:Int):x.sk tk fr ou e c=(.mk 3 (x.atom.rv e) ⟨#[]⟩ [],c):=by
 obtain ⟨op,atom,var,parts⟩:=x
 obtain rfl:op=3:=h
 rw [Fm.sk,Ar rfl]; rfl
theorem Fm.IG (tk fr:List ByteArray) {x p:Fm} (h:x.op=8) (hp:x.parts=[p]) (ou:List ByteArray) (e:TEnv) (c:Int):x.sk tk fr ou e c=(.mk 8 Tm.zero x.var [(p.sk tk fr (ou++[x.var]) e c).1],(p.sk tk fr (ou++[x.var]) e c).2):=by
 obtain ⟨op,atom,var,parts⟩:=x
 obtain rfl:op=8:=h
 obtain rfl:parts=[p]:=hp
 rw [Fm.sk,Aj (by decide),Ar rfl]
 simp only [cond_true,cond_false,Fm.skL,No,Fm.QaQ]
theorem Fm.Gw (tk fr:List ByteArray) {x p:Fm} (h:x.op=9) (hp:x.parts=[p]) (ou:List ByteArray) (e:TEnv) (c:Int):x.sk tk fr ou e c=p.sk tk fr ou (GQ e x.var (skT tk fr ou c)) (fresh BL tk c):=by
 obtain ⟨op,atom,var,parts⟩:=x
 obtain rfl:op=9:=h
 obtain rfl:parts=[p]:=hp
 rw [Fm.sk,Aj (by decide),Aj (by decide),Ar rfl]
 simp only [cond_true,cond_false,Fm.skL,No,Fm.QaQ]
theorem Fm.DL (tk fr:List ByteArray) {x:Fm} (h3:¬ x.op=3) (h8:¬ x.op=8) (h9:¬ x.op=9) (ou:List ByteArray) (e:TEnv) (c:Int):x.sk tk fr ou e c=(.mk x.op Tm.zero ⟨#[]⟩ (A4 (fun y c=>Fm.sk tk fr y ou e c) x.parts c).1,(A4 (fun y c=>Fm.sk tk fr y ou e c) x.parts c).2):=by
 obtain ⟨op,atom,var,parts⟩:=x
 have h3:¬ op=3:=h3
 have h8:¬ op=8:=h8
 have h9:¬ op=9:=h9
 rw [Fm.sk,Aj h3,Aj h8,Aj h9]
 simp only [Fm.TA]
 rfl
mutual
noncomputable def Fm.bad:Fm→Nat→Bool
 | .mk op _ _ parts,n=>(dec (op=9)&&dec (4 < n)) || Fm.Zd parts (bif dec (op=8) then n+1 else n)
noncomputable def Fm.Zd:List Fm→Nat→Bool
 | [],_=>false
 | x :: xs,n=>Fm.bad x n || Fm.Zd xs n
end
theorem Fm.TC (n:Nat):∀ xs:List Fm,Fm.Zd xs n=xs.any fun y=>y.bad n
 | []=>by rw [Fm.Zd]; rfl
 | x :: xs=>by rw [Fm.Zd,Fm.TC n xs]; rfl
theorem Fm.Ze (x:Fm) (n:Nat):x.bad n=((dec (x.op=9)&&dec (4<n)) || x.parts.any fun y=>y.bad (bif dec (x.op=8) then n+1 else n)):=by
 obtain ⟨op,atom,var,parts⟩:=x
 rw [Fm.bad,Fm.TC]; rfl
theorem Pk {α β:Type} (g:α→Int→β × Int) (b:α→Bool):∀ (xs:List α) (c:Int) (t:Bool),A4 (fun y (s:Int × Bool)=>((g y s.1).1,((g y s.1).2,s.2 || b y))) xs (c,t)=((A4 g xs c).1,((A4 g xs c).2,t || xs.any b))
 | [],c,t=>by simp [A4]
 | x :: xs,c,t=>by
  have ih:=Pk g b xs (g x c).2 (t || b x)
  rw [A4,A4]
  simp only
  rw [ih]
  simp only [List.any_cons,Bool.or_assoc]
theorem Fm.Jz (tk fr:List ByteArray) (x:Fm) (hx:x.forms=true):∀ (ou:List ByteArray) (e:TEnv) (c:Int),0≤c→c≤(x.sk tk fr ou e c).2∧(x.sk tk fr ou e c).2≤c+x.nodes*(tk.length+2:Nat):=by
 intro ou e c hc
 have ih:∀ y∈x.parts,∀ (ou:List ByteArray) (e:TEnv) (c:Int),0≤c→c≤(y.sk tk fr ou e c).2∧(y.sk tk fr ou e c).2≤c+y.nodes*(tk.length+2:Nat):=fun y hy=>Fm.Jz tk fr y (Fm.AQ hx hy)
 have key:∀ (ou:List ByteArray) (e:TEnv) (xs:List Fm),(∀ y∈xs,y∈x.parts)→∀ c:Int,0≤c→c≤(A4 (fun y c=>Fm.sk tk fr y ou e c) xs c).2∧(A4 (fun y c=>Fm.sk tk fr y ou e c) xs c).2≤c+Fm.nodeS xs*(tk.length+2:Nat):=by
  intro ou e xs
  induction xs with
  | nil=>intro _ c _; rw [A4,Fm.nodeS]; simp
  | cons y ys ihy =>
   intro hm c h0
   have h1:=ih y (hm y (by simp)) ou e c h0
   have h2:=ihy (fun z hz=>hm z (by simp [hz])) (y.sk tk fr ou e c).2 (by omega)
   rw [A4,Fm.nodeS]
   dsimp only
   rw [Int.natCast_add,Int.add_mul]
   omega
 have hfo:=Fm.Bo hx
 rw [Fm.nodes_eq,Int.natCast_add,Int.add_mul]
 have hT:(0:Int)≤(Fm.nodeS x.parts:Int)*(tk.length+2:Nat):=Int.mul_nonneg (by omega) (by omega)
 have hO:((1:Nat):Int)*(tk.length+2:Nat)=tk.length+2:=by simp
 rw [hO]
 by_cases h3:x.op=3
 ·rw [Fm.F7 tk fr h3]; dsimp only; omega
 by_cases h8:x.op=8
 ·obtain ⟨p,hp⟩:=(Fm.Bu hfo (by unfold qB; rw [Ar h8]; rfl)).2
  rw [Fm.IG tk fr h8 hp]
  have:=ih p (by rw [hp]; simp) (ou++[x.var]) e c hc
  have hs:Fm.nodeS x.parts=p.nodes:=by rw [hp]; simp [Fm.nodeS]
  rw [hs]
  dsimp only
  omega
 by_cases h9:x.op=9
 ·obtain ⟨p,hp⟩:=(Fm.Bu hfo (by unfold qB; rw [Ar h9]; simp)).2
  rw [Fm.Gw tk fr h9 hp]
  have hf:=C7 BL tk c
  have:=ih p (by rw [hp]; simp) ou (GQ e x.var (skT tk fr ou c)) (fresh BL tk c) (by omega)
  have hs:Fm.nodeS x.parts=p.nodes:=by rw [hp]; simp [Fm.nodeS]
  rw [hs]
  omega
 ·rw [Fm.DL tk fr h3 h8 h9]
  have:=key ou e x.parts (fun y hy=>hy) c hc
  dsimp only
  omega
termination_by SizeOf.sizeOf x
decreasing_by exact Fm.lt_of_mem hy
theorem Fm.Pl (tk fr:List ByteArray) (x:Fm) (hx:x.forms=true):∀ (ou:List ByteArray) (e:TEnv) (c:Int),fr.length+ou.length+x.nodes≤1000000→TB 1000001 e→(x.sk tk fr ou e c).1.tame∧(x.sk tk fr ou e c).1.nodes≤x.nodes:=by
 intro ou e c hb he
 have ih:∀ y∈x.parts,∀ (ou:List ByteArray) (e:TEnv) (c:Int),fr.length+ou.length+y.nodes≤1000000→TB 1000001 e→(y.sk tk fr ou e c).1.tame∧(y.sk tk fr ou e c).1.nodes≤y.nodes:=fun y hy=>Fm.Pl tk fr y (Fm.AQ hx hy)
 have key:∀ (xs:List Fm),(∀ y∈xs,y∈x.parts)→∀ c:Int,Fm.Cb (A4 (fun y c=>Fm.sk tk fr y ou e c) xs c).1∧Fm.nodeS (A4 (fun y c=>Fm.sk tk fr y ou e c) xs c).1≤Fm.nodeS xs:=by
  intro xs
  induction xs with
  | nil=>intro _ c; rw [A4,Fm.Cb,Fm.nodeS]; exact ⟨trivial,yC _⟩
  | cons y ys ihy =>
   intro hm c
   have hle:=Fm.nodes_mem (hm y (by simp))
   have hxe:=Fm.nodes_eq x
   have h1:=ih y (hm y (by simp)) ou e c (by omega) he
   have h2:=ihy (fun z hz=>hm z (by simp [hz])) (y.sk tk fr ou e c).2
   rw [A4,Fm.Cb,Fm.nodeS,Fm.nodeS]
   exact ⟨⟨h1.1,h2.1⟩,by omega⟩
 have hfo:=Fm.Bo hx
 have hz:Tm.zero.nodes≤1099511627776:=by rw [Tm.IE]; omega
 have hne:=Fm.nodes_eq x
 by_cases h3:x.op=3
 ·rw [Fm.F7 tk fr h3,Fm.DT,Fm.nodes_mk,Fm.Cb,Fm.nodeS]
  have h1:=Tm.Pj (by omega) he x.atom
  have h2:=Fm.F4 hfo
  have h4:1000001*x.atom.nodes≤1000001*30:=Nat.mul_le_mul_left _ h2
  exact ⟨⟨by omega,trivial⟩,by omega⟩
 by_cases h8:x.op=8
 ·obtain ⟨p,hp⟩:=(Fm.Bu hfo (by unfold qB; rw [Ar h8]; rfl)).2
  have hs:Fm.nodeS x.parts=p.nodes:=by rw [hp]; simp [Fm.nodeS]
  have:=ih p (by rw [hp]; simp) (ou++[x.var]) e c (by rw [zJ,List.length_singleton]; omega) he
  rw [Fm.IG tk fr h8 hp,Fm.DT,Fm.nodes_mk,Fm.Cb,Fm.Cb,Fm.nodeS,Fm.nodeS]
  exact ⟨⟨hz,this.1,trivial⟩,by omega⟩
 by_cases h9:x.op=9
 ·obtain ⟨hvx,p,hp⟩:=Fm.Bu hfo (by unfold qB; rw [Ar h9]; simp)
  have hs:Fm.nodeS x.parts=p.nodes:=by rw [hp]; simp [Fm.nodeS]
  have ht:(skT tk fr ou c).nodes≤1000001:=by
   unfold skT
   rw [Tm.nodes_eq]
   show 1+Tm.nodeS (vT (fr++ou))≤_
   rw [Jy,zJ]; omega
  have:=ih p (by rw [hp]; simp) ou (GQ e x.var (skT tk fr ou c)) (fresh BL tk c) (by omega) (he.put hvx ht)
  rw [Fm.Gw tk fr h9 hp]
  exact ⟨this.1,by omega⟩
 ·have:=key x.parts (fun y hy=>hy) c
  rw [Fm.DL tk fr h3 h8 h9,Fm.DT,Fm.nodes_mk]
  exact ⟨⟨hz,this.1⟩,by omega⟩
termination_by SizeOf.sizeOf x
decreasing_by exact Fm.lt_of_mem hy
theorem LE {p:ByteArray} {t u:List ByteArray} (h:∀ k:Int,pre p k∈t ↔ pre p k∈u):∀ (n:Nat) (c:Int),D7 p t n c=D7 p u n c
 | 0,c=>rfl
 | n+1,c=>by
  rw [D7,D7,LE h n,show (pre p (c+1)∈t)=(pre p (c+1)∈u) from propext (h _)]
theorem TD {p:ByteArray} {t u:List ByteArray} (h:∀ k:Int,pre p k∈t ↔ pre p k∈u) {c:Int} (hc:0≤c):fresh p t c=fresh p u c:=by
 have h1:=M5 p t c
 have h2:=M5 p u c
 have h3:fresh p t c=D7 p t (t.length+u.length+1) c:=Hu _ _ _ hc (by omega) (by omega)
 have h4:fresh p u c=D7 p u (t.length+u.length+1) c:=Hu _ _ _ hc (by omega) (by omega)
 rw [h3,h4,LE h]
theorem Fm.TE {tk tu:List ByteArray} (fr:List ByteArray) (h:∀ k:Int,pre BL k∈tk ↔ pre BL k∈tu) (x:Fm) (hx:x.forms=true):∀ (ou:List ByteArray) (e:TEnv) (c:Int),0≤c→x.sk tk fr ou e c=x.sk tu fr ou e c:=by
 intro ou e c hc
 have ih:∀ y∈x.parts,∀ (ou:List ByteArray) (e:TEnv) (c:Int),0≤c→y.sk tk fr ou e c=y.sk tu fr ou e c:=fun y hy=>Fm.TE fr h y (Fm.AQ hx hy)
 have hfo:=Fm.Bo hx
 have hcnt:∀ y∈x.parts,∀ (c:Int),0≤c→0≤(y.sk tu fr ou e c).2:=fun y hy c hc=>by
  have:=(Fm.Jz tu fr y (Fm.AQ hx hy) ou e c hc).1
  omega
 have key:∀ (xs:List Fm),(∀ y∈xs,y∈x.parts)→∀ c:Int,0≤c→A4 (fun y c=>Fm.sk tk fr y ou e c) xs c=A4 (fun y c=>Fm.sk tu fr y ou e c) xs c:=by
  intro xs
  induction xs with
  | nil=>intro _ c _; rfl
  | cons y ys ihy =>
   intro hm c h0
   rw [A4,A4,ih y (hm y (by simp)) ou e c h0,ihy (fun z hz=>hm z (by simp [hz])) _ (hcnt y (hm y (by simp)) c h0)]
 by_cases h3:x.op=3
 ·rw [Fm.F7 tk fr h3,Fm.F7 tu fr h3]
 by_cases h8:x.op=8
 ·obtain ⟨p,hp⟩:=(Fm.Bu hfo (by unfold qB; rw [Ar h8]; rfl)).2
  rw [Fm.IG tk fr h8 hp,Fm.IG tu fr h8 hp,ih p (by rw [hp]; simp) _ _ _ hc]
 by_cases h9:x.op=9
 ·obtain ⟨p,hp⟩:=(Fm.Bu hfo (by unfold qB; rw [Ar h9]; simp)).2
  have hf:=C7 BL tu c
  rw [Fm.Gw tk fr h9 hp,Fm.Gw tu fr h9 hp,skT,skT,TD h hc,ih p (by rw [hp]; simp) _ _ _ (by omega)]
 ·rw [Fm.DL tk fr h3 h8 h9,Fm.DL tu fr h3 h8 h9,key x.parts (fun y hy=>hy) c hc]
termination_by SizeOf.sizeOf x
decreasing_by exact Fm.lt_of_mem hy
def Kt:SC:=(.seq (.reg [⟨some 1,none,.boxv 29 5 (.t 0)⟩,⟨some 2,none,.mv (.c (.int .i64 0))⟩]) (.seq (.reg [⟨some 3,none,.mv (.c (.int .i64 1))⟩]) (.seq (.seq (.reg [⟨some 6,none,.faddr 4 (.t 1)⟩,⟨some 7,none,.load false 1 (.t 6)⟩,⟨some 8,none,.len false (.t 7)⟩,⟨some 9,none,.mv (.c (.int .i64 0))⟩]) (.block 0 (.loop [0,0,0,1,0,0,0,1,1,1,0,0,0,0,0,0,0,0,0,0,0,0] (.seq (.reg [⟨some 10,none,.bin .lss false (.t 9) (.t 8)⟩]) (.seq (.cond (.t 10) .skip (.exit 0)) (.seq (.block 1 (.seq (.reg [⟨some 11,none,.iaddr 5 (.t 7) (.t 9)⟩,⟨some 12,none,.load true 5 (.t 11)⟩,⟨(some 5),none,(.alloc 29 [(.int .i64 0),(.str ⟨#[]⟩),.nil,(.str ⟨#[]⟩),.nil])⟩,⟨none,none,(.store 5 (.t 5) (.t 12))⟩]) (.seq (.seq (.reg [⟨some 13,none,.mv (.t 3)⟩,⟨some 14,none,.bin .gtr false (.t 13) (.c (.int .i64 40))⟩]) (.cond (.t 14) (.seq (.reg [⟨some 15,none,.mv (.t 3)⟩,⟨some 2,none,.mv (.t 15)⟩]) .ret) .skip)) (.reg [⟨some 16,none,.mv (.t 3)⟩,⟨some 17,none,.load true 5 (.t 5)⟩,⟨some 18,none,.call 57 [(.t 17)]⟩,⟨some 19,none,.bin .add false (.t 16) (.t 18)⟩,⟨some 3,none,.mv (.t 19)⟩])))) (.reg [⟨some 20,none,.bin .add false (.t 9) (.c (.int .i64 1))⟩,⟨some 9,none,.mv (.t 20)⟩]))))))) (.seq (.reg [⟨some 21,none,.mv (.t 3)⟩,⟨some 2,none,.mv (.t 21)⟩]) .ret))))
theorem PI:At Tryz.prog 57=some ⟨22,Kt,[(.tmp 2)]⟩:=by kernel_rfl
theorem Ej:modes 57=⟨[],.asis,none,false⟩:=by unfold modes; rfl
theorem Zf (x:Fm) (hn:x.nodes≤1099511627776) (ih:∀ y∈x.parts,E 57 [y.sv] []=some (.int .i64 y.cap,[])):E 57 [x.sv] []=some (.int .i64 x.cap,[]):=by
 have hl:=Fm.length_le x.parts
 have hx:=Fm.nodes_eq x
 rw [Fm.cap_eq]
 refine Ai PI Ej (of_decide_eq_true rfl) ?_
 simp (disch:=omega) only [Kt,go_sem,Ab]
 refine go_loop (α:=Int × Int) (fun a=>⟨slots 22 0 [(3,.int .i64 a.2),(7,.arr (x.parts.map Fm.d)),(8,.int .i64 x.parts.length),(9,.int .i64 a.1)],[]⟩) (fun a=>∃ k:Nat,a.1=k∧k≤x.parts.length∧1≤a.2∧a.2+Fm.nodeS (x.parts.drop k)≤x.nodes∧Fm.capL (x.parts.drop k) a.2=Fm.capL x.parts 1) (fun a=>x.parts.length-a.1.toNat) (0,1) ⟨0,rfl,zK _,by dsimp only; omega,by rw [zI]; dsimp only; omega,rfl⟩ (by simp (disch:=omega) only [go_sem,Ab]) ?_
 rintro ⟨i,n⟩ ⟨k,hi,hk,hn0,hn1,hs⟩
 dsimp only at hi hn0 hn1 hs
 have hni:i.toNat=k:=by omega
 rcases zC k x.parts.length with hlt | hge
 ·have hg:=get_at Fm.d hlt
  rw [Fm.d_eq] at hg
  have hd:x.parts.drop k=x.parts[k] :: x.parts.drop (k+1):=zB hlt
  have hc:=ih x.parts[k] (zD hlt)
  have hp:=Fm.cap_spec x.parts[k]
  rw [hd,Fm.capL] at hs
  rw [hd,Fm.nodeS] at hn1
  rcases Int.lt_or_le 40 n with h30 | h30
  ·rw [if_pos h30] at hs
   simp (disch:=omega) only [go_sem,Ab,hni,hg,hc,Ej]
   exact hs
  ·rw [if_neg (by omega)] at hs
   simp (disch:=omega) only [go_sem,Ab,hni,hg,hc,Ej]
   refine ⟨(i+1,n+x.parts[k].cap),⟨k+1,by dsimp only; omega,hlt,by dsimp only; omega,by dsimp only; omega,hs⟩,by dsimp only; omega,?_⟩
   simp only [and_self]
 ·have hd:x.parts.drop k=[]:=zE hge
  rw [hd,Fm.capL] at hs
  simp (disch:=omega) only [go_sem,Ab,hni]
  exact hs
theorem W7 (x:Fm) (hn:x.nodes≤1099511627776):E 57 [x.sv] []=some (.int .i64 x.cap,[]) :=
 Zf x hn fun y hy=>W7 y (by have:=Fm.nodes_mem hy; have:=Fm.nodes_eq x; omega)
termination_by SizeOf.sizeOf x
decreasing_by exact Fm.lt_of_mem hy
def Ku:SC:=(.seq (.reg [⟨some 2,none,.boxv 29 5 (.t 0)⟩,⟨some 4,none,.mv (.c (.int .i64 0))⟩]) (.seq (.reg [⟨some 5,none,.mv (.c (.int .i64 1))⟩]) (.seq (.seq (.reg [⟨some 6,none,.mv (.c (.int .i64 0))⟩]) (.block 0 (.loop [0,1,1,0,0,1,1,0,0,0,0,0,0,0,0,0,0,0,0,0,0,0,0,0,0,0,0,0,0,0,0] (.seq (.seq (.reg [⟨some 7,none,.mv (.t 6)⟩,⟨some 8,none,.faddr 4 (.t 2)⟩,⟨some 9,none,.load false 1 (.t 8)⟩,⟨some 10,none,.len false (.t 9)⟩,⟨some 11,none,.bin .lss false (.t 7) (.t 10)⟩,⟨some 12,none,.mv (.t 11)⟩,⟨(some 13),(some (12,true)),(.mv (.t 5))⟩,⟨(some 14),(some (12,true)),(.mv (.t 1))⟩,⟨(some 15),(some (12,true)),(.bin .leq false (.t 13) (.t 14))⟩,⟨some 16,none,.pick (.t 12) (.t 15) (.c (.bool false))⟩]) (.cond (.t 16) .skip (.exit 0))) (.seq (.block 1 (.reg [⟨some 19,none,.mv (.t 5)⟩,⟨some 20,none,.faddr 4 (.t 2)⟩,⟨some 21,none,.load false 1 (.t 20)⟩,⟨some 22,none,.mv (.t 6)⟩,⟨some 23,none,.iaddr 5 (.t 21) (.t 22)⟩,⟨some 24,none,.load true 5 (.t 23)⟩,⟨some 25,none,.mv (.t 1)⟩,⟨some 26,none,.mv (.t 5)⟩,⟨some 27,none,.bin .sub false (.t 25) (.t 26)⟩,⟨some 28,none,.call 65 [(.t 24),(.t 27)]⟩,⟨some 29,none,.bin .add false (.t 19) (.t 28)⟩,⟨some 5,none,.mv (.t 29)⟩])) (.reg [⟨some 17,none,.mv (.t 6)⟩,⟨some 18,none,.bin .add false (.t 17) (.c (.int .i64 1))⟩,⟨some 6,none,.mv (.t 18)⟩])))))) (.seq (.reg [⟨some 30,none,.mv (.t 5)⟩,⟨some 4,none,.mv (.t 30)⟩]) .ret))))
theorem PJ:At Tryz.prog 65=some ⟨31,Ku,[(.tmp 4)]⟩:=by kernel_rfl
theorem Ek:modes 65=⟨[],.asis,none,false⟩:=by unfold modes; rfl
theorem Zg (x:Fm) (m:Int) (hm:0≤m) (hm1:m≤1099511627776) (hn:x.nodes≤1099511627776) (ih:∀ y∈x.parts,∀ m:Int,0≤m→m≤1099511627776→E 65 [y.sv,.int .i64 m] []=some (.int .i64 (y.many m),[])):E 65 [x.sv,.int .i64 m] []=some (.int .i64 (x.many m),[]):=by
 have hl:=Fm.length_le x.parts
 have hx:=Fm.nodes_eq x
 rw [Fm.many_eq]
 refine Ai PJ Ek (of_decide_eq_true rfl) ?_
 simp (disch:=omega) only [Ku,go_sem,Ab]
 refine go_loop (α:=Int × Int) (fun a=>⟨slots 31 0 [(1,.int .i64 m),(2,.ptr 0 0),(5,.int .i64 a.2),(6,.int .i64 a.1)],[.box 29 [.int .i64 x.op,.str x.atom.name,.arr (x.atom.args.map Tm.d),.str x.var,.arr (x.parts.map Fm.d)]]⟩) (fun a=>∃ k:Nat,a.1=k∧k≤x.parts.length∧1≤a.2∧a.2+Fm.nodeS (x.parts.drop k)≤x.nodes∧Fm.manyL (x.parts.drop k) m a.2=Fm.manyL x.parts m 1) (fun a=>x.parts.length-a.1.toNat) (0,1) ⟨0,rfl,zK _,by dsimp only; omega,by rw [zI]; dsimp only; omega,rfl⟩ (by simp (disch:=omega) only [go_sem,Ab]) ?_
 rintro ⟨i,n⟩ ⟨k,hi,hk,hn0,hn1,hs⟩
 dsimp only at hi hn0 hn1 hs
 have hni:i.toNat=k:=by omega
 rcases zC k x.parts.length with hlt | hge
 ·have hg:=get_at Fm.d hlt
  rw [Fm.d_eq] at hg
  have hd:x.parts.drop k=x.parts[k] :: x.parts.drop (k+1):=zB hlt
  rw [hd,Fm.manyL] at hs
  rw [hd,Fm.nodeS] at hn1
  rcases Int.lt_or_le m n with h30 | h30
  ·rw [if_neg (by omega)] at hs
   simp (disch:=omega) only [go_sem,Ab,hni,hg,Ek]
   exact hs
  ·rw [if_pos h30] at hs
   have hc:=ih x.parts[k] (zD hlt) (m-n) (by omega) (by omega)
   have hp:=Fm.many_spec x.parts[k] (m-n)
   simp (disch:=omega) only [go_sem,Ab,hni,hg,hc,Ek]
   refine ⟨(i+1,n+x.parts[k].many (m-n)),⟨k+1,by dsimp only; omega,hlt,by dsimp only; omega,by dsimp only; omega,hs⟩,by dsimp only; omega,?_⟩
   simp only [and_self]
 ·have hd:x.parts.drop k=[]:=zE hge
  rw [hd,Fm.manyL] at hs
  simp (disch:=omega) only [go_sem,Ab,hni]
  exact hs
theorem W8 (x:Fm) (m:Int) (hm:0≤m) (hm1:m≤1099511627776) (hn:x.nodes≤1099511627776):E 65 [x.sv,.int .i64 m] []=some (.int .i64 (x.many m),[]) :=
 Zg x m hm hm1 hn fun y hy m hm hm1=>W8 y m hm hm1 (by have:=Fm.nodes_mem hy; have:=Fm.nodes_eq x; omega)
termination_by SizeOf.sizeOf x
decreasing_by exact Fm.lt_of_mem hy
def Ef:SC:=(.seq (.reg [⟨some 2,none,.mv (.c (.bool false))⟩]) (.seq (.reg [⟨some 3,none,.mv (.t 0)⟩,⟨some 4,none,.bin .eql false (.t 3) (.c (.int .i64 8))⟩,⟨some 5,none,.mv (.t 4)⟩,⟨(some 6),(some (5,false)),(.mv (.t 0))⟩,⟨(some 7),(some (5,false)),(.bin .eql false (.t 6) (.c (.int .i64 9)))⟩,⟨some 8,none,.pick (.t 5) (.c (.bool true)) (.t 7)⟩,⟨some 2,none,.mv (.t 8)⟩]) .ret))
theorem Gk:At Tryz.prog 71=some ⟨9,Ef,[(.tmp 2)]⟩:=by kernel_rfl
theorem Ac:modes 71=⟨[],.asis,none,false⟩:=by unfold modes; rfl
def IP:SC:=(.seq (.reg [⟨some 2,none,.mv (.c (.bool false))⟩]) (.seq (.reg [⟨some 3,none,.mv (.t 0)⟩,⟨some 4,none,.bin .eql false (.t 3) (.c (.int .i64 5))⟩,⟨some 5,none,.mv (.t 4)⟩,⟨(some 6),(some (5,false)),(.mv (.t 0))⟩,⟨(some 7),(some (5,false)),(.bin .eql false (.t 6) (.c (.int .i64 6)))⟩,⟨some 8,none,.pick (.t 5) (.c (.bool true)) (.t 7)⟩,⟨some 9,none,.mv (.t 8)⟩,⟨(some 10),(some (9,false)),(.mv (.t 0))⟩,⟨(some 11),(some (9,false)),(.bin .eql false (.t 10) (.c (.int .i64 7)))⟩,⟨some 12,none,.pick (.t 9) (.c (.bool true)) (.t 11)⟩,⟨some 2,none,.mv (.t 12)⟩]) .ret))
theorem N5:At Tryz.prog 110=some ⟨13,IP,[(.tmp 2)]⟩:=by kernel_rfl
theorem Ah:modes 110=⟨[],.asis,none,false⟩:=by unfold modes; rfl
def EK:SC:=(.seq (.reg [⟨some 1,none,.boxv 26 2 (.t 0)⟩,⟨some 2,none,.mv (.c (.bool false))⟩]) (.seq (.reg [⟨some 3,none,.faddr 0 (.t 1)⟩,⟨some 4,none,.load false 1 (.t 3)⟩,⟨(some 5),none,(.bin .eql false (.t 4) (.c (.str ⟨#[]⟩)))⟩,⟨some 6,none,.mv (.t 5)⟩,⟨(some 7),(some (6,true)),(.faddr 1 (.t 1))⟩,⟨(some 8),(some (6,true)),(.load false 1 (.t 7))⟩,⟨(some 9),(some (6,true)),(.len false (.t 8))⟩,⟨(some 10),(some (6,true)),(.bin .eql false (.t 9) (.c (.int .i64 0)))⟩,⟨some 11,none,.pick (.t 6) (.t 10) (.c (.bool false))⟩,⟨some 2,none,.mv (.t 11)⟩]) .ret))
theorem Hv:At Tryz.prog 113=some ⟨12,EK,[(.tmp 2)]⟩:=by kernel_rfl
theorem Af:modes 113=⟨[],.asis,none,false⟩:=by unfold modes; rfl
def HH:SC:=(.seq (.reg [⟨some 1,none,.boxv 26 2 (.t 0)⟩,⟨some 2,none,.mv (.c (.bool false))⟩]) (.seq (.reg [⟨some 3,none,.faddr 0 (.t 1)⟩,⟨some 4,none,.load false 1 (.t 3)⟩,⟨(some 5),none,(.bin .eql false (.t 4) (.c (.str ⟨#[]⟩)))⟩,⟨some 6,none,.mv (.t 5)⟩,⟨(some 7),(some (6,true)),(.faddr 1 (.t 1))⟩,⟨(some 8),(some (6,true)),(.load false 1 (.t 7))⟩,⟨(some 9),(some (6,true)),(.len false (.t 8))⟩,⟨(some 10),(some (6,true)),(.bin .eql false (.t 9) (.c (.int .i64 0)))⟩,⟨some 11,none,.pick (.t 6) (.t 10) (.c (.bool false))⟩,⟨some 2,none,.mv (.t 11)⟩]) .ret))
theorem Kv:At Tryz.prog 174=some ⟨12,HH,[(.tmp 2)]⟩:=by kernel_rfl
theorem Aq:modes 174=⟨[],.asis,none,false⟩:=by unfold modes; rfl
def BT:SC:=(.seq (.reg [⟨some 4,none,.mv (.c (.int .i64 0))⟩]) (.seq (.seq (.reg [⟨some 6,none,.mv (.t 0)⟩,⟨some 7,none,.len false (.t 6)⟩,⟨some 8,none,.mv (.c (.int .i64 0))⟩]) (.block 0 (.loop [1,1,0,0,0,0,0,1,1,0,0,0,0,0,0,0,0,0,0] (.seq (.reg [⟨some 9,none,.bin .lss false (.t 8) (.t 7)⟩]) (.seq (.cond (.t 9) .skip (.exit 0)) (.seq (.block 1 (.seq (.reg [⟨some 10,none,.mv (.t 8)⟩,⟨some 5,none,.mv (.t 10)⟩]) (.seq (.reg [⟨some 11,none,.mv (.t 1)⟩,⟨some 12,none,.mv (.t 0)⟩,⟨some 13,none,.mv (.t 5)⟩,⟨some 14,none,.iaddr 5 (.t 12) (.t 13)⟩,⟨some 15,none,.load true 5 (.t 14)⟩,⟨some 16,none,.callv (.t 11) [(.t 15)]⟩]) (.cond (.t 16) (.seq (.reg [⟨some 17,none,.mv (.t 5)⟩,⟨some 4,none,.mv (.t 17)⟩]) .ret) .skip)))) (.reg [⟨some 18,none,.bin .add false (.t 8) (.c (.int .i64 1))⟩,⟨some 8,none,.mv (.t 18)⟩]))))))) (.seq (.reg [⟨some 4,none,.mv (.c (.int .i64 (-(0+1))))⟩]) .ret)))
theorem Db:At Tryz.prog 126=some ⟨19,BT,[(.tmp 4)]⟩:=by kernel_rfl
theorem BU:modes 126=⟨[],.asis,none,false⟩:=by unfold modes; rfl
def BI:SC:=(.seq (.reg [⟨some 4,none,.mv (.c (.bool false))⟩]) (.seq (.reg [⟨some 5,none,.mv (.t 0)⟩,⟨some 6,none,.mv (.t 1)⟩,⟨some 7,none,.call 126 [(.t 5),(.t 6)]⟩,⟨some 8,none,.bin .geq false (.t 7) (.c (.int .i64 0))⟩,⟨some 4,none,.mv (.t 8)⟩]) .ret))
theorem CL:At Tryz.prog 76=some ⟨9,BI,[(.tmp 4)]⟩:=by kernel_rfl
theorem Aa:modes 76=⟨[],.asis,none,false⟩:=by unfold modes; rfl
theorem N6 (fid:Nat) (p:Fm→Bool) (xs:List Fm) (hl:xs.length≤1099511627776) (hg:IY Tryz.prog fid=true) (hm:(modes fid).hand=[]) (hE:∀ x∈xs,E fid [x.sv] []=some (.bool (p x),[])):E 126 [.arr (xs.map Fm.d),.fn fid []] []=some (.int .i64 (Ed p xs 0),[]):=by
 refine Ai Db BU (of_decide_eq_true rfl) ?_
 simp (disch:=omega) only [BT,go_sem,Ab]
 refine go_loop (α:=Int) (fun a=>⟨slots 19 0 [(0,.arr (xs.map Fm.d)),(1,.fn fid []),(7,.int .i64 xs.length),(8,.int .i64 a)],[]⟩) (fun a=>∃ k:Nat,a=k∧k≤(xs).length∧Ed p (xs.drop k) a=Ed p xs 0) (fun a=>(xs).length-(a).toNat) 0 ⟨0,rfl,zK _,by rw [zI]⟩ (by simp (disch:=omega) only [go_sem,Ab]) ?_
 rintro i ⟨k,hi,hk,hR⟩
 have hni:i.toNat=k:=by omega
 have hni1:(i+1).toNat=k+1:=by omega
 rcases zC k (xs).length with hlt | hge
 ·have hg':=get_at Fm.d hlt
  rw [Fm.d_eq] at hg'
  have hc:=hE xs[k] (zD hlt)
  rw [zB hlt,Ed] at hR
  cases hp:p xs[k] with
  | true =>
   rw [hp] at hc hR
   simp (disch:=omega) only [go_sem,Ab,hni,hg',hc,hg,hm]
   simpa using hR
  | false =>
   rw [hp] at hc hR
   simp (disch:=omega) only [go_sem,Ab,hni,hg',hc,hg,hm]
   exact ⟨i+1,⟨k+1,by omega,hlt,by simpa using hR⟩,by omega,by first | trivial | rfl⟩
 ·rw [zE hge,Ed] at hR
  simp (disch:=omega) only [go_sem,Ab,hni]
  exact hR
theorem GR (fid:Nat) (p:Fm→Bool) (xs:List Fm) (hl:xs.length≤1099511627776) (hg:IY Tryz.prog fid=true) (hm:(modes fid).hand=[]) (hE:∀ x∈xs,E fid [x.sv] []=some (.bool (p x),[])):E 76 [.arr (xs.map Fm.d),.fn fid []] []=some (.bool (xs.any p),[]):=by
 have h:=N6 fid p xs hl hg hm hE
 refine Ai CL Aa (of_decide_eq_true rfl) ?_
 simp (disch:=omega) only [BI,go_sem,Ab,h,BU]
 rw [Lz]
def AC:SC:=(.seq (.reg [⟨some 1,none,.boxv 29 5 (.t 0)⟩,⟨some 2,none,.mv (.c (.bool false))⟩]) (.seq (.reg [⟨some 3,none,.mv (.c (.int .i64 0))⟩]) (.seq (.block 0 (.seq (.seq (.reg [⟨some 5,none,.faddr 0 (.t 1)⟩,⟨some 6,none,.load false 1 (.t 5)⟩,⟨some 7,none,.bin .eql false (.t 6) (.c (.int .i64 1))⟩,⟨some 4,none,.mv (.t 7)⟩]) (.cond (.t 4) .skip (.seq (.reg [⟨some 8,none,.faddr 0 (.t 1)⟩,⟨some 9,none,.load false 1 (.t 8)⟩,⟨some 10,none,.bin .eql false (.t 9) (.c (.int .i64 2))⟩,⟨some 4,none,.mv (.t 10)⟩]) (.cond (.t 4) .skip (.reg [⟨some 11,none,.faddr 0 (.t 1)⟩,⟨some 12,none,.load false 1 (.t 11)⟩,⟨some 13,none,.bin .eql false (.t 12) (.c (.int .i64 3))⟩,⟨some 4,none,.mv (.t 13)⟩]))))) (.cond (.t 4) .skip (.seq (.seq (.reg [⟨some 15,none,.faddr 0 (.t 1)⟩,⟨some 16,none,.load false 1 (.t 15)⟩,⟨some 17,none,.bin .eql false (.t 16) (.c (.int .i64 4))⟩,⟨some 14,none,.mv (.t 17)⟩]) (.cond (.t 14) .skip (.reg [⟨some 18,none,.faddr 0 (.t 1)⟩,⟨some 19,none,.load false 1 (.t 18)⟩,⟨some 20,none,.call 71 [(.t 19)]⟩,⟨some 14,none,.mv (.t 20)⟩]))) (.cond (.t 14) (.reg [⟨some 3,none,.mv (.c (.int .i64 1))⟩]) (.seq (.reg [⟨some 22,none,.faddr 0 (.t 1)⟩,⟨some 23,none,.load false 1 (.t 22)⟩,⟨some 24,none,.call 110 [(.t 23)]⟩,⟨some 21,none,.mv (.t 24)⟩]) (.cond (.t 21) (.reg [⟨some 3,none,.mv (.c (.int .i64 2))⟩]) (.seq (.reg [⟨some 2,none,.mv (.c (.bool false))⟩]) .ret)))))))) (.seq (.seq (.reg [⟨some 25,none,.faddr 4 (.t 1)⟩,⟨some 26,none,.load false 1 (.t 25)⟩,⟨some 27,none,.len false (.t 26)⟩,⟨some 28,none,.mv (.t 3)⟩,⟨some 29,none,.bin .neq false (.t 27) (.t 28)⟩,⟨some 30,none,.mv (.t 29)⟩,⟨(some 31),(some (30,false)),(.faddr 0 (.t 1))⟩,⟨(some 32),(some (30,false)),(.load false 1 (.t 31))⟩,⟨(some 33),(some (30,false)),(.call 71 [(.t 32)])⟩,⟨(some 34),(some (30,false)),(.mv (.t 33))⟩,⟨(some 35),(some (34,true)),(.faddr 3 (.t 1))⟩,⟨(some 36),(some (34,true)),(.load false 1 (.t 35))⟩,⟨(some 37),(some (34,true)),(.call 111 [(.t 36)])⟩,⟨(some 38),(some (34,true)),(.un .not (.t 37))⟩,⟨(some 39),(some (30,false)),(.pick (.t 34) (.t 38) (.c (.bool false)))⟩,⟨some 40,none,.pick (.t 30) (.c (.bool true)) (.t 39)⟩,⟨some 41,none,.mv (.t 40)⟩,⟨(some 42),(some (41,false)),(.faddr 0 (.t 1))⟩,⟨(some 43),(some (41,false)),(.load false 1 (.t 42))⟩,⟨(some 44),(some (41,false)),(.call 71 [(.t 43)])⟩,⟨(some 45),(some (41,false)),(.un .not (.t 44))⟩,⟨(some 46),(some (41,false)),(.mv (.t 45))⟩,⟨(some 47),(some (46,true)),(.faddr 3 (.t 1))⟩,⟨(some 48),(some (46,true)),(.load false 1 (.t 47))⟩,⟨(some 49),(some (46,true)),(.bin .neq false (.t 48) (.c (.str ⟨#[]⟩)))⟩,⟨(some 50),(some (41,false)),(.pick (.t 46) (.t 49) (.c (.bool false)))⟩,⟨some 51,none,.pick (.t 41) (.c (.bool true)) (.t 50)⟩]) (.cond (.t 51) (.seq (.reg [⟨some 2,none,.mv (.c (.bool false))⟩]) .ret) .skip)) (.seq (.seq (.reg [⟨some 52,none,.faddr 0 (.t 1)⟩,⟨some 53,none,.load false 1 (.t 52)⟩,⟨some 54,none,.bin .eql false (.t 53) (.c (.int .i64 3))⟩,⟨some 55,none,.mv (.t 54)⟩,⟨(some 56),(some (55,true)),(.faddr 1 (.t 1))⟩,⟨(some 57),(some (55,true)),(.load true 2 (.t 56))⟩,⟨(some 58),(some (55,true)),(.call 112 [(.t 57)])⟩,⟨(some 59),(some (55,true)),(.un .not (.t 58))⟩,⟨some 60,none,.pick (.t 55) (.t 59) (.c (.bool false))⟩,⟨some 61,none,.mv (.t 60)⟩,⟨(some 62),(some (61,false)),(.faddr 0 (.t 1))⟩,⟨(some 63),(some (61,false)),(.load false 1 (.t 62))⟩,⟨(some 64),(some (61,false)),(.bin .neq false (.t 63) (.c (.int .i64 3)))⟩,⟨(some 65),(some (61,false)),(.mv (.t 64))⟩,⟨(some 66),(some (65,true)),(.faddr 1 (.t 1))⟩,⟨(some 67),(some (65,true)),(.load true 2 (.t 66))⟩,⟨(some 68),(some (65,true)),(.call 113 [(.t 67)])⟩,⟨(some 69),(some (65,true)),(.un .not (.t 68))⟩,⟨(some 70),(some (61,false)),(.pick (.t 65) (.t 69) (.c (.bool false)))⟩,⟨some 71,none,.pick (.t 61) (.c (.bool true)) (.t 70)⟩]) (.cond (.t 71) (.seq (.reg [⟨some 2,none,.mv (.c (.bool false))⟩]) .ret) .skip)) (.seq (.reg [⟨some 72,none,.faddr 4 (.t 1)⟩,⟨some 73,none,.load false 1 (.t 72)⟩,⟨some 74,none,.call 76 [(.t 73),(.c (.fn 114 []))]⟩,⟨some 75,none,.un .not (.t 74)⟩,⟨some 2,none,.mv (.t 75)⟩]) .ret))))))
theorem AE:At Tryz.prog 58=some ⟨76,AC,[(.tmp 2)]⟩:=by kernel_rfl
theorem A9:modes 58=⟨[],.asis,none,false⟩:=by unfold modes; rfl
def Ik:SC:=(.seq (.reg [⟨some 1,none,.boxv 29 5 (.t 0)⟩,⟨some 2,none,.mv (.c (.bool false))⟩]) (.seq (.reg [⟨some 3,none,.load true 5 (.t 1)⟩,⟨some 4,none,.call 58 [(.t 3)]⟩,⟨some 5,none,.un .not (.t 4)⟩,⟨some 2,none,.mv (.t 5)⟩]) .ret))
theorem M8:At Tryz.prog 114=some ⟨6,Ik,[(.tmp 2)]⟩:=by kernel_rfl
theorem Il:modes 114=⟨[],.asis,none,false⟩:=by unfold modes; rfl
theorem M9:IY Tryz.prog 114=true:=by kernel_rfl
def AU:SC:=(.seq (.reg [⟨some 1,none,.boxv 29 5 (.t 0)⟩,⟨some 2,none,.mv (.c (.bool false))⟩]) (.seq (.reg [⟨some 4,none,.faddr 4 (.t 1)⟩,⟨some 5,none,.load false 1 (.t 4)⟩,⟨some 6,none,.len false (.t 5)⟩,⟨some 3,none,.mv (.t 6)⟩]) (.seq (.seq (.reg [⟨some 7,none,.faddr 0 (.t 1)⟩,⟨some 8,none,.load false 1 (.t 7)⟩]) (.block 0 (.seq (.seq (.reg [⟨some 10,none,.bin .eql false (.t 8) (.c (.int .i64 1))⟩,⟨some 9,none,.mv (.t 10)⟩]) (.cond (.t 9) .skip (.reg [⟨some 11,none,.bin .eql false (.t 8) (.c (.int .i64 2))⟩,⟨some 9,none,.mv (.t 11)⟩]))) (.cond (.t 9) (.seq (.reg [⟨some 12,none,.mv (.t 3)⟩,⟨some 13,none,.bin .eql false (.t 12) (.c (.int .i64 0))⟩,⟨some 14,none,.mv (.t 13)⟩,⟨(some 15),(some (14,true)),(.faddr 1 (.t 1))⟩,⟨(some 16),(some (14,true)),(.load true 2 (.t 15))⟩,⟨(some 17),(some (14,true)),(.call 174 [(.t 16)])⟩,⟨some 18,none,.pick (.t 14) (.t 17) (.c (.bool false))⟩,⟨some 19,none,.mv (.t 18)⟩,⟨(some 20),(some (19,true)),(.faddr 3 (.t 1))⟩,⟨(some 21),(some (19,true)),(.load false 1 (.t 20))⟩,⟨(some 22),(some (19,true)),(.bin .eql false (.t 21) (.c (.str ⟨#[]⟩)))⟩,⟨some 23,none,.pick (.t 19) (.t 22) (.c (.bool false))⟩,⟨some 2,none,.mv (.t 23)⟩]) .ret) (.seq (.reg [⟨some 25,none,.bin .eql false (.t 8) (.c (.int .i64 3))⟩,⟨some 24,none,.mv (.t 25)⟩]) (.cond (.t 24) (.seq (.reg [⟨some 26,none,.mv (.t 3)⟩,⟨some 27,none,.bin .eql false (.t 26) (.c (.int .i64 0))⟩,⟨some 28,none,.mv (.t 27)⟩,⟨(some 29),(some (28,true)),(.faddr 1 (.t 1))⟩,⟨(some 30),(some (28,true)),(.load true 2 (.t 29))⟩,⟨(some 31),(some (28,true)),(.call 175 [(.t 30)])⟩,⟨some 32,none,.pick (.t 28) (.t 31) (.c (.bool false))⟩,⟨some 33,none,.mv (.t 32)⟩,⟨(some 34),(some (33,true)),(.faddr 3 (.t 1))⟩,⟨(some 35),(some (33,true)),(.load false 1 (.t 34))⟩,⟨(some 36),(some (33,true)),(.bin .eql false (.t 35) (.c (.str ⟨#[]⟩)))⟩,⟨some 37,none,.pick (.t 33) (.t 36) (.c (.bool false))⟩,⟨some 2,none,.mv (.t 37)⟩]) .ret) (.seq (.reg [⟨some 39,none,.bin .eql false (.t 8) (.c (.int .i64 4))⟩,⟨some 38,none,.mv (.t 39)⟩]) (.cond (.t 38) (.seq (.reg [⟨some 40,none,.mv (.t 3)⟩,⟨some 41,none,.bin .eql false (.t 40) (.c (.int .i64 1))⟩,⟨some 42,none,.mv (.t 41)⟩,⟨(some 43),(some (42,true)),(.faddr 1 (.t 1))⟩,⟨(some 44),(some (42,true)),(.load true 2 (.t 43))⟩,⟨(some 45),(some (42,true)),(.call 174 [(.t 44)])⟩,⟨some 46,none,.pick (.t 42) (.t 45) (.c (.bool false))⟩,⟨some 47,none,.mv (.t 46)⟩,⟨(some 48),(some (47,true)),(.faddr 3 (.t 1))⟩,⟨(some 49),(some (47,true)),(.load false 1 (.t 48))⟩,⟨(some 50),(some (47,true)),(.bin .eql false (.t 49) (.c (.str ⟨#[]⟩)))⟩,⟨some 51,none,.pick (.t 47) (.t 50) (.c (.bool false))⟩,⟨some 2,none,.mv (.t 51)⟩]) .ret) (.seq (.seq (.reg [⟨some 53,none,.bin .eql false (.t 8) (.c (.int .i64 5))⟩,⟨some 52,none,.mv (.t 53)⟩]) (.cond (.t 52) .skip (.seq (.reg [⟨some 54,none,.bin .eql false (.t 8) (.c (.int .i64 6))⟩,⟨some 52,none,.mv (.t 54)⟩]) (.cond (.t 52) .skip (.reg [⟨some 55,none,.bin .eql false (.t 8) (.c (.int .i64 7))⟩,⟨some 52,none,.mv (.t 55)⟩]))))) (.cond (.t 52) (.seq (.reg [⟨some 56,none,.mv (.t 3)⟩,⟨some 57,none,.bin .eql false (.t 56) (.c (.int .i64 2))⟩,⟨some 58,none,.mv (.t 57)⟩,⟨(some 59),(some (58,true)),(.faddr 1 (.t 1))⟩,⟨(some 60),(some (58,true)),(.load true 2 (.t 59))⟩,⟨(some 61),(some (58,true)),(.call 174 [(.t 60)])⟩,⟨some 62,none,.pick (.t 58) (.t 61) (.c (.bool false))⟩,⟨some 63,none,.mv (.t 62)⟩,⟨(some 64),(some (63,true)),(.faddr 3 (.t 1))⟩,⟨(some 65),(some (63,true)),(.load false 1 (.t 64))⟩,⟨(some 66),(some (63,true)),(.bin .eql false (.t 65) (.c (.str ⟨#[]⟩)))⟩,⟨some 67,none,.pick (.t 63) (.t 66) (.c (.bool false))⟩,⟨some 2,none,.mv (.t 67)⟩]) .ret) (.seq (.seq (.reg [⟨some 69,none,.bin .eql false (.t 8) (.c (.int .i64 8))⟩,⟨some 68,none,.mv (.t 69)⟩]) (.cond (.t 68) .skip (.reg [⟨some 70,none,.bin .eql false (.t 8) (.c (.int .i64 9))⟩,⟨some 68,none,.mv (.t 70)⟩]))) (.cond (.t 68) (.seq (.reg [⟨some 71,none,.mv (.t 3)⟩,⟨some 72,none,.bin .eql false (.t 71) (.c (.int .i64 1))⟩,⟨some 73,none,.mv (.t 72)⟩,⟨(some 74),(some (73,true)),(.faddr 1 (.t 1))⟩,⟨(some 75),(some (73,true)),(.load true 2 (.t 74))⟩,⟨(some 76),(some (73,true)),(.call 174 [(.t 75)])⟩,⟨some 77,none,.pick (.t 73) (.t 76) (.c (.bool false))⟩,⟨some 78,none,.mv (.t 77)⟩,⟨(some 79),(some (78,true)),(.faddr 3 (.t 1))⟩,⟨(some 80),(some (78,true)),(.load false 1 (.t 79))⟩,⟨(some 81),(some (78,true)),(.call 176 [(.t 80)])⟩,⟨some 82,none,.pick (.t 78) (.t 81) (.c (.bool false))⟩,⟨some 2,none,.mv (.t 82)⟩]) .ret) .skip)))))))))))) (.seq (.reg [⟨some 2,none,.mv (.c (.bool false))⟩]) .ret))))
theorem Ba:At Tryz.prog 119=some ⟨83,AU,[(.tmp 2)]⟩:=by kernel_rfl
theorem AO:modes 119=⟨[],.asis,none,false⟩:=by unfold modes; rfl
def GS:SC:=(.seq (.reg [⟨some 1,none,.boxv 29 5 (.t 0)⟩,⟨some 2,none,.mv (.c (.bool false))⟩]) (.seq (.seq (.reg [⟨some 4,none,.load true 5 (.t 1)⟩,⟨some 5,none,.call 119 [(.t 4)]⟩,⟨some 6,none,.un .not (.t 5)⟩]) (.cond (.t 6) (.seq (.reg [⟨some 2,none,.mv (.c (.bool false))⟩]) .ret) .skip)) (.seq (.seq (.reg [⟨some 3,none,.mv (.c (.int .i64 0))⟩]) (.block 0 (.loop [0,1,0,1,0,0,0,0,0,0,0,0,0,0,0,0,0,0,0,0,0] (.seq (.seq (.reg [⟨some 7,none,.mv (.t 3)⟩,⟨some 8,none,.faddr 4 (.t 1)⟩,⟨some 9,none,.load false 1 (.t 8)⟩,⟨some 10,none,.len false (.t 9)⟩,⟨some 11,none,.bin .lss false (.t 7) (.t 10)⟩]) (.cond (.t 11) .skip (.exit 0))) (.seq (.block 1 (.seq (.reg [⟨some 14,none,.faddr 4 (.t 1)⟩,⟨some 15,none,.load false 1 (.t 14)⟩,⟨some 16,none,.mv (.t 3)⟩,⟨some 17,none,.iaddr 5 (.t 15) (.t 16)⟩,⟨some 18,none,.load true 5 (.t 17)⟩,⟨some 19,none,.call 66 [(.t 18)]⟩,⟨some 20,none,.un .not (.t 19)⟩]) (.cond (.t 20) (.seq (.reg [⟨some 2,none,.mv (.c (.bool false))⟩]) .ret) .skip))) (.reg [⟨some 12,none,.mv (.t 3)⟩,⟨some 13,none,.bin .add false (.t 12) (.c (.int .i64 1))⟩,⟨some 3,none,.mv (.t 13)⟩])))))) (.seq (.reg [⟨some 2,none,.mv (.c (.bool true))⟩]) .ret))))
theorem J0:At Tryz.prog 66=some ⟨21,GS,[(.tmp 2)]⟩:=by kernel_rfl
theorem Dc:modes 66=⟨[],.asis,none,false⟩:=by unfold modes; rfl
def D9:SC:=(.seq (.reg [⟨some 1,none,.boxv 29 5 (.t 0)⟩,⟨some 2,none,.mv (.c (.bool false))⟩]) (.seq (.reg [⟨some 3,none,.load true 5 (.t 1)⟩,⟨some 4,none,.call 57 [(.t 3)]⟩,⟨some 5,none,.bin .leq false (.t 4) (.c (.int .i64 40))⟩,⟨some 6,none,.mv (.t 5)⟩,⟨(some 7),(some (6,true)),(.load true 5 (.t 1))⟩,⟨(some 8),(some (6,true)),(.call 58 [(.t 7)])⟩,⟨some 9,none,.pick (.t 6) (.t 8) (.c (.bool false))⟩,⟨some 2,none,.mv (.t 9)⟩]) .ret))
theorem Fa:At Tryz.prog 28=some ⟨10,D9,[(.tmp 2)]⟩:=by kernel_rfl
theorem AP:modes 28=⟨[],.asis,none,false⟩:=by unfold modes; rfl
def HI:SC:=(.seq (.reg [⟨some 1,none,.boxv 29 5 (.t 0)⟩,⟨some 2,none,.mv (.c (.bool false))⟩]) (.seq (.reg [⟨some 3,none,.load true 5 (.t 1)⟩,⟨some 4,none,.call 65 [(.t 3),(.c (.int .i64 40))]⟩,⟨some 5,none,.bin .leq false (.t 4) (.c (.int .i64 40))⟩,⟨some 6,none,.mv (.t 5)⟩,⟨(some 7),(some (6,true)),(.load true 5 (.t 1))⟩,⟨(some 8),(some (6,true)),(.call 66 [(.t 7)])⟩,⟨some 9,none,.pick (.t 6) (.t 8) (.c (.bool false))⟩,⟨some 2,none,.mv (.t 9)⟩]) .ret))
theorem Kw:At Tryz.prog 32=some ⟨10,HI,[(.tmp 2)]⟩:=by kernel_rfl
theorem Bb:modes 32=⟨[],.asis,none,false⟩:=by unfold modes; rfl
theorem Cs (n:Int):E 71 [.int .i64 n] []=some (.bool (dec (n=8) || dec (n=9)),[]):=by
 cases h1:dec (n=8) with
 | true =>
  refine Ai Gk Ac (of_decide_eq_true rfl) ?_
  simp (disch:=omega) only [Ef,go_sem,Ab,h1]
 | false =>
  refine Ai Gk Ac (of_decide_eq_true rfl) ?_
  simp (disch:=omega) only [Ef,go_sem,Ab,h1]
theorem Fv (n:Int):E 110 [.int .i64 n] []=some (.bool (dec (n=5) || dec (n=6) || dec (n=7)),[]):=by
 cases h1:dec (n=5) <;> cases h2:dec (n=6)
 all_goals
  refine Ai N5 Ah (of_decide_eq_true rfl) ?_
  simp (disch:=omega) only [IP,go_sem,Ab,h1,h2]
theorem Gx (x:Tm):E 113 [x.sv] []=some (.bool x.isZ,[]):=by
 unfold Tm.isZ
 have hl:dec ((x.args.length:Int)=0)=(x.args.length == 0):=by
  rw [KG]
  cases x.args <;> simp <;> omega
 cases h1:dec (x.name=⟨#[]⟩) with
 | true =>
  refine Ai Hv Af (of_decide_eq_true rfl) ?_
  simp (disch:=omega) only [EK,go_sem,Ab,h1]
  try rw [hl]
 | false =>
  refine Ai Hv Af (of_decide_eq_true rfl) ?_
  simp (disch:=omega) only [EK,go_sem,Ab,h1]
theorem LF (x:Tm):E 174 [x.sv] []=some (.bool x.isZ,[]):=by
 unfold Tm.isZ
 have hl:dec ((x.args.length:Int)=0)=(x.args.length == 0):=by
  rw [KG]
  cases x.args <;> simp <;> omega
 cases h1:dec (x.name=⟨#[]⟩) with
 | true =>
  refine Ai Kv Aq (of_decide_eq_true rfl) ?_
  simp (disch:=omega) only [HH,go_sem,Ab,h1]
  try rw [hl]
 | false =>
  refine Ai Kv Aq (of_decide_eq_true rfl) ?_
  simp (disch:=omega) only [HH,go_sem,Ab,h1]
theorem TF (x:Fm) (hn:x.atom.nodes≤1099511627776) (ho:x.op=1∨x.op=2):E 119 [x.sv] []=some (.bool x.form,[]):=by
 have hf:x.form=(x.parts.length == 0&&x.atom.isZ&&dec (x.var=⟨#[]⟩)):=by unfold Fm.form; rcases ho with ho | ho <;> simp [ho]
 rcases ho with ho | ho
 all_goals
  first
   |(have o1:dec (x.op=1)=true:=Ar ho)
   |(have o1:dec (x.op=1)=false:=Aj (by omega))
  first
   |(have o2:dec (x.op=2)=true:=Ar ho)
   |(have o2:dec (x.op=2)=false:=Aj (by omega))
  have o3:dec (x.op=3)=false:=Aj (by omega)
  have o4:dec (x.op=4)=false:=Aj (by omega)
  have o5:dec (x.op=5)=false:=Aj (by omega)
  have o6:dec (x.op=6)=false:=Aj (by omega)
  have o7:dec (x.op=7)=false:=Aj (by omega)
  have o8:dec (x.op=8)=false:=Aj (by omega)
  have o9:dec (x.op=9)=false:=Aj (by omega)
  have ha:=LF x.atom
  have hv:=DB x.var
  rw [hf]
  by_cases hl:x.parts.length=0
  ·have hl2:dec ((x.parts.length:Int)=0)=true:=Ar (by omega)
   rw [hl,beq_self_eq_true,zF]
   cases hq:x.atom.isZ with
   | true =>
    rw [hq] at ha
    rw [zF]
    refine Ai Ba AO (of_decide_eq_true rfl) ?_
    simp (disch:=omega) only [AU,go_sem,o1,o2,o3,o4,o5,o6,o7,o8,o9,hl2,ha,hv,An,Aq,Al]
    repeat ((first | (refine A2 ?_ ?_; (focus (simp (disch:=omega) only [go_sem,o1,o2,o3,o4,o5,o6,o7,o8,o9,hl2,ha,hv,An,Aq,Al]; done))) | (refine A3 ?_ ?_; (focus (simp (disch:=omega) only [go_sem,o1,o2,o3,o4,o5,o6,o7,o8,o9,hl2,ha,hv,An,Aq,Al]; done)))); (try simp (disch:=omega) only [go_sem,o1,o2,o3,o4,o5,o6,o7,o8,o9,hl2,ha,hv,An,Aq,Al]))
   | false =>
    rw [hq] at ha
    rw [zA]
    refine Ai Ba AO (of_decide_eq_true rfl) ?_
    simp (disch:=omega) only [AU,go_sem,o1,o2,o3,o4,o5,o6,o7,o8,o9,hl2,ha,hv,An,Aq,Al]
    repeat ((first | (refine A2 ?_ ?_; (focus (simp (disch:=omega) only [go_sem,o1,o2,o3,o4,o5,o6,o7,o8,o9,hl2,ha,hv,An,Aq,Al]; done))) | (refine A3 ?_ ?_; (focus (simp (disch:=omega) only [go_sem,o1,o2,o3,o4,o5,o6,o7,o8,o9,hl2,ha,hv,An,Aq,Al]; done)))); (try simp (disch:=omega) only [go_sem,o1,o2,o3,o4,o5,o6,o7,o8,o9,hl2,ha,hv,An,Aq,Al]))
  ·have hl2:dec ((x.parts.length:Int)=0)=false:=Aj (by omega)
   have hl3:(x.parts.length == 0)=false:=by simpa using hl
   rw [hl3,zA,zA]
   refine Ai Ba AO (of_decide_eq_true rfl) ?_
   simp (disch:=omega) only [AU,go_sem,o1,o2,o3,o4,o5,o6,o7,o8,o9,hl2,ha,hv,An,Aq,Al]
   repeat ((first | (refine A2 ?_ ?_; (focus (simp (disch:=omega) only [go_sem,o1,o2,o3,o4,o5,o6,o7,o8,o9,hl2,ha,hv,An,Aq,Al]; done))) | (refine A3 ?_ ?_; (focus (simp (disch:=omega) only [go_sem,o1,o2,o3,o4,o5,o6,o7,o8,o9,hl2,ha,hv,An,Aq,Al]; done)))); (try simp (disch:=omega) only [go_sem,o1,o2,o3,o4,o5,o6,o7,o8,o9,hl2,ha,hv,An,Aq,Al]))
theorem Zh (x:Fm) (hn:x.atom.nodes≤1099511627776) (ho:x.op=3):E 119 [x.sv] []=some (.bool x.form,[]):=by
 have hf:x.form=(x.parts.length == 0&&x.atom.atom&&dec (x.var=⟨#[]⟩)):=by unfold Fm.form; rcases ho with ho <;> simp [ho]
 rcases ho with ho
 all_goals
  have o1:dec (x.op=1)=false:=Aj (by omega)
  have o2:dec (x.op=2)=false:=Aj (by omega)
  have o3:dec (x.op=3)=true:=Ar ho
  have o4:dec (x.op=4)=false:=Aj (by omega)
  have o5:dec (x.op=5)=false:=Aj (by omega)
  have o6:dec (x.op=6)=false:=Aj (by omega)
  have o7:dec (x.op=7)=false:=Aj (by omega)
  have o8:dec (x.op=8)=false:=Aj (by omega)
  have o9:dec (x.op=9)=false:=Aj (by omega)
  have ha:=YE x.atom (by omega)
  have hv:=DB x.var
  rw [hf]
  by_cases hl:x.parts.length=0
  ·have hl2:dec ((x.parts.length:Int)=0)=true:=Ar (by omega)
   rw [hl,beq_self_eq_true,zF]
   cases hq:x.atom.atom with
   | true =>
    rw [hq] at ha
    rw [zF]
    refine Ai Ba AO (of_decide_eq_true rfl) ?_
    simp (disch:=omega) only [AU,go_sem,o1,o2,o3,o4,o5,o6,o7,o8,o9,hl2,ha,hv,An,Aq,Al]
    repeat ((first | (refine A2 ?_ ?_; (focus (simp (disch:=omega) only [go_sem,o1,o2,o3,o4,o5,o6,o7,o8,o9,hl2,ha,hv,An,Aq,Al]; done))) | (refine A3 ?_ ?_; (focus (simp (disch:=omega) only [go_sem,o1,o2,o3,o4,o5,o6,o7,o8,o9,hl2,ha,hv,An,Aq,Al]; done)))); (try simp (disch:=omega) only [go_sem,o1,o2,o3,o4,o5,o6,o7,o8,o9,hl2,ha,hv,An,Aq,Al]))
   | false =>
    rw [hq] at ha
    rw [zA]
    refine Ai Ba AO (of_decide_eq_true rfl) ?_
    simp (disch:=omega) only [AU,go_sem,o1,o2,o3,o4,o5,o6,o7,o8,o9,hl2,ha,hv,An,Aq,Al]
    repeat ((first | (refine A2 ?_ ?_; (focus (simp (disch:=omega) only [go_sem,o1,o2,o3,o4,o5,o6,o7,o8,o9,hl2,ha,hv,An,Aq,Al]; done))) | (refine A3 ?_ ?_; (focus (simp (disch:=omega) only [go_sem,o1,o2,o3,o4,o5,o6,o7,o8,o9,hl2,ha,hv,An,Aq,Al]; done)))); (try simp (disch:=omega) only [go_sem,o1,o2,o3,o4,o5,o6,o7,o8,o9,hl2,ha,hv,An,Aq,Al]))
  ·have hl2:dec ((x.parts.length:Int)=0)=false:=Aj (by omega)
   have hl3:(x.parts.length == 0)=false:=by simpa using hl
   rw [hl3,zA,zA]
   refine Ai Ba AO (of_decide_eq_true rfl) ?_
   simp (disch:=omega) only [AU,go_sem,o1,o2,o3,o4,o5,o6,o7,o8,o9,hl2,ha,hv,An,Aq,Al]
   repeat ((first | (refine A2 ?_ ?_; (focus (simp (disch:=omega) only [go_sem,o1,o2,o3,o4,o5,o6,o7,o8,o9,hl2,ha,hv,An,Aq,Al]; done))) | (refine A3 ?_ ?_; (focus (simp (disch:=omega) only [go_sem,o1,o2,o3,o4,o5,o6,o7,o8,o9,hl2,ha,hv,An,Aq,Al]; done)))); (try simp (disch:=omega) only [go_sem,o1,o2,o3,o4,o5,o6,o7,o8,o9,hl2,ha,hv,An,Aq,Al]))
theorem Zi (x:Fm) (hn:x.atom.nodes≤1099511627776) (ho:x.op=4):E 119 [x.sv] []=some (.bool x.form,[]):=by
 have hf:x.form=(x.parts.length == 1&&x.atom.isZ&&dec (x.var=⟨#[]⟩)):=by unfold Fm.form; rcases ho with ho <;> simp [ho]
 rcases ho with ho
 all_goals
  have o1:dec (x.op=1)=false:=Aj (by omega)
  have o2:dec (x.op=2)=false:=Aj (by omega)
  have o3:dec (x.op=3)=false:=Aj (by omega)
  have o4:dec (x.op=4)=true:=Ar ho
  have o5:dec (x.op=5)=false:=Aj (by omega)
  have o6:dec (x.op=6)=false:=Aj (by omega)
  have o7:dec (x.op=7)=false:=Aj (by omega)
  have o8:dec (x.op=8)=false:=Aj (by omega)
  have o9:dec (x.op=9)=false:=Aj (by omega)
  have ha:=LF x.atom
  have hv:=DB x.var
  rw [hf]
  by_cases hl:x.parts.length=1
  ·have hl2:dec ((x.parts.length:Int)=1)=true:=Ar (by omega)
   rw [hl,beq_self_eq_true,zF]
   cases hq:x.atom.isZ with
   | true =>
    rw [hq] at ha
    rw [zF]
    refine Ai Ba AO (of_decide_eq_true rfl) ?_
    simp (disch:=omega) only [AU,go_sem,o1,o2,o3,o4,o5,o6,o7,o8,o9,hl2,ha,hv,An,Aq,Al]
    repeat ((first | (refine A2 ?_ ?_; (focus (simp (disch:=omega) only [go_sem,o1,o2,o3,o4,o5,o6,o7,o8,o9,hl2,ha,hv,An,Aq,Al]; done))) | (refine A3 ?_ ?_; (focus (simp (disch:=omega) only [go_sem,o1,o2,o3,o4,o5,o6,o7,o8,o9,hl2,ha,hv,An,Aq,Al]; done)))); (try simp (disch:=omega) only [go_sem,o1,o2,o3,o4,o5,o6,o7,o8,o9,hl2,ha,hv,An,Aq,Al]))
   | false =>
    rw [hq] at ha
    rw [zA]
    refine Ai Ba AO (of_decide_eq_true rfl) ?_
    simp (disch:=omega) only [AU,go_sem,o1,o2,o3,o4,o5,o6,o7,o8,o9,hl2,ha,hv,An,Aq,Al]
    repeat ((first | (refine A2 ?_ ?_; (focus (simp (disch:=omega) only [go_sem,o1,o2,o3,o4,o5,o6,o7,o8,o9,hl2,ha,hv,An,Aq,Al]; done))) | (refine A3 ?_ ?_; (focus (simp (disch:=omega) only [go_sem,o1,o2,o3,o4,o5,o6,o7,o8,o9,hl2,ha,hv,An,Aq,Al]; done)))); (try simp (disch:=omega) only [go_sem,o1,o2,o3,o4,o5,o6,o7,o8,o9,hl2,ha,hv,An,Aq,Al]))
  ·have hl2:dec ((x.parts.length:Int)=1)=false:=Aj (by omega)
   have hl3:(x.parts.length == 1)=false:=by simpa using hl
   rw [hl3,zA,zA]
   refine Ai Ba AO (of_decide_eq_true rfl) ?_
   simp (disch:=omega) only [AU,go_sem,o1,o2,o3,o4,o5,o6,o7,o8,o9,hl2,ha,hv,An,Aq,Al]
   repeat ((first | (refine A2 ?_ ?_; (focus (simp (disch:=omega) only [go_sem,o1,o2,o3,o4,o5,o6,o7,o8,o9,hl2,ha,hv,An,Aq,Al]; done))) | (refine A3 ?_ ?_; (focus (simp (disch:=omega) only [go_sem,o1,o2,o3,o4,o5,o6,o7,o8,o9,hl2,ha,hv,An,Aq,Al]; done)))); (try simp (disch:=omega) only [go_sem,o1,o2,o3,o4,o5,o6,o7,o8,o9,hl2,ha,hv,An,Aq,Al]))
theorem Pm (x:Fm) (hn:x.atom.nodes≤1099511627776) (ho:x.op=5∨x.op=6∨x.op=7):E 119 [x.sv] []=some (.bool x.form,[]):=by
 have hf:x.form=(x.parts.length == 2&&x.atom.isZ&&dec (x.var=⟨#[]⟩)):=by unfold Fm.form; rcases ho with ho | ho | ho <;> simp [ho]
 rcases ho with ho | ho | ho
 all_goals
  have o1:dec (x.op=1)=false:=Aj (by omega)
  have o2:dec (x.op=2)=false:=Aj (by omega)
  have o3:dec (x.op=3)=false:=Aj (by omega)
  have o4:dec (x.op=4)=false:=Aj (by omega)
  first
   |(have o5:dec (x.op=5)=true:=Ar ho)
   |(have o5:dec (x.op=5)=false:=Aj (by omega))
  first
   |(have o6:dec (x.op=6)=true:=Ar ho)
   |(have o6:dec (x.op=6)=false:=Aj (by omega))
  first
   |(have o7:dec (x.op=7)=true:=Ar ho)
   |(have o7:dec (x.op=7)=false:=Aj (by omega))
  have o8:dec (x.op=8)=false:=Aj (by omega)
  have o9:dec (x.op=9)=false:=Aj (by omega)
  have ha:=LF x.atom
  have hv:=DB x.var
  rw [hf]
  by_cases hl:x.parts.length=2
  ·have hl2:dec ((x.parts.length:Int)=2)=true:=Ar (by omega)
   rw [hl,beq_self_eq_true,zF]
   cases hq:x.atom.isZ with
   | true =>
    rw [hq] at ha
    rw [zF]
    refine Ai Ba AO (of_decide_eq_true rfl) ?_
    simp (disch:=omega) only [AU,go_sem,o1,o2,o3,o4,o5,o6,o7,o8,o9,hl2,ha,hv,An,Aq,Al]
    repeat ((first | (refine A2 ?_ ?_; (focus (simp (disch:=omega) only [go_sem,o1,o2,o3,o4,o5,o6,o7,o8,o9,hl2,ha,hv,An,Aq,Al]; done))) | (refine A3 ?_ ?_; (focus (simp (disch:=omega) only [go_sem,o1,o2,o3,o4,o5,o6,o7,o8,o9,hl2,ha,hv,An,Aq,Al]; done)))); (try simp (disch:=omega) only [go_sem,o1,o2,o3,o4,o5,o6,o7,o8,o9,hl2,ha,hv,An,Aq,Al]))
   | false =>
    rw [hq] at ha
    rw [zA]
    refine Ai Ba AO (of_decide_eq_true rfl) ?_
    simp (disch:=omega) only [AU,go_sem,o1,o2,o3,o4,o5,o6,o7,o8,o9,hl2,ha,hv,An,Aq,Al]
    repeat ((first | (refine A2 ?_ ?_; (focus (simp (disch:=omega) only [go_sem,o1,o2,o3,o4,o5,o6,o7,o8,o9,hl2,ha,hv,An,Aq,Al]; done))) | (refine A3 ?_ ?_; (focus (simp (disch:=omega) only [go_sem,o1,o2,o3,o4,o5,o6,o7,o8,o9,hl2,ha,hv,An,Aq,Al]; done)))); (try simp (disch:=omega) only [go_sem,o1,o2,o3,o4,o5,o6,o7,o8,o9,hl2,ha,hv,An,Aq,Al]))
  ·have hl2:dec ((x.parts.length:Int)=2)=false:=Aj (by omega)
   have hl3:(x.parts.length == 2)=false:=by simpa using hl
   rw [hl3,zA,zA]
   refine Ai Ba AO (of_decide_eq_true rfl) ?_
   simp (disch:=omega) only [AU,go_sem,o1,o2,o3,o4,o5,o6,o7,o8,o9,hl2,ha,hv,An,Aq,Al]
   repeat ((first | (refine A2 ?_ ?_; (focus (simp (disch:=omega) only [go_sem,o1,o2,o3,o4,o5,o6,o7,o8,o9,hl2,ha,hv,An,Aq,Al]; done))) | (refine A3 ?_ ?_; (focus (simp (disch:=omega) only [go_sem,o1,o2,o3,o4,o5,o6,o7,o8,o9,hl2,ha,hv,An,Aq,Al]; done)))); (try simp (disch:=omega) only [go_sem,o1,o2,o3,o4,o5,o6,o7,o8,o9,hl2,ha,hv,An,Aq,Al]))
theorem TG (x:Fm) (hn:x.atom.nodes≤1099511627776) (ho:x.op=8∨x.op=9):E 119 [x.sv] []=some (.bool x.form,[]):=by
 have hf:x.form=(x.parts.length == 1&&x.atom.isZ&&AS x.var):=by unfold Fm.form; rcases ho with ho | ho <;> simp [ho]
 rcases ho with ho | ho
 all_goals
  have o1:dec (x.op=1)=false:=Aj (by omega)
  have o2:dec (x.op=2)=false:=Aj (by omega)
  have o3:dec (x.op=3)=false:=Aj (by omega)
  have o4:dec (x.op=4)=false:=Aj (by omega)
  have o5:dec (x.op=5)=false:=Aj (by omega)
  have o6:dec (x.op=6)=false:=Aj (by omega)
  have o7:dec (x.op=7)=false:=Aj (by omega)
  first
   |(have o8:dec (x.op=8)=true:=Ar ho)
   |(have o8:dec (x.op=8)=false:=Aj (by omega))
  first
   |(have o9:dec (x.op=9)=true:=Ar ho)
   |(have o9:dec (x.op=9)=false:=Aj (by omega))
  have ha:=LF x.atom
  have hv:=DB x.var
  rw [hf]
  by_cases hl:x.parts.length=1
  ·have hl2:dec ((x.parts.length:Int)=1)=true:=Ar (by omega)
   rw [hl,beq_self_eq_true,zF]
   cases hq:x.atom.isZ with
   | true =>
    rw [hq] at ha
    rw [zF]
    refine Ai Ba AO (of_decide_eq_true rfl) ?_
    simp (disch:=omega) only [AU,go_sem,o1,o2,o3,o4,o5,o6,o7,o8,o9,hl2,ha,hv,An,Aq,Al]
    repeat ((first | (refine A2 ?_ ?_; (focus (simp (disch:=omega) only [go_sem,o1,o2,o3,o4,o5,o6,o7,o8,o9,hl2,ha,hv,An,Aq,Al]; done))) | (refine A3 ?_ ?_; (focus (simp (disch:=omega) only [go_sem,o1,o2,o3,o4,o5,o6,o7,o8,o9,hl2,ha,hv,An,Aq,Al]; done)))); (try simp (disch:=omega) only [go_sem,o1,o2,o3,o4,o5,o6,o7,o8,o9,hl2,ha,hv,An,Aq,Al]))
   | false =>
    rw [hq] at ha
    rw [zA]
    refine Ai Ba AO (of_decide_eq_true rfl) ?_
    simp (disch:=omega) only [AU,go_sem,o1,o2,o3,o4,o5,o6,o7,o8,o9,hl2,ha,hv,An,Aq,Al]
    repeat ((first | (refine A2 ?_ ?_; (focus (simp (disch:=omega) only [go_sem,o1,o2,o3,o4,o5,o6,o7,o8,o9,hl2,ha,hv,An,Aq,Al]; done))) | (refine A3 ?_ ?_; (focus (simp (disch:=omega) only [go_sem,o1,o2,o3,o4,o5,o6,o7,o8,o9,hl2,ha,hv,An,Aq,Al]; done)))); (try simp (disch:=omega) only [go_sem,o1,o2,o3,o4,o5,o6,o7,o8,o9,hl2,ha,hv,An,Aq,Al]))
  ·have hl2:dec ((x.parts.length:Int)=1)=false:=Aj (by omega)
   have hl3:(x.parts.length == 1)=false:=by simpa using hl
   rw [hl3,zA,zA]
   refine Ai Ba AO (of_decide_eq_true rfl) ?_
   simp (disch:=omega) only [AU,go_sem,o1,o2,o3,o4,o5,o6,o7,o8,o9,hl2,ha,hv,An,Aq,Al]
   repeat ((first | (refine A2 ?_ ?_; (focus (simp (disch:=omega) only [go_sem,o1,o2,o3,o4,o5,o6,o7,o8,o9,hl2,ha,hv,An,Aq,Al]; done))) | (refine A3 ?_ ?_; (focus (simp (disch:=omega) only [go_sem,o1,o2,o3,o4,o5,o6,o7,o8,o9,hl2,ha,hv,An,Aq,Al]; done)))); (try simp (disch:=omega) only [go_sem,o1,o2,o3,o4,o5,o6,o7,o8,o9,hl2,ha,hv,An,Aq,Al]))
theorem Zj (x:Fm) (hn:x.atom.nodes≤1099511627776):E 119 [x.sv] []=some (.bool x.form,[]):=by
 rcases L6 x.op with h | h | h | h | h | h | h | h | h | h
 ·exact TF x hn (.inl h)
 ·exact TF x hn (.inr h)
 ·exact Zh x hn h
 ·exact Zi x hn h
 ·exact Pm x hn (.inl h)
 ·exact Pm x hn (.inr (.inl h))
 ·exact Pm x hn (.inr (.inr h))
 ·exact TG x hn (.inl h)
 ·exact TG x hn (.inr h)
 ·obtain ⟨h1,h2,h3,h4,h5,h6,h7,h8,h9⟩:=h
  have hf:x.form=false:=by unfold Fm.form; simp [h1,h2,h3,h4,h5,h6,h7,h8,h9]
  have o1:=Aj h1
  have o2:=Aj h2
  have o3:=Aj h3
  have o4:=Aj h4
  have o5:=Aj h5
  have o6:=Aj h6
  have o7:=Aj h7
  have o8:=Aj h8
  have o9:=Aj h9
  rw [hf]
  refine Ai Ba AO (of_decide_eq_true rfl) ?_
  simp (disch:=omega) only [AU,go_sem,o1,o2,o3,o4,o5,o6,o7,o8,o9]
  repeat ((first | (refine A2 ?_ ?_; (focus (simp (disch:=omega) only [go_sem,o1,o2,o3,o4,o5,o6,o7,o8,o9]; done))) | (refine A3 ?_ ?_; (focus (simp (disch:=omega) only [go_sem,o1,o2,o3,o4,o5,o6,o7,o8,o9]; done)))); (try simp (disch:=omega) only [go_sem,o1,o2,o3,o4,o5,o6,o7,o8,o9]))
theorem Vx (x:Fm) (ht:x.tame) (hn:x.nodes≤1099511627776) (ih:∀ y∈x.parts,E 66 [y.sv] []=some (.bool y.forms,[])):E 66 [x.sv] []=some (.bool x.forms,[]):=by
 have hl:=Fm.length_le x.parts
 have hx:=Fm.nodes_eq x
 have hf:=Zj x (Fm.tame_at ht)
 rw [Fm.EF]
 cases hq:x.form with
 | false =>
  rw [hq] at hf
  rw [zA]
  refine Ai J0 Dc (of_decide_eq_true rfl) ?_
  simp (disch:=omega) only [GS,go_sem,Ab,hf,AO]
 | true =>
  rw [hq] at hf
  rw [zF]
  refine Ai J0 Dc (of_decide_eq_true rfl) ?_
  simp (disch:=omega) only [GS,go_sem,Ab,hf,AO]
  refine go_loop (α:=Int) (fun a=>⟨slots 21 0 [(1,.ptr 0 0),(3,.int .i64 a)],[.box 29 [.int .i64 x.op,.str x.atom.name,.arr (x.atom.args.map Tm.d),.str x.var,.arr (x.parts.map Fm.d)]]⟩) (fun a=>∃ k:Nat,a=k∧k≤(x.parts).length∧Fm.Ko (x.parts.drop k)=Fm.Ko x.parts) (fun a=>(x.parts).length-(a).toNat) 0 ⟨0,rfl,zK _,by rw [zI]⟩ (by simp (disch:=omega) only [go_sem,Ab]) ?_
  rintro i ⟨k,hi,hk,hR⟩
  have hni:i.toNat=k:=by omega
  have hni1:(i+1).toNat=k+1:=by omega
  rcases zC k (x.parts).length with hlt | hge
  ·have hg:=get_at Fm.d hlt
   rw [Fm.d_eq] at hg
   have hc:=ih x.parts[k] (zD hlt)
   rw [zB hlt,Fm.Ko] at hR
   cases hp:x.parts[k].forms with
   | true =>
    rw [hp] at hc hR
    rw [zF] at hR
    simp (disch:=omega) only [go_sem,Ab,hni,hg,hc,Dc]
    exact ⟨i+1,⟨k+1,by omega,hlt,hR⟩,by omega,by first | trivial | rfl⟩
   | false =>
    rw [hp] at hc hR
    rw [zA] at hR
    simp (disch:=omega) only [go_sem,Ab,hni,hg,hc,Dc]
    exact hR
  ·rw [zE hge,Fm.Ko] at hR
   simp (disch:=omega) only [go_sem,Ab,hni]
   exact hR
theorem QT (x:Fm) (ht:x.tame) (hn:x.nodes≤1099511627776):E 66 [x.sv] []=some (.bool x.forms,[]) :=
 Vx x ht hn fun y hy=>QT y (Fm.JQ ht hy) (by have:=Fm.nodes_mem hy; have:=Fm.nodes_eq x; omega)
termination_by SizeOf.sizeOf x
decreasing_by exact Fm.lt_of_mem hy
theorem QU (x:Fm) (hn:x.atom.nodes≤1099511627776) (hl0:x.parts.length≤1099511627776) (ho:x.op=1∨x.op=2) (h2:E 76 [.arr (x.parts.map Fm.d),.fn 114 []] []=some (.bool (x.parts.any fun y=>!y.forms),[])):E 58 [x.sv] []=some (.bool x.forms,[]):=by
 have hf:x.form=(x.parts.length == 0&&x.atom.isZ&&dec (x.var=⟨#[]⟩)):=by unfold Fm.form; rcases ho with ho | ho <;> simp [ho]
 rcases ho with ho | ho
 all_goals
  first
   |(have o1:dec (x.op=1)=true:=Ar ho)
   |(have o1:dec (x.op=1)=false:=Aj (by omega))
  first
   |(have o2:dec (x.op=2)=true:=Ar ho)
   |(have o2:dec (x.op=2)=false:=Aj (by omega))
  have o3:dec (x.op=3)=false:=Aj (by omega)
  have o4:dec (x.op=4)=false:=Aj (by omega)
  have o5:dec (x.op=5)=false:=Aj (by omega)
  have o6:dec (x.op=6)=false:=Aj (by omega)
  have o7:dec (x.op=7)=false:=Aj (by omega)
  have o8:dec (x.op=8)=false:=Aj (by omega)
  have o9:dec (x.op=9)=false:=Aj (by omega)
  have ha:=Gx x.atom
  have hv:=Dl x.var
  have hb:=Fv x.op
  have hu:=Cs x.op
  rw [o5,o6,o7] at hb
  rw [o8,o9] at hu
  rw [Fm.EF,hf,← Fm.any_not]
  by_cases hl:x.parts.length=0
  ·have hl2:dec ((x.parts.length:Int)=0)=true:=Ar (by omega)
   rw [hl,beq_self_eq_true,zF]
   cases hw:dec (x.var=⟨#[]⟩) with
   | false =>
    try rw [hw] at hv
    rw [yB,zA]
    refine Ai AE A9 (of_decide_eq_true rfl) ?_
    simp (disch:=omega) only [AC,go_sem,o1,o2,o3,o4,o5,o6,o7,o8,o9,hl2,ha,hv,hb,hu,hw,h2,Ad,Af,Ae,Ac,Ah,Aa]
    repeat ((first | (refine A2 ?_ ?_; (focus (simp (disch:=omega) only [go_sem,o1,o2,o3,o4,o5,o6,o7,o8,o9,hl2,ha,hv,hb,hu,hw,h2,Ad,Af,Ae,Ac,Ah,Aa]; done))) | (refine A3 ?_ ?_; (focus (simp (disch:=omega) only [go_sem,o1,o2,o3,o4,o5,o6,o7,o8,o9,hl2,ha,hv,hb,hu,hw,h2,Ad,Af,Ae,Ac,Ah,Aa]; done)))); (try simp (disch:=omega) only [go_sem,o1,o2,o3,o4,o5,o6,o7,o8,o9,hl2,ha,hv,hb,hu,hw,h2,Ad,Af,Ae,Ac,Ah,Aa]))
   | true =>
    try rw [hw] at hv
    rw [z7]
    cases hq:x.atom.isZ with
    | true =>
     rw [hq] at ha
     rw [zF]
     refine Ai AE A9 (of_decide_eq_true rfl) ?_
     simp (disch:=omega) only [AC,go_sem,o1,o2,o3,o4,o5,o6,o7,o8,o9,hl2,ha,hv,hb,hu,hw,h2,Ad,Af,Ae,Ac,Ah,Aa]
     repeat ((first | (refine A2 ?_ ?_; (focus (simp (disch:=omega) only [go_sem,o1,o2,o3,o4,o5,o6,o7,o8,o9,hl2,ha,hv,hb,hu,hw,h2,Ad,Af,Ae,Ac,Ah,Aa]; done))) | (refine A3 ?_ ?_; (focus (simp (disch:=omega) only [go_sem,o1,o2,o3,o4,o5,o6,o7,o8,o9,hl2,ha,hv,hb,hu,hw,h2,Ad,Af,Ae,Ac,Ah,Aa]; done)))); (try simp (disch:=omega) only [go_sem,o1,o2,o3,o4,o5,o6,o7,o8,o9,hl2,ha,hv,hb,hu,hw,h2,Ad,Af,Ae,Ac,Ah,Aa]))
    | false =>
     rw [hq] at ha
     rw [zA]
     refine Ai AE A9 (of_decide_eq_true rfl) ?_
     simp (disch:=omega) only [AC,go_sem,o1,o2,o3,o4,o5,o6,o7,o8,o9,hl2,ha,hv,hb,hu,hw,h2,Ad,Af,Ae,Ac,Ah,Aa]
     repeat ((first | (refine A2 ?_ ?_; (focus (simp (disch:=omega) only [go_sem,o1,o2,o3,o4,o5,o6,o7,o8,o9,hl2,ha,hv,hb,hu,hw,h2,Ad,Af,Ae,Ac,Ah,Aa]; done))) | (refine A3 ?_ ?_; (focus (simp (disch:=omega) only [go_sem,o1,o2,o3,o4,o5,o6,o7,o8,o9,hl2,ha,hv,hb,hu,hw,h2,Ad,Af,Ae,Ac,Ah,Aa]; done)))); (try simp (disch:=omega) only [go_sem,o1,o2,o3,o4,o5,o6,o7,o8,o9,hl2,ha,hv,hb,hu,hw,h2,Ad,Af,Ae,Ac,Ah,Aa]))
  ·have hl2:dec ((x.parts.length:Int)=0)=false:=Aj (by omega)
   have hl3:(x.parts.length == 0)=false:=by simpa using hl
   rw [hl3,zA,zA,zA]
   refine Ai AE A9 (of_decide_eq_true rfl) ?_
   simp (disch:=omega) only [AC,go_sem,o1,o2,o3,o4,o5,o6,o7,o8,o9,hl2,ha,hv,hb,hu, h2,Ad,Af,Ae,Ac,Ah,Aa]
   repeat ((first | (refine A2 ?_ ?_; (focus (simp (disch:=omega) only [go_sem,o1,o2,o3,o4,o5,o6,o7,o8,o9,hl2,ha,hv,hb,hu, h2,Ad,Af,Ae,Ac,Ah,Aa]; done))) | (refine A3 ?_ ?_; (focus (simp (disch:=omega) only [go_sem,o1,o2,o3,o4,o5,o6,o7,o8,o9,hl2,ha,hv,hb,hu, h2,Ad,Af,Ae,Ac,Ah,Aa]; done)))); (try simp (disch:=omega) only [go_sem,o1,o2,o3,o4,o5,o6,o7,o8,o9,hl2,ha,hv,hb,hu, h2,Ad,Af,Ae,Ac,Ah,Aa]))
theorem X2 (x:Fm) (hn:x.atom.nodes≤1099511627776) (hl0:x.parts.length≤1099511627776) (ho:x.op=3) (h2:E 76 [.arr (x.parts.map Fm.d),.fn 114 []] []=some (.bool (x.parts.any fun y=>!y.forms),[])):E 58 [x.sv] []=some (.bool x.forms,[]):=by
 have hf:x.form=(x.parts.length == 0&&x.atom.atom&&dec (x.var=⟨#[]⟩)):=by unfold Fm.form; rcases ho with ho <;> simp [ho]
 rcases ho with ho
 all_goals
  have o1:dec (x.op=1)=false:=Aj (by omega)
  have o2:dec (x.op=2)=false:=Aj (by omega)
  have o3:dec (x.op=3)=true:=Ar ho
  have o4:dec (x.op=4)=false:=Aj (by omega)
  have o5:dec (x.op=5)=false:=Aj (by omega)
  have o6:dec (x.op=6)=false:=Aj (by omega)
  have o7:dec (x.op=7)=false:=Aj (by omega)
  have o8:dec (x.op=8)=false:=Aj (by omega)
  have o9:dec (x.op=9)=false:=Aj (by omega)
  have ha:=PF x.atom (by omega)
  have hv:=Dl x.var
  have hb:=Fv x.op
  have hu:=Cs x.op
  rw [o5,o6,o7] at hb
  rw [o8,o9] at hu
  rw [Fm.EF,hf,← Fm.any_not]
  by_cases hl:x.parts.length=0
  ·have hl2:dec ((x.parts.length:Int)=0)=true:=Ar (by omega)
   rw [hl,beq_self_eq_true,zF]
   cases hw:dec (x.var=⟨#[]⟩) with
   | false =>
    try rw [hw] at hv
    rw [yB,zA]
    refine Ai AE A9 (of_decide_eq_true rfl) ?_
    simp (disch:=omega) only [AC,go_sem,o1,o2,o3,o4,o5,o6,o7,o8,o9,hl2,ha,hv,hb,hu,hw,h2,Ad,Af,Ae,Ac,Ah,Aa]
    repeat ((first | (refine A2 ?_ ?_; (focus (simp (disch:=omega) only [go_sem,o1,o2,o3,o4,o5,o6,o7,o8,o9,hl2,ha,hv,hb,hu,hw,h2,Ad,Af,Ae,Ac,Ah,Aa]; done))) | (refine A3 ?_ ?_; (focus (simp (disch:=omega) only [go_sem,o1,o2,o3,o4,o5,o6,o7,o8,o9,hl2,ha,hv,hb,hu,hw,h2,Ad,Af,Ae,Ac,Ah,Aa]; done)))); (try simp (disch:=omega) only [go_sem,o1,o2,o3,o4,o5,o6,o7,o8,o9,hl2,ha,hv,hb,hu,hw,h2,Ad,Af,Ae,Ac,Ah,Aa]))
   | true =>
    try rw [hw] at hv
    rw [z7]
    cases hq:x.atom.atom with
    | true =>
     rw [hq] at ha
     rw [zF]
     refine Ai AE A9 (of_decide_eq_true rfl) ?_
     simp (disch:=omega) only [AC,go_sem,o1,o2,o3,o4,o5,o6,o7,o8,o9,hl2,ha,hv,hb,hu,hw,h2,Ad,Af,Ae,Ac,Ah,Aa]
     repeat ((first | (refine A2 ?_ ?_; (focus (simp (disch:=omega) only [go_sem,o1,o2,o3,o4,o5,o6,o7,o8,o9,hl2,ha,hv,hb,hu,hw,h2,Ad,Af,Ae,Ac,Ah,Aa]; done))) | (refine A3 ?_ ?_; (focus (simp (disch:=omega) only [go_sem,o1,o2,o3,o4,o5,o6,o7,o8,o9,hl2,ha,hv,hb,hu,hw,h2,Ad,Af,Ae,Ac,Ah,Aa]; done)))); (try simp (disch:=omega) only [go_sem,o1,o2,o3,o4,o5,o6,o7,o8,o9,hl2,ha,hv,hb,hu,hw,h2,Ad,Af,Ae,Ac,Ah,Aa]))
    | false =>
     rw [hq] at ha
     rw [zA]
     refine Ai AE A9 (of_decide_eq_true rfl) ?_
     simp (disch:=omega) only [AC,go_sem,o1,o2,o3,o4,o5,o6,o7,o8,o9,hl2,ha,hv,hb,hu,hw,h2,Ad,Af,Ae,Ac,Ah,Aa]
     repeat ((first | (refine A2 ?_ ?_; (focus (simp (disch:=omega) only [go_sem,o1,o2,o3,o4,o5,o6,o7,o8,o9,hl2,ha,hv,hb,hu,hw,h2,Ad,Af,Ae,Ac,Ah,Aa]; done))) | (refine A3 ?_ ?_; (focus (simp (disch:=omega) only [go_sem,o1,o2,o3,o4,o5,o6,o7,o8,o9,hl2,ha,hv,hb,hu,hw,h2,Ad,Af,Ae,Ac,Ah,Aa]; done)))); (try simp (disch:=omega) only [go_sem,o1,o2,o3,o4,o5,o6,o7,o8,o9,hl2,ha,hv,hb,hu,hw,h2,Ad,Af,Ae,Ac,Ah,Aa]))
  ·have hl2:dec ((x.parts.length:Int)=0)=false:=Aj (by omega)
   have hl3:(x.parts.length == 0)=false:=by simpa using hl
   rw [hl3,zA,zA,zA]
   refine Ai AE A9 (of_decide_eq_true rfl) ?_
   simp (disch:=omega) only [AC,go_sem,o1,o2,o3,o4,o5,o6,o7,o8,o9,hl2,ha,hv,hb,hu, h2,Ad,Af,Ae,Ac,Ah,Aa]
   repeat ((first | (refine A2 ?_ ?_; (focus (simp (disch:=omega) only [go_sem,o1,o2,o3,o4,o5,o6,o7,o8,o9,hl2,ha,hv,hb,hu, h2,Ad,Af,Ae,Ac,Ah,Aa]; done))) | (refine A3 ?_ ?_; (focus (simp (disch:=omega) only [go_sem,o1,o2,o3,o4,o5,o6,o7,o8,o9,hl2,ha,hv,hb,hu, h2,Ad,Af,Ae,Ac,Ah,Aa]; done)))); (try simp (disch:=omega) only [go_sem,o1,o2,o3,o4,o5,o6,o7,o8,o9,hl2,ha,hv,hb,hu, h2,Ad,Af,Ae,Ac,Ah,Aa]))
theorem X3 (x:Fm) (hn:x.atom.nodes≤1099511627776) (hl0:x.parts.length≤1099511627776) (ho:x.op=4) (h2:E 76 [.arr (x.parts.map Fm.d),.fn 114 []] []=some (.bool (x.parts.any fun y=>!y.forms),[])):E 58 [x.sv] []=some (.bool x.forms,[]):=by
 have hf:x.form=(x.parts.length == 1&&x.atom.isZ&&dec (x.var=⟨#[]⟩)):=by unfold Fm.form; rcases ho with ho <;> simp [ho]
 rcases ho with ho
 all_goals
  have o1:dec (x.op=1)=false:=Aj (by omega)
  have o2:dec (x.op=2)=false:=Aj (by omega)
  have o3:dec (x.op=3)=false:=Aj (by omega)
  have o4:dec (x.op=4)=true:=Ar ho
  have o5:dec (x.op=5)=false:=Aj (by omega)
  have o6:dec (x.op=6)=false:=Aj (by omega)
  have o7:dec (x.op=7)=false:=Aj (by omega)
  have o8:dec (x.op=8)=false:=Aj (by omega)
  have o9:dec (x.op=9)=false:=Aj (by omega)
  have ha:=Gx x.atom
  have hv:=Dl x.var
  have hb:=Fv x.op
  have hu:=Cs x.op
  rw [o5,o6,o7] at hb
  rw [o8,o9] at hu
  rw [Fm.EF,hf,← Fm.any_not]
  by_cases hl:x.parts.length=1
  ·have hl2:dec ((x.parts.length:Int)=1)=true:=Ar (by omega)
   rw [hl,beq_self_eq_true,zF]
   cases hw:dec (x.var=⟨#[]⟩) with
   | false =>
    try rw [hw] at hv
    rw [yB,zA]
    refine Ai AE A9 (of_decide_eq_true rfl) ?_
    simp (disch:=omega) only [AC,go_sem,o1,o2,o3,o4,o5,o6,o7,o8,o9,hl2,ha,hv,hb,hu,hw,h2,Ad,Af,Ae,Ac,Ah,Aa]
    repeat ((first | (refine A2 ?_ ?_; (focus (simp (disch:=omega) only [go_sem,o1,o2,o3,o4,o5,o6,o7,o8,o9,hl2,ha,hv,hb,hu,hw,h2,Ad,Af,Ae,Ac,Ah,Aa]; done))) | (refine A3 ?_ ?_; (focus (simp (disch:=omega) only [go_sem,o1,o2,o3,o4,o5,o6,o7,o8,o9,hl2,ha,hv,hb,hu,hw,h2,Ad,Af,Ae,Ac,Ah,Aa]; done)))); (try simp (disch:=omega) only [go_sem,o1,o2,o3,o4,o5,o6,o7,o8,o9,hl2,ha,hv,hb,hu,hw,h2,Ad,Af,Ae,Ac,Ah,Aa]))
   | true =>
    try rw [hw] at hv
    rw [z7]
    cases hq:x.atom.isZ with
    | true =>
     rw [hq] at ha
     rw [zF]
     refine Ai AE A9 (of_decide_eq_true rfl) ?_
     simp (disch:=omega) only [AC,go_sem,o1,o2,o3,o4,o5,o6,o7,o8,o9,hl2,ha,hv,hb,hu,hw,h2,Ad,Af,Ae,Ac,Ah,Aa]
     repeat ((first | (refine A2 ?_ ?_; (focus (simp (disch:=omega) only [go_sem,o1,o2,o3,o4,o5,o6,o7,o8,o9,hl2,ha,hv,hb,hu,hw,h2,Ad,Af,Ae,Ac,Ah,Aa]; done))) | (refine A3 ?_ ?_; (focus (simp (disch:=omega) only [go_sem,o1,o2,o3,o4,o5,o6,o7,o8,o9,hl2,ha,hv,hb,hu,hw,h2,Ad,Af,Ae,Ac,Ah,Aa]; done)))); (try simp (disch:=omega) only [go_sem,o1,o2,o3,o4,o5,o6,o7,o8,o9,hl2,ha,hv,hb,hu,hw,h2,Ad,Af,Ae,Ac,Ah,Aa]))
    | false =>
     rw [hq] at ha
     rw [zA]
     refine Ai AE A9 (of_decide_eq_true rfl) ?_
     simp (disch:=omega) only [AC,go_sem,o1,o2,o3,o4,o5,o6,o7,o8,o9,hl2,ha,hv,hb,hu,hw,h2,Ad,Af,Ae,Ac,Ah,Aa]
     repeat ((first | (refine A2 ?_ ?_; (focus (simp (disch:=omega) only [go_sem,o1,o2,o3,o4,o5,o6,o7,o8,o9,hl2,ha,hv,hb,hu,hw,h2,Ad,Af,Ae,Ac,Ah,Aa]; done))) | (refine A3 ?_ ?_; (focus (simp (disch:=omega) only [go_sem,o1,o2,o3,o4,o5,o6,o7,o8,o9,hl2,ha,hv,hb,hu,hw,h2,Ad,Af,Ae,Ac,Ah,Aa]; done)))); (try simp (disch:=omega) only [go_sem,o1,o2,o3,o4,o5,o6,o7,o8,o9,hl2,ha,hv,hb,hu,hw,h2,Ad,Af,Ae,Ac,Ah,Aa]))
  ·have hl2:dec ((x.parts.length:Int)=1)=false:=Aj (by omega)
   have hl3:(x.parts.length == 1)=false:=by simpa using hl
   rw [hl3,zA,zA,zA]
   refine Ai AE A9 (of_decide_eq_true rfl) ?_
   simp (disch:=omega) only [AC,go_sem,o1,o2,o3,o4,o5,o6,o7,o8,o9,hl2,ha,hv,hb,hu, h2,Ad,Af,Ae,Ac,Ah,Aa]
   repeat ((first | (refine A2 ?_ ?_; (focus (simp (disch:=omega) only [go_sem,o1,o2,o3,o4,o5,o6,o7,o8,o9,hl2,ha,hv,hb,hu, h2,Ad,Af,Ae,Ac,Ah,Aa]; done))) | (refine A3 ?_ ?_; (focus (simp (disch:=omega) only [go_sem,o1,o2,o3,o4,o5,o6,o7,o8,o9,hl2,ha,hv,hb,hu, h2,Ad,Af,Ae,Ac,Ah,Aa]; done)))); (try simp (disch:=omega) only [go_sem,o1,o2,o3,o4,o5,o6,o7,o8,o9,hl2,ha,hv,hb,hu, h2,Ad,Af,Ae,Ac,Ah,Aa]))
theorem MA (x:Fm) (hn:x.atom.nodes≤1099511627776) (hl0:x.parts.length≤1099511627776) (ho:x.op=5∨x.op=6∨x.op=7) (h2:E 76 [.arr (x.parts.map Fm.d),.fn 114 []] []=some (.bool (x.parts.any fun y=>!y.forms),[])):E 58 [x.sv] []=some (.bool x.forms,[]):=by
 have hf:x.form=(x.parts.length == 2&&x.atom.isZ&&dec (x.var=⟨#[]⟩)):=by unfold Fm.form; rcases ho with ho | ho | ho <;> simp [ho]
 rcases ho with ho | ho | ho
 all_goals
  have o1:dec (x.op=1)=false:=Aj (by omega)
  have o2:dec (x.op=2)=false:=Aj (by omega)
  have o3:dec (x.op=3)=false:=Aj (by omega)
  have o4:dec (x.op=4)=false:=Aj (by omega)
  first
   |(have o5:dec (x.op=5)=true:=Ar ho)
   |(have o5:dec (x.op=5)=false:=Aj (by omega))
  first
   |(have o6:dec (x.op=6)=true:=Ar ho)
   |(have o6:dec (x.op=6)=false:=Aj (by omega))
  first
   |(have o7:dec (x.op=7)=true:=Ar ho)
   |(have o7:dec (x.op=7)=false:=Aj (by omega))
  have o8:dec (x.op=8)=false:=Aj (by omega)
  have o9:dec (x.op=9)=false:=Aj (by omega)
  have ha:=Gx x.atom
  have hv:=Dl x.var
  have hb:=Fv x.op
  have hu:=Cs x.op
  rw [o5,o6,o7] at hb
  rw [o8,o9] at hu
  rw [Fm.EF,hf,← Fm.any_not]
  by_cases hl:x.parts.length=2
  ·have hl2:dec ((x.parts.length:Int)=2)=true:=Ar (by omega)
   rw [hl,beq_self_eq_true,zF]
   cases hw:dec (x.var=⟨#[]⟩) with
   | false =>
    try rw [hw] at hv
    rw [yB,zA]
    refine Ai AE A9 (of_decide_eq_true rfl) ?_
    simp (disch:=omega) only [AC,go_sem,o1,o2,o3,o4,o5,o6,o7,o8,o9,hl2,ha,hv,hb,hu,hw,h2,Ad,Af,Ae,Ac,Ah,Aa]
    repeat ((first | (refine A2 ?_ ?_; (focus (simp (disch:=omega) only [go_sem,o1,o2,o3,o4,o5,o6,o7,o8,o9,hl2,ha,hv,hb,hu,hw,h2,Ad,Af,Ae,Ac,Ah,Aa]; done))) | (refine A3 ?_ ?_; (focus (simp (disch:=omega) only [go_sem,o1,o2,o3,o4,o5,o6,o7,o8,o9,hl2,ha,hv,hb,hu,hw,h2,Ad,Af,Ae,Ac,Ah,Aa]; done)))); (try simp (disch:=omega) only [go_sem,o1,o2,o3,o4,o5,o6,o7,o8,o9,hl2,ha,hv,hb,hu,hw,h2,Ad,Af,Ae,Ac,Ah,Aa]))
   | true =>
    try rw [hw] at hv
    rw [z7]
    cases hq:x.atom.isZ with
    | true =>
     rw [hq] at ha
     rw [zF]
     refine Ai AE A9 (of_decide_eq_true rfl) ?_
     simp (disch:=omega) only [AC,go_sem,o1,o2,o3,o4,o5,o6,o7,o8,o9,hl2,ha,hv,hb,hu,hw,h2,Ad,Af,Ae,Ac,Ah,Aa]
     repeat ((first | (refine A2 ?_ ?_; (focus (simp (disch:=omega) only [go_sem,o1,o2,o3,o4,o5,o6,o7,o8,o9,hl2,ha,hv,hb,hu,hw,h2,Ad,Af,Ae,Ac,Ah,Aa]; done))) | (refine A3 ?_ ?_; (focus (simp (disch:=omega) only [go_sem,o1,o2,o3,o4,o5,o6,o7,o8,o9,hl2,ha,hv,hb,hu,hw,h2,Ad,Af,Ae,Ac,Ah,Aa]; done)))); (try simp (disch:=omega) only [go_sem,o1,o2,o3,o4,o5,o6,o7,o8,o9,hl2,ha,hv,hb,hu,hw,h2,Ad,Af,Ae,Ac,Ah,Aa]))
    | false =>
     rw [hq] at ha
     rw [zA]
     refine Ai AE A9 (of_decide_eq_true rfl) ?_
     simp (disch:=omega) only [AC,go_sem,o1,o2,o3,o4,o5,o6,o7,o8,o9,hl2,ha,hv,hb,hu,hw,h2,Ad,Af,Ae,Ac,Ah,Aa]
     repeat ((first | (refine A2 ?_ ?_; (focus (simp (disch:=omega) only [go_sem,o1,o2,o3,o4,o5,o6,o7,o8,o9,hl2,ha,hv,hb,hu,hw,h2,Ad,Af,Ae,Ac,Ah,Aa]; done))) | (refine A3 ?_ ?_; (focus (simp (disch:=omega) only [go_sem,o1,o2,o3,o4,o5,o6,o7,o8,o9,hl2,ha,hv,hb,hu,hw,h2,Ad,Af,Ae,Ac,Ah,Aa]; done)))); (try simp (disch:=omega) only [go_sem,o1,o2,o3,o4,o5,o6,o7,o8,o9,hl2,ha,hv,hb,hu,hw,h2,Ad,Af,Ae,Ac,Ah,Aa]))
  ·have hl2:dec ((x.parts.length:Int)=2)=false:=Aj (by omega)
   have hl3:(x.parts.length == 2)=false:=by simpa using hl
   rw [hl3,zA,zA,zA]
   refine Ai AE A9 (of_decide_eq_true rfl) ?_
   simp (disch:=omega) only [AC,go_sem,o1,o2,o3,o4,o5,o6,o7,o8,o9,hl2,ha,hv,hb,hu, h2,Ad,Af,Ae,Ac,Ah,Aa]
   repeat ((first | (refine A2 ?_ ?_; (focus (simp (disch:=omega) only [go_sem,o1,o2,o3,o4,o5,o6,o7,o8,o9,hl2,ha,hv,hb,hu, h2,Ad,Af,Ae,Ac,Ah,Aa]; done))) | (refine A3 ?_ ?_; (focus (simp (disch:=omega) only [go_sem,o1,o2,o3,o4,o5,o6,o7,o8,o9,hl2,ha,hv,hb,hu, h2,Ad,Af,Ae,Ac,Ah,Aa]; done)))); (try simp (disch:=omega) only [go_sem,o1,o2,o3,o4,o5,o6,o7,o8,o9,hl2,ha,hv,hb,hu, h2,Ad,Af,Ae,Ac,Ah,Aa]))
theorem QV (x:Fm) (hn:x.atom.nodes≤1099511627776) (hl0:x.parts.length≤1099511627776) (ho:x.op=8∨x.op=9) (h2:E 76 [.arr (x.parts.map Fm.d),.fn 114 []] []=some (.bool (x.parts.any fun y=>!y.forms),[])):E 58 [x.sv] []=some (.bool x.forms,[]):=by
 have hf:x.form=(x.parts.length == 1&&x.atom.isZ&&AS x.var):=by unfold Fm.form; rcases ho with ho | ho <;> simp [ho]
 rcases ho with ho | ho
 all_goals
  have o1:dec (x.op=1)=false:=Aj (by omega)
  have o2:dec (x.op=2)=false:=Aj (by omega)
  have o3:dec (x.op=3)=false:=Aj (by omega)
  have o4:dec (x.op=4)=false:=Aj (by omega)
  have o5:dec (x.op=5)=false:=Aj (by omega)
  have o6:dec (x.op=6)=false:=Aj (by omega)
  have o7:dec (x.op=7)=false:=Aj (by omega)
  first
   |(have o8:dec (x.op=8)=true:=Ar ho)
   |(have o8:dec (x.op=8)=false:=Aj (by omega))
  first
   |(have o9:dec (x.op=9)=true:=Ar ho)
   |(have o9:dec (x.op=9)=false:=Aj (by omega))
  have ha:=Gx x.atom
  have hv:=Dl x.var
  have hb:=Fv x.op
  have hu:=Cs x.op
  rw [o5,o6,o7] at hb
  rw [o8,o9] at hu
  rw [Fm.EF,hf,← Fm.any_not]
  by_cases hl:x.parts.length=1
  ·have hl2:dec ((x.parts.length:Int)=1)=true:=Ar (by omega)
   rw [hl,beq_self_eq_true,zF]
   cases hw:AS x.var with
   | false =>
    try rw [hw] at hv
    rw [yB,zA]
    refine Ai AE A9 (of_decide_eq_true rfl) ?_
    simp (disch:=omega) only [AC,go_sem,o1,o2,o3,o4,o5,o6,o7,o8,o9,hl2,ha,hv,hb,hu, h2,Ad,Af,Ae,Ac,Ah,Aa]
    repeat ((first | (refine A2 ?_ ?_; (focus (simp (disch:=omega) only [go_sem,o1,o2,o3,o4,o5,o6,o7,o8,o9,hl2,ha,hv,hb,hu, h2,Ad,Af,Ae,Ac,Ah,Aa]; done))) | (refine A3 ?_ ?_; (focus (simp (disch:=omega) only [go_sem,o1,o2,o3,o4,o5,o6,o7,o8,o9,hl2,ha,hv,hb,hu, h2,Ad,Af,Ae,Ac,Ah,Aa]; done)))); (try simp (disch:=omega) only [go_sem,o1,o2,o3,o4,o5,o6,o7,o8,o9,hl2,ha,hv,hb,hu, h2,Ad,Af,Ae,Ac,Ah,Aa]))
   | true =>
    try rw [hw] at hv
    rw [z7]
    cases hq:x.atom.isZ with
    | true =>
     rw [hq] at ha
     rw [zF]
     refine Ai AE A9 (of_decide_eq_true rfl) ?_
     simp (disch:=omega) only [AC,go_sem,o1,o2,o3,o4,o5,o6,o7,o8,o9,hl2,ha,hv,hb,hu, h2,Ad,Af,Ae,Ac,Ah,Aa]
     repeat ((first | (refine A2 ?_ ?_; (focus (simp (disch:=omega) only [go_sem,o1,o2,o3,o4,o5,o6,o7,o8,o9,hl2,ha,hv,hb,hu, h2,Ad,Af,Ae,Ac,Ah,Aa]; done))) | (refine A3 ?_ ?_; (focus (simp (disch:=omega) only [go_sem,o1,o2,o3,o4,o5,o6,o7,o8,o9,hl2,ha,hv,hb,hu, h2,Ad,Af,Ae,Ac,Ah,Aa]; done)))); (try simp (disch:=omega) only [go_sem,o1,o2,o3,o4,o5,o6,o7,o8,o9,hl2,ha,hv,hb,hu, h2,Ad,Af,Ae,Ac,Ah,Aa]))
    | false =>
     rw [hq] at ha
     rw [zA]
     refine Ai AE A9 (of_decide_eq_true rfl) ?_
     simp (disch:=omega) only [AC,go_sem,o1,o2,o3,o4,o5,o6,o7,o8,o9,hl2,ha,hv,hb,hu, h2,Ad,Af,Ae,Ac,Ah,Aa]
     repeat ((first | (refine A2 ?_ ?_; (focus (simp (disch:=omega) only [go_sem,o1,o2,o3,o4,o5,o6,o7,o8,o9,hl2,ha,hv,hb,hu, h2,Ad,Af,Ae,Ac,Ah,Aa]; done))) | (refine A3 ?_ ?_; (focus (simp (disch:=omega) only [go_sem,o1,o2,o3,o4,o5,o6,o7,o8,o9,hl2,ha,hv,hb,hu, h2,Ad,Af,Ae,Ac,Ah,Aa]; done)))); (try simp (disch:=omega) only [go_sem,o1,o2,o3,o4,o5,o6,o7,o8,o9,hl2,ha,hv,hb,hu, h2,Ad,Af,Ae,Ac,Ah,Aa]))
  ·have hl2:dec ((x.parts.length:Int)=1)=false:=Aj (by omega)
   have hl3:(x.parts.length == 1)=false:=by simpa using hl
   rw [hl3,zA,zA,zA]
   refine Ai AE A9 (of_decide_eq_true rfl) ?_
   simp (disch:=omega) only [AC,go_sem,o1,o2,o3,o4,o5,o6,o7,o8,o9,hl2,ha,hv,hb,hu, h2,Ad,Af,Ae,Ac,Ah,Aa]
   repeat ((first | (refine A2 ?_ ?_; (focus (simp (disch:=omega) only [go_sem,o1,o2,o3,o4,o5,o6,o7,o8,o9,hl2,ha,hv,hb,hu, h2,Ad,Af,Ae,Ac,Ah,Aa]; done))) | (refine A3 ?_ ?_; (focus (simp (disch:=omega) only [go_sem,o1,o2,o3,o4,o5,o6,o7,o8,o9,hl2,ha,hv,hb,hu, h2,Ad,Af,Ae,Ac,Ah,Aa]; done)))); (try simp (disch:=omega) only [go_sem,o1,o2,o3,o4,o5,o6,o7,o8,o9,hl2,ha,hv,hb,hu, h2,Ad,Af,Ae,Ac,Ah,Aa]))
theorem Vy (x:Fm) (ht:x.tame) (hn:x.nodes≤1099511627776) (ih:∀ y∈x.parts,E 58 [y.sv] []=some (.bool y.forms,[])):E 58 [x.sv] []=some (.bool x.forms,[]):=by
 have hl:=Fm.length_le x.parts
 have hx:=Fm.nodes_eq x
 have ha:=Fm.tame_at ht
 have h1:∀ y∈x.parts,E 114 [y.sv] []=some (.bool (!y.forms),[]):=fun y hy=>by
  have h:=ih y hy
  refine Ai M8 Il (of_decide_eq_true rfl) ?_
  simp (disch:=omega) only [Ik,go_sem,Ab,h,A9]
 have h2:=GR 114 (fun y=>!y.forms) x.parts (by omega) M9 (by rw [Il]) h1
 rcases L6 x.op with h | h | h | h | h | h | h | h | h | h
 ·exact QU x ha (by omega) (.inl h) h2
 ·exact QU x ha (by omega) (.inr h) h2
 ·exact X2 x ha (by omega) h h2
 ·exact X3 x ha (by omega) h h2
 ·exact MA x ha (by omega) (.inl h) h2
 ·exact MA x ha (by omega) (.inr (.inl h)) h2
 ·exact MA x ha (by omega) (.inr (.inr h)) h2
 ·exact QV x ha (by omega) (.inl h) h2
 ·exact QV x ha (by omega) (.inr h) h2
 ·obtain ⟨k1,k2,k3,k4,k5,k6,k7,k8,k9⟩:=h
  have hf:x.form=false:=by unfold Fm.form; simp [k1,k2,k3,k4,k5,k6,k7,k8,k9]
  have o1:=Aj k1
  have o2:=Aj k2
  have o3:=Aj k3
  have o4:=Aj k4
  have o5:=Aj k5
  have o6:=Aj k6
  have o7:=Aj k7
  have o8:=Aj k8
  have o9:=Aj k9
  have hb:=Fv x.op
  have hu:=Cs x.op
  rw [o5,o6,o7] at hb
  rw [o8,o9] at hu
  rw [Fm.EF,hf,zA]
  refine Ai AE A9 (of_decide_eq_true rfl) ?_
  simp (disch:=omega) only [AC,go_sem,o1,o2,o3,o4,o5,o6,o7,o8,o9,hb,hu,Ac,Ah]
  repeat ((first | (refine A2 ?_ ?_; (focus (simp (disch:=omega) only [go_sem,o1,o2,o3,o4,o5,o6,o7,o8,o9,hb,hu,Ac,Ah]; done))) | (refine A3 ?_ ?_; (focus (simp (disch:=omega) only [go_sem,o1,o2,o3,o4,o5,o6,o7,o8,o9,hb,hu,Ac,Ah]; done)))); (try simp (disch:=omega) only [go_sem,o1,o2,o3,o4,o5,o6,o7,o8,o9,hb,hu,Ac,Ah]))
theorem QW (x:Fm) (ht:x.tame) (hn:x.nodes≤1099511627776):E 58 [x.sv] []=some (.bool x.forms,[]) :=
 Vy x ht hn fun y hy=>QW y (Fm.JQ ht hy) (by have:=Fm.nodes_mem hy; have:=Fm.nodes_eq x; omega)
termination_by SizeOf.sizeOf x
decreasing_by exact Fm.lt_of_mem hy
theorem Fw (x:Fm) (ht:x.tame) (hn:x.nodes≤1099511627776):E 28 [x.sv] []=some (.bool x.valid,[]):=by
 have h1:=W7 x hn
 have h2:=QW x ht hn
 have h3:=Fm.cap_spec x
 unfold Fm.valid
 rcases zC 40 x.nodes with h5 | h5
 ·rw [decide_eq_false (by omega),zA]
  have d:dec (x.cap≤40)=false:=Aj (by omega)
  refine Ai Fa AP (of_decide_eq_true rfl) ?_
  simp (disch:=omega) only [D9,go_sem,Ab,h1,h2,d,Ej,A9]
 ·rw [decide_eq_true h5,zF]
  have d:dec (x.cap≤40)=true:=Ar (by omega)
  refine Ai Fa AP (of_decide_eq_true rfl) ?_
  simp (disch:=omega) only [D9,go_sem,Ab,h1,h2,d,Ej,A9]
theorem LG (x:Fm) (ht:x.tame) (hn:x.nodes≤1099511627776):E 32 [x.sv] []=some (.bool x.valid,[]):=by
 have h1:=W8 x 40 (by omega) (by omega) hn
 have h2:=QT x ht hn
 have h3:=Fm.many_spec x 40
 unfold Fm.valid
 rcases zC 40 x.nodes with h5 | h5
 ·rw [decide_eq_false (by omega),zA]
  have d:dec ((x.many 40)≤40)=false:=Aj (by omega)
  refine Ai Kw Bb (of_decide_eq_true rfl) ?_
  simp (disch:=omega) only [HI,go_sem,Ab,h1,h2,d,Ek,Dc]
 ·rw [decide_eq_true h5,zF]
  have d:dec ((x.many 40)≤40)=true:=Ar (by omega)
  refine Ai Kw Bb (of_decide_eq_true rfl) ?_
  simp (disch:=omega) only [HI,go_sem,Ab,h1,h2,d,Ek,Dc]
def Fm.osh (x:Fm):List OT:=[.int x.op,.str x.atom.name,.sh (x.atom.args.map Tm.d),.str x.var,.sh (x.parts.map Fm.d)]
theorem Fm.osh_eq (x:Fm):x.osh=[.int x.op,.str x.atom.name,.sh (x.atom.args.map Tm.d),.str x.var,.sh (x.parts.map Fm.d)]:=rfl
theorem Fm.osh_full:∀ xs:List Fm,OT.AA (xs.map Fm.osh)=true
 | []=>rfl
 | x :: xs=>by simp only [zG,OT.AA,Fm.osh,OT.C1,OT.full,Fm.osh_full xs,yZ]
theorem Fm.osh_er:∀ xs:List Fm,OT.erss (xs.map Fm.osh)=xs.map Fm.d
 | []=>rfl
 | x :: xs=>by simp only [zG,OT.erss,Fm.osh,OT.ers,OT.er,Fm.osh_er xs,Fm.d_eq]
theorem Fm.eta (x:Fm):Fm.mk x.op x.atom x.var x.parts=x:=by
 obtain ⟨a,b,c,d⟩:=x
 rfl
def Gb:SC:=(.seq (.reg [⟨some 2,none,.boxv 29 5 (.t 0)⟩,⟨(some 4),none,(.alloc 29 [(.int .i64 0),(.str ⟨#[]⟩),.nil,(.str ⟨#[]⟩),.nil])⟩]) (.seq (.dreg [[],[0],[],[2],[3,2],[],[5],[1,0,4,3,2,6,5],[],[8,7,1,0,4,3,2,6,5]] [⟨some 8,none,.faddr 0 (.t 2)⟩,⟨some 9,none,.load false 1 (.t 8)⟩,⟨some 10,none,.faddr 1 (.t 2)⟩,⟨some 11,none,.load true 2 (.t 10)⟩,⟨some 12,none,.call 115 [(.t 11)]⟩,⟨some 13,none,.faddr 3 (.t 2)⟩,⟨some 14,none,.load false 1 (.t 13)⟩,⟨(some 15),none,(.build [(.int .i64 0),(.str ⟨#[]⟩),.nil,(.str ⟨#[]⟩),.nil] [(0,(1,(.t 9))),(1,(2,(.t 12))),(3,(1,(.t 14)))])⟩,⟨(some 5),none,(.alloc 29 [(.int .i64 0),(.str ⟨#[]⟩),.nil,(.str ⟨#[]⟩),.nil])⟩,⟨none,none,(.store 5 (.t 5) (.t 15))⟩]) (.seq (.seq (.reg [⟨some 16,none,.faddr 4 (.t 2)⟩,⟨some 17,none,.load false 1 (.t 16)⟩,⟨some 18,none,.len false (.t 17)⟩,⟨some 19,none,.mv (.c (.int .i64 0))⟩]) (.block 0 (.loop [0,1,0,0,1,1,0,0,0,0,0,0,0,0,0,0,0,1,1,1,0,0,0,0,0,0,0,0,0,0,0,0,0] (.seq (.reg [⟨some 20,none,.bin .lss false (.t 19) (.t 18)⟩]) (.seq (.cond (.t 20) .skip (.exit 0)) (.seq (.block 1 (.seq (.reg [⟨some 21,none,.iaddr 5 (.t 17) (.t 19)⟩,⟨some 22,none,.load true 5 (.t 21)⟩,⟨(some 7),none,(.alloc 29 [(.int .i64 0),(.str ⟨#[]⟩),.nil,(.str ⟨#[]⟩),.nil])⟩,⟨none,none,(.store 5 (.t 7) (.t 22))⟩]) (.dreg [[],[0],[],[],[2,3],[4,2,3],[1,0,5,4,2,3],[0,1,2,3,4,5,6],[7,0,1,2,3,4,5,6]] [⟨some 23,none,.faddr 4 (.t 5)⟩,⟨some 24,none,.load false 1 (.t 23)⟩,⟨some 25,none,.mv (.t 1)⟩,⟨some 26,none,.load true 5 (.t 7)⟩,⟨some 27,none,.callv (.t 25) [(.t 26)]⟩,⟨(some 28),none,(.mkrow 29 5 [(.int .i64 0),(.str ⟨#[]⟩),.nil,(.str ⟨#[]⟩),.nil] 1 [(0,(.t 27))])⟩,⟨(some 29),none,(.append 29 5 88 [(.int .i64 0),(.str ⟨#[]⟩),.nil,(.str ⟨#[]⟩),.nil] (.t 24) (.t 28))⟩,⟨some 30,none,.faddr 4 (.t 5)⟩,⟨none,none,(.store 1 (.t 30) (.t 29))⟩]))) (.reg [⟨some 31,none,.bin .add false (.t 19) (.c (.int .i64 1))⟩,⟨some 19,none,.mv (.t 31)⟩]))))))) (.seq (.reg [⟨some 32,none,.load true 5 (.t 5)⟩,⟨none,none,(.store 5 (.t 4) (.t 32))⟩]) .ret))))
theorem IQ:At Tryz.prog 62=some ⟨33,Gb,[(.cell 4 true 5)]⟩:=by kernel_rfl
theorem Es:modes 62=⟨[],.own [none,none,some (26,2),none,some (29,5)],none,false⟩:=by unfold modes; rfl
def GT:SC:=(.seq (.reg [⟨some 1,none,.boxv 29 5 (.t 0)⟩,⟨(some 2),none,(.alloc 29 [(.int .i64 0),(.str ⟨#[]⟩),.nil,(.str ⟨#[]⟩),.nil])⟩]) (.seq (.reg [⟨some 3,none,.load true 5 (.t 1)⟩,⟨some 4,none,.call 62 [(.t 3),(.c (.fn 59 []))]⟩,⟨none,none,(.store 5 (.t 2) (.t 4))⟩]) .ret))
theorem KX:At Tryz.prog 59=some ⟨5,GT,[(.cell 2 true 5)]⟩:=by kernel_rfl
theorem E3:modes 59=⟨[],.own [none,none,some (26,2),none,some (29,5)],none,false⟩:=by unfold modes; rfl
theorem KY:IY Tryz.prog 59=true:=by kernel_rfl
def LH:SC:=(.seq (.reg [⟨some 1,none,.boxv 29 5 (.t 0)⟩,⟨(some 2),none,(.alloc 29 [(.int .i64 0),(.str ⟨#[]⟩),.nil,(.str ⟨#[]⟩),.nil])⟩]) (.seq (.dreg [[],[0],[],[2],[3,2],[],[5],[1,0,4,3,2,6,5],[],[8,7,1,0,4,3,2,6,5]] [⟨some 5,none,.faddr 0 (.t 1)⟩,⟨some 6,none,.load false 1 (.t 5)⟩,⟨some 7,none,.faddr 1 (.t 1)⟩,⟨some 8,none,.load true 2 (.t 7)⟩,⟨some 9,none,.call 120 [(.t 8)]⟩,⟨some 10,none,.faddr 3 (.t 1)⟩,⟨some 11,none,.load false 1 (.t 10)⟩,⟨(some 12),none,(.build [(.int .i64 0),(.str ⟨#[]⟩),.nil,(.str ⟨#[]⟩),.nil] [(0,(1,(.t 6))),(1,(2,(.t 9))),(3,(1,(.t 11)))])⟩,⟨(some 3),none,(.alloc 29 [(.int .i64 0),(.str ⟨#[]⟩),.nil,(.str ⟨#[]⟩),.nil])⟩,⟨none,none,(.store 5 (.t 3) (.t 12))⟩]) (.seq (.seq (.reg [⟨some 4,none,.mv (.c (.int .i64 0))⟩]) (.block 0 (.loop [0,1,1,1,1,0,0,0,0,0,0,0,0,0,0,0,0,0,0,0,0,0,0,0,0,0,0,0,0,0,0,0] (.seq (.seq (.reg [⟨some 13,none,.mv (.t 4)⟩,⟨some 14,none,.faddr 4 (.t 1)⟩,⟨some 15,none,.load false 1 (.t 14)⟩,⟨some 16,none,.len false (.t 15)⟩,⟨some 17,none,.bin .lss false (.t 13) (.t 16)⟩]) (.cond (.t 17) .skip (.exit 0))) (.seq (.block 1 (.dreg [[],[0],[],[2],[],[3,2,4],[5,3,2,4],[6,5,3,2,4],[7,6,5,3,2,4],[1,0,8,7,6,5,3,2,4],[0,1,2,3,4,5,6,7,8,9],[10,0,1,2,3,4,5,6,7,8,9]] [⟨some 20,none,.faddr 4 (.t 3)⟩,⟨some 21,none,.load false 1 (.t 20)⟩,⟨some 22,none,.faddr 4 (.t 1)⟩,⟨some 23,none,.load false 1 (.t 22)⟩,⟨some 24,none,.mv (.t 4)⟩,⟨some 25,none,.iaddr 5 (.t 23) (.t 24)⟩,⟨some 26,none,.load true 5 (.t 25)⟩,⟨some 27,none,.call 67 [(.t 26)]⟩,⟨(some 28),none,(.mkrow 29 5 [(.int .i64 0),(.str ⟨#[]⟩),.nil,(.str ⟨#[]⟩),.nil] 1 [(0,(.t 27))])⟩,⟨(some 29),none,(.append 29 5 88 [(.int .i64 0),(.str ⟨#[]⟩),.nil,(.str ⟨#[]⟩),.nil] (.t 21) (.t 28))⟩,⟨some 30,none,.faddr 4 (.t 3)⟩,⟨none,none,(.store 1 (.t 30) (.t 29))⟩])) (.reg [⟨some 18,none,.mv (.t 4)⟩,⟨some 19,none,.bin .add false (.t 18) (.c (.int .i64 1))⟩,⟨some 4,none,.mv (.t 19)⟩])))))) (.seq (.reg [⟨some 31,none,.load true 5 (.t 3)⟩,⟨none,none,(.store 5 (.t 2) (.t 31))⟩]) .ret))))
theorem RW:At Tryz.prog 67=some ⟨32,LH,[(.cell 2 true 5)]⟩:=by kernel_rfl
theorem Ao:modes 67=⟨[],.frz,none,false⟩:=by unfold modes; rfl
theorem TH (fid:Nat) (g:Fm→Fm) (x:Fm) (hl:x.parts.length≤1099511627776) (hat:x.atom.nodes≤1099511627776) (hg:IY Tryz.prog fid=true) (hm:(modes fid).hand=[]) (hr:∀ r,Ds (modes fid).res r=r) (hE:∀ y∈x.parts,E fid [y.sv] []=some ((g y).osv,(g y).obs)):E 62 [x.sv,.fn fid []] []=some ((Fm.mk x.op x.atom x.var (x.parts.map g)).osv,(Fm.mk x.op x.atom x.var (x.parts.map g)).obs):=by
 have hct:=IB x.atom hat
 have h10:((1:Int)=0)=False:=by simp
 have hmm:∀ ys:List Fm,(ys.map g).map Fm.o=ys.map fun y=>Fm.o (g y):=fun ys=>by rw [zN]; rfl
 show _=some (SV.agg [.int .i64 x.op,.str x.atom.name,.ref 0,.str x.var,.ref 1],[Ob.row 26 2 (x.atom.args.map Tm.o),.row 29 5 ((x.parts.map g).map Fm.o)])
 rw [hmm]
 refine Ai IQ Es (of_decide_eq_true rfl) ?_
 simp (disch:=omega) only [Gb,go_sem,Ab,hct,Dy,Tm.osv,Tm.obs]
 refine go_loop (α:=Int) (fun a=>⟨slots 33 0 [(1,.fn fid []),(4,.ptr 0 0),(5,.ptr 1 0),(17,.arr (x.parts.map Fm.d)),(18,.int .i64 x.parts.length),(19,.int .i64 a)],(if a=0 then [.box 29 [.int .i64 0,.str ⟨#[]⟩,.nil,.str ⟨#[]⟩,.nil],.box 29 [.int .i64 x.op,.str x.atom.name,.ref 2,.str x.var,.nil],.row 26 2 (x.atom.args.map Tm.o)] else [.box 29 [.int .i64 0,.str ⟨#[]⟩,.nil,.str ⟨#[]⟩,.nil],.box 29 [.int .i64 x.op,.str x.atom.name,.ref 2,.str x.var,.ref 3],.row 26 2 (x.atom.args.map Tm.o),.row 29 5 ((x.parts.take a.toNat).map fun y=>Fm.o (g y))])⟩) (fun a=>∃ k:Nat,a=k∧k≤(x.parts).length) (fun a=>(x.parts).length-(a).toNat) 0 ⟨0,rfl,zK _⟩ (by simp (disch:=omega) only [go_sem,Ab,eq_self,if_true]) ?_
 rintro i ⟨k,hi,hk⟩
 have hni:i.toNat=k:=by omega
 have hni1:(i+1).toNat=k+1:=by omega
 rcases zC k (x.parts).length with hlt | hge
 ·have hgt:=get_at Fm.d hlt
  rw [Fm.d_eq] at hgt
  have hc:=hE x.parts[k] (zD hlt)
  have hs:=GN (fun y=>Fm.o (g y)) hlt
  rw [Fm.o_eq] at hs
  rcases zO k with h0 | h0
  ·subst h0
   obtain rfl:i=0:=hi
   rw [yK,zP,yO] at hs
   simp (disch:=omega) only [go_sem,Ab,hni,hgt,hc,hg,hm,hr,Fm.osv,Fm.obs,eq_self,if_true]
   refine ⟨1,⟨1,rfl,hlt⟩,by omega,?_⟩
   simp (disch:=omega) only [go_sem,Ab,h10,if_false,hs]
  ·have hi0:(i=0)=False:=by simp; omega
   have hi1:(i+1=0)=False:=by simp; omega
   have htl:(x.parts.take k).length=k:=by rw [yA]; omega
   simp (disch:=omega) only [go_sem,Ab,hni,hgt,hc,hg,hm,hr,Fm.osv,Fm.obs,hi0,if_false,htl]
   refine ⟨i+1,⟨k+1,by omega,hlt⟩,by omega,?_⟩
   simp (disch:=omega) only [go_sem,Ab,hni1,hi1,if_false,hs]
 ·obtain rfl:k=x.parts.length:=by omega
  have ht:x.parts.take x.parts.length=x.parts:=yV
  rcases zO x.parts.length with h0 | h0
  ·have hx:x.parts=[]:=yN h0
   obtain rfl:i=0:=by omega
   simp (disch:=omega) only [go_sem,Ab,hni,hx,eq_self,if_true,zP,zS]
  ·have hi0:(i=0)=False:=by simp; omega
   simp (disch:=omega) only [go_sem,Ab,hni,hi0,if_false,ht]
theorem Pn (x:Fm) (ht:x.tame) (hn:x.nodes≤1099511627776) (ih:∀ y∈x.parts,E 59 [y.sv] []=some (y.osv,y.obs)):E 59 [x.sv] []=some (x.osv,x.obs):=by
 have hx:=Fm.nodes_eq x
 have hl:=Fm.length_le x.parts
 have hat:=Fm.tame_at ht
 have h:=TH 59 (fun y=>y) x (by omega) (by omega) KY (by rw [E3]) (fun r=>by rw [E3]; rfl) ih
 rw [List.map_id',Fm.eta] at h
 refine Ai KX E3 (of_decide_eq_true rfl) ?_
 simp (disch:=omega) only [GT,go_sem,Ab,h,Es,Fm.osv,Fm.obs]
theorem PK (x:Fm) (ht:x.tame) (hn:x.nodes≤1099511627776):E 59 [x.sv] []=some (x.osv,x.obs) :=
 Pn x ht hn fun y hy=>PK y (Fm.JQ ht hy) (by have:=Fm.nodes_mem hy; have:=Fm.nodes_eq x; omega)
termination_by SizeOf.sizeOf x
decreasing_by exact Fm.lt_of_mem hy
theorem Zk (x:Fm) (ht:x.tame) (hn:x.nodes≤1099511627776) (ih:∀ y∈x.parts,E 67 [y.sv] []=some (y.sv,[])):E 67 [x.sv] []=some (x.sv,[]):=by
 have hx0:=Fm.nodes_eq x
 have hl:=Fm.length_le x.parts
 have hat:=Fm.tame_at ht
 have hct:=NL x.atom (by omega)
 have h10:((1:Int)=0)=False:=by simp
 have hfu:=Fm.osh_full x.parts
 have her:=Fm.osh_er x.parts
 refine Ai RW Ao (of_decide_eq_true rfl) ?_
 simp (disch:=omega) only [LH,go_sem,Ab,hct,Dn]
 refine go_loop (α:=Int) (fun a=>⟨slots 32 0 [(1,.ptr 0 0),(2,.ptr 1 0),(3,.ptr 2 0),(4,.int .i64 a)],(if a=0 then [.box 29 [.int .i64 x.op,.str x.atom.name,.arr (x.atom.args.map Tm.d),.str x.var,.arr (x.parts.map Fm.d)],.box 29 [.int .i64 0,.str ⟨#[]⟩,.nil,.str ⟨#[]⟩,.nil],.box 29 [.int .i64 x.op,.str x.atom.name,.arr (x.atom.args.map Tm.d),.str x.var,.nil]] else [.box 29 [.int .i64 x.op,.str x.atom.name,.arr (x.atom.args.map Tm.d),.str x.var,.arr (x.parts.map Fm.d)],.box 29 [.int .i64 0,.str ⟨#[]⟩,.nil,.str ⟨#[]⟩,.nil],.box 29 [.int .i64 x.op,.str x.atom.name,.arr (x.atom.args.map Tm.d),.str x.var,.ref 3],.row 29 5 ((x.parts.take a.toNat).map Fm.osh)])⟩) (fun a=>∃ k:Nat,a=k∧k≤(x.parts).length) (fun a=>(x.parts).length-(a).toNat) 0 ⟨0,rfl,zK _⟩ (by simp (disch:=omega) only [go_sem,Ab,eq_self,if_true]) ?_
 rintro i ⟨k,hi,hk⟩
 have hni:i.toNat=k:=by omega
 have hni1:(i+1).toNat=k+1:=by omega
 rcases zC k (x.parts).length with hlt | hge
 ·have hg:=get_at Fm.d hlt
  rw [Fm.d_eq] at hg
  have hc:=ih x.parts[k] (zD hlt)
  have hs:=GN Fm.osh hlt
  rw [Fm.osh_eq] at hs
  rcases zO k with h0 | h0
  ·subst h0
   obtain rfl:i=0:=hi
   rw [yK,zP,yO] at hs
   simp (disch:=omega) only [go_sem,Ab,hni,hg,hc,Ao,eq_self,if_true]
   refine ⟨1,⟨1,rfl,hlt⟩,by omega,?_⟩
   simp (disch:=omega) only [go_sem,Ab,h10,if_false,hs]
  ·have hi0:(i=0)=False:=by simp; omega
   have hi1:(i+1=0)=False:=by simp; omega
   have htl:(x.parts.take k).length=k:=by rw [yA]; omega
   simp (disch:=omega) only [go_sem,Ab,hni,hg,hc,Ao,hi0,if_false,htl]
   refine ⟨i+1,⟨k+1,by omega,hlt⟩,by omega,?_⟩
   simp (disch:=omega) only [go_sem,Ab,hni1,hi1,if_false,hs]
 ·obtain rfl:k=x.parts.length:=by omega
  have ht2:x.parts.take x.parts.length=x.parts:=yV
  rcases zO x.parts.length with h0 | h0
  ·have hx:x.parts=[]:=yN h0
   obtain rfl:i=0:=by omega
   simp (disch:=omega) only [go_sem,Ab,hni,hx,eq_self,if_true,zP,zS]
  ·have hi0:(i=0)=False:=by simp; omega
   simp (disch:=omega) only [go_sem,Ab,hni,hi0,if_false,ht2,hfu,her]
theorem W9 (x:Fm) (ht:x.tame) (hn:x.nodes≤1099511627776):E 67 [x.sv] []=some (x.sv,[]) :=
 Zk x ht hn fun y hy=>W9 y (Fm.JQ ht hy) (by have:=Fm.nodes_mem hy; have:=Fm.nodes_eq x; omega)
termination_by SizeOf.sizeOf x
decreasing_by exact Fm.lt_of_mem hy
theorem LI (xs:List ByteArray) (h:xs.length≤1048576):E 44 [.arr (xs.map fun s=>[D.str s])] []=some (.ref 0,[.row 9 1 (xs.map fun s=>[OT.str s])]):=by
 rw [KP (g:=Mp) (by unfold modes; rfl)]
 unfold Mp
 simp only
 rw [Ar ⟨fun e he=>by obtain ⟨s,_,rfl⟩:=yP.1 he; exact ⟨s,rfl⟩,by simpa using h⟩,cond_true,zN]
 rfl
theorem AF:modes 44=⟨[],.asis,some Mp,false⟩:=by unfold modes; rfl
theorem RY {x:Fm} (h:x.form=true) (ho:x.op=3):E 134 [x.atom.sv] []=some (.ref 0,[.row 9 1 ((C2 [] x.atom.vs).map fun s=>[OT.str s])]):=by
 have ha:=(Fm.CZ h ho).2.1
 have hn:=Tm.KR ha
 have h1:=RQ x.atom (Vn x.atom ha) (by omega)
 have e:x.atom.vars=C2 [] x.atom.vs:=M3 _
 rw [e] at h1
 exact h1
theorem TI (b acc:List ByteArray) (n:ByteArray) (ns:List ByteArray):B7 acc ((n :: ns).filter fun m=>!dec (m∈b))=B7 (bif dec (n∈b) then acc else Gu acc n) (ns.filter fun m=>!dec (m∈b)):=by
 rw [List.filter_cons]
 cases dec (n∈b) with
 | true=>rfl
 | false=>rfl
def F8:SC:=(.seq (.reg [⟨some 4,none,.boxv 29 5 (.t 1)⟩,⟨some 6,none,.mv (.c .nil)⟩]) (.seq (.seq (.reg [⟨some 11,none,.faddr 0 (.t 4)⟩,⟨some 12,none,.load false 1 (.t 11)⟩,⟨some 13,none,.bin .eql false (.t 12) (.c (.int .i64 3))⟩]) (.cond (.t 13) (.seq (.seq (.reg [⟨some 14,none,.faddr 1 (.t 4)⟩,⟨some 15,none,.load true 2 (.t 14)⟩,⟨some 16,none,.call 134 [(.t 15)]⟩,⟨some 17,none,.len false (.t 16)⟩,⟨some 18,none,.mv (.c (.int .i64 0))⟩]) (.block 0 (.loop [1,0,1,0,0,0,0,0,0,0,0,0,0,0,0,0,1,1,1,0,0,0,0,0,0,0,0,0,0,0,0,0,0,0,0,0,0,0,0,0,0,0,0,0,0,0,0,0,0,0,0,0,0,0,0,0,0,0,0,0] (.seq (.reg [⟨some 19,none,.bin .lss false (.t 18) (.t 17)⟩]) (.seq (.cond (.t 19) .skip (.exit 0)) (.seq (.block 1 (.seq (.reg [⟨some 20,none,.iaddr 1 (.t 16) (.t 18)⟩,⟨some 21,none,.load false 1 (.t 20)⟩,⟨some 8,none,.mv (.t 21)⟩]) (.seq (.reg [⟨some 22,none,.mv (.t 2)⟩,⟨some 23,none,.mv (.t 8)⟩,⟨some 24,none,.call 133 [(.t 22),(.t 23)]⟩,⟨some 25,none,.un .not (.t 24)⟩,⟨some 26,none,.mv (.t 25)⟩,⟨(some 27),(some (26,true)),(.mv (.t 0))⟩,⟨(some 28),(some (26,true)),(.mv (.t 8))⟩,⟨(some 29),(some (26,true)),(.call 133 [(.t 27),(.t 28)])⟩,⟨(some 30),(some (26,true)),(.un .not (.t 29))⟩,⟨some 31,none,.pick (.t 26) (.t 30) (.c (.bool false))⟩]) (.cond (.t 31) (.reg [⟨some 32,none,.mv (.t 0)⟩,⟨some 33,none,.mv (.t 8)⟩,⟨(some 34),none,(.mkrow 9 1 [(.str ⟨#[]⟩)] 1 [(0,(.t 33))])⟩,⟨(some 35),none,(.append 9 1 16 [(.str ⟨#[]⟩)] (.t 32) (.t 34))⟩,⟨some 0,none,.mv (.t 35)⟩]) .skip)))) (.reg [⟨some 36,none,.bin .add false (.t 18) (.c (.int .i64 1))⟩,⟨some 18,none,.mv (.t 36)⟩]))))))) (.seq (.reg [⟨some 37,none,.mv (.t 0)⟩,⟨some 6,none,.mv (.t 37)⟩]) .ret)) .skip)) (.seq (.seq (.reg [⟨some 38,none,.faddr 0 (.t 4)⟩,⟨some 39,none,.load false 1 (.t 38)⟩,⟨some 40,none,.call 71 [(.t 39)]⟩]) (.cond (.t 40) (.dreg [[],[0],[],[2],[3,2],[1,0,4,3,2],[5,1,0,4,3,2]] [⟨some 41,none,.mv (.t 2)⟩,⟨some 42,none,.call 44 [(.t 41)]⟩,⟨some 43,none,.faddr 3 (.t 4)⟩,⟨some 44,none,.load false 1 (.t 43)⟩,⟨(some 45),none,(.mkrow 9 1 [(.str ⟨#[]⟩)] 1 [(0,(.t 44))])⟩,⟨(some 46),none,(.append 9 1 16 [(.str ⟨#[]⟩)] (.t 42) (.t 45))⟩,⟨some 2,none,.mv (.t 46)⟩]) .skip)) (.seq (.seq (.reg [⟨some 47,none,.faddr 4 (.t 4)⟩,⟨some 48,none,.load false 1 (.t 47)⟩,⟨some 49,none,.len false (.t 48)⟩,⟨some 50,none,.mv (.c (.int .i64 0))⟩]) (.block 2 (.loop [1,0,1,0,0,0,0,0,0,0,0,0,0,0,0,0,0,0,0,0,0,0,0,0,0,0,0,0,0,0,0,0,0,0,0,0,0,0,0,0,0,0,0,0,0,0,0,0,1,1,1,0,0,0,0,0,0,0,0,0] (.seq (.reg [⟨some 51,none,.bin .lss false (.t 50) (.t 49)⟩]) (.seq (.cond (.t 51) .skip (.exit 2)) (.seq (.block 3 (.seq (.reg [⟨some 52,none,.iaddr 5 (.t 48) (.t 50)⟩,⟨some 53,none,.load true 5 (.t 52)⟩,⟨(some 10),none,(.alloc 29 [(.int .i64 0),(.str ⟨#[]⟩),.nil,(.str ⟨#[]⟩),.nil])⟩,⟨none,none,(.store 5 (.t 10) (.t 53))⟩]) (.reg [⟨some 54,none,.mv (.t 0)⟩,⟨some 55,none,.load true 5 (.t 10)⟩,⟨some 56,none,.mv (.t 2)⟩,⟨some 57,none,.call 86 [(.t 54),(.t 55),(.t 56)]⟩,⟨some 0,none,.mv (.t 57)⟩]))) (.reg [⟨some 58,none,.bin .add false (.t 50) (.c (.int .i64 1))⟩,⟨some 50,none,.mv (.t 58)⟩]))))))) (.seq (.reg [⟨some 59,none,.mv (.t 0)⟩,⟨some 6,none,.mv (.t 59)⟩]) .ret)))))
theorem HJ:At Tryz.prog 86=some ⟨60,F8,[(.tmp 6)]⟩:=by kernel_rfl
theorem CS:modes 86=⟨[true],.asis,none,false⟩:=by unfold modes; rfl
def J1:SC:=(.seq (.reg [⟨some 1,none,.boxv 29 5 (.t 0)⟩,⟨some 2,none,.mv (.c .nil)⟩]) (.seq (.reg [⟨(some 4),none,(.mkrow 9 1 [(.str ⟨#[]⟩)] 0 [])⟩,⟨some 5,none,.load true 5 (.t 1)⟩,⟨some 6,none,.call 86 [(.t 4),(.t 5),(.c .nil)]⟩,⟨some 3,none,.mv (.t 6)⟩]) (.seq (.reg [⟨some 7,none,.mv (.t 3)⟩,⟨some 8,none,.call 82 [(.t 7)]⟩]) (.seq (.reg [⟨some 9,none,.mv (.t 3)⟩,⟨some 2,none,.mv (.t 9)⟩]) .ret))))
theorem Np:At Tryz.prog 45=some ⟨10,J1,[(.tmp 2)]⟩:=by kernel_rfl
theorem CM:modes 45=⟨[],.frz,none,false⟩:=by unfold modes; rfl
abbrev Qb1 (x:Fm):Prop:=∀ l b:List ByteArray,l.length+x.vn≤1048576→b.length+x.nodes≤1048576→E 86 [.ref 0,x.sv,.arr (b.map fun s=>[D.str s])] [.row 9 1 (l.map fun s=>[OT.str s])]=some ((bif dec (l.length<(B7 l (x.fv b)).length) then .ref 1 else .ref 0),(bif dec (l.length<(B7 l (x.fv b)).length) then [.gone,.row 9 1 ((B7 l (x.fv b)).map fun s=>[OT.str s])] else [.row 9 1 ((B7 l (x.fv b)).map fun s=>[OT.str s])]))
theorem X4 (x:Fm) (hx:x.forms=true) (ih:∀ y∈x.parts,Qb1 y):Qb1 x:=by
 intro l b hn hb
 have hfo:=Fm.Bo hx
 have hvn:=Fm.Kq x
 have hnd:=Fm.nodes_eq x
 have hpl:=Fm.length_le x.parts
 have hfv:=Fm.YO x b
 have hat:=Fm.F4 hfo
 have hgl:dec (l.length<l.length)=false:=Aj (by omega)
 have hxs:x.sv=.agg [.int .i64 x.op,.str x.atom.name,.arr (x.atom.args.map Tm.d),.str x.var,.arr (x.parts.map Fm.d)]:=rfl
 have has:x.atom.sv=.agg [.str x.atom.name,.arr (x.atom.args.map Tm.d)]:=rfl
 cases ho:dec (x.op=3) with
 | true =>
  rw [ho] at hfv
  simp only [cond_true] at hfv
  have hv:=RY hfo (Aw.1 ho)
  have hil:=DK x.atom.vs []
  have hvl:=Tm.KU x.atom
  simp only [zS] at hil
  obtain ⟨ns,hns⟩:∃ ns,ns=C2 [] x.atom.vs:=⟨_,rfl⟩
  rw [←hns] at hv hfv hil
  rw [hfv]
  refine Ai HJ CS (of_decide_eq_true rfl) ?_
  simp (disch:=omega) only [F8,go_sem,Ab,ho,hv,Fp]
  refine go_loop (α:=Int × (List ByteArray)) (fun a=>⟨slots 60 0 [(0,(bif dec (l.length<(a.2).length) then .ref 1 else .ref 0)),(2,.arr (b.map fun s=>[D.str s])),(16,(bif dec (l.length<(a.2).length) then .ref 2 else .ref 1)),(17,.int .i64 ns.length),(18,.int .i64 (a.1))],(bif dec (l.length<(a.2).length) then [.gone,.row 9 1 ((a.2).map fun s=>[OT.str s]),.row 9 1 (ns.map fun s=>[OT.str s])] else [.row 9 1 ((a.2).map fun s=>[OT.str s]),.row 9 1 (ns.map fun s=>[OT.str s])])⟩) (fun a=>∃ k:Nat,a.1=k∧k≤(ns).length∧B7 (a.2) ((ns.drop k).filter fun m=>!dec (m∈b))=B7 l (ns.filter fun m=>!dec (m∈b))∧(a.2).length+(ns.length-k)≤1048576∧l.length≤(a.2).length) (fun a=>(ns).length-(a.1).toNat) (0,l) ⟨0,rfl,zK _,by rw [zI],by dsimp only; omega,yC _⟩ (by simp (disch:=omega) only [go_sem,Ab,hgl]) ?_
  rintro ⟨i,acc⟩ ⟨k,hi,hk,hR⟩
  dsimp only at hi hR
  have hni:i.toNat=k:=by omega
  have hni1:(i+1).toNat=k+1:=by omega
  rcases zC k (ns).length with hlt | hge
  ·have hg:(ns.map fun s=>[OT.str s])[k]?=some [OT.str ns[k]]:=by rw [List.getElem?_map,z8 hlt]; rfl
   obtain ⟨hR1,hR2,hR3⟩:=hR
   rw [zB hlt,TI] at hR1
   have c1:=FO b ns[k] (by omega)
   have c2:=FO acc ns[k] (by omega)
   rcases zC l.length acc.length with q1 | q1
   all_goals
    cases hq:dec (ns[k]∈b) with
    | true =>
     rw [hq] at c1 hR1
     simp only [cond_true] at hR1
     simp (disch:=omega) only [go_sem,Ab,hni,hg,c1,c2,A6]
     refine ⟨(i+1,acc),⟨k+1,by dsimp only; omega,hlt,hR1,by dsimp only; omega,by dsimp only; omega⟩,by dsimp only; omega,?_⟩
     first | done | simp (disch:=omega) only [go_sem,Ab]
    | false =>
     rw [hq] at c1 hR1
     simp only [cond_false] at hR1
     cases hm:dec (ns[k]∈acc) with
     | true =>
      have e2:Gu acc ns[k]=acc:=by unfold Gu; rw [hm]; rfl
      rw [hm] at c2
      rw [e2] at hR1
      simp (disch:=omega) only [go_sem,Ab,hni,hg,c1,c2,A6]
      refine ⟨(i+1,acc),⟨k+1,by dsimp only; omega,hlt,hR1,by dsimp only; omega,by dsimp only; omega⟩,by dsimp only; omega,?_⟩
      first | done | simp (disch:=omega) only [go_sem,Ab]
     | false =>
      have e2:Gu acc ns[k]=acc++[ns[k]]:=by unfold Gu; rw [hm]; rfl
      have hl1:(acc.map fun s=>[OT.str s])++[[OT.str ns[k]]]=(acc++[ns[k]]).map fun s=>[OT.str s]:=by simp
      have q2:dec (l.length<(acc++[ns[k]]).length)=true:=Ar (by simp; omega)
      rw [hm] at c2
      rw [e2] at hR1
      simp (disch:=omega) only [go_sem,Ab,hni,hg,c1,c2,hl1,A6]
      refine ⟨(i+1,acc++[ns[k]]),⟨k+1,by dsimp only; omega,hlt,hR1,by simp; omega,by simp; omega⟩,by dsimp only; omega,?_⟩
      first | done | simp (disch:=omega) only [go_sem,Ab,q2,hl1]
  ·rw [zE hge] at hR
   obtain ⟨hR1,hR2,hR3⟩:=hR
   have hR1:acc=_:=hR1
   rw [←hR1]
   rcases zC l.length acc.length with q1 | q1
   ·simp (disch:=omega) only [go_sem,Ab,hni]
   ·simp (disch:=omega) only [go_sem,Ab,hni]
 | false =>
  rw [ho] at hfv
  simp only [cond_false] at hfv
  have hu:=Cs x.op
  cases hq:qB x.op with
  | false =>
   rw [hq] at hfv
   simp only [cond_false] at hfv
   rw [hfv]
   unfold qB at hq
   rw [hq] at hu
   obtain ⟨b',hb'⟩:∃ b',b'=b:=⟨_,rfl⟩
   have hbl:b'.length≤b.length+1:=by rw [hb']; omega
   rw [←hb']
   refine Ai HJ CS (of_decide_eq_true rfl) ?_
   simp (disch:=omega) only [F8,go_sem,Ab,ho,hu,Ac]
   refine go_loop (α:=Int × (List ByteArray)) (fun a=>⟨slots 60 0 [(0,(bif dec (l.length<(a.2).length) then .ref 1 else .ref 0)),(2,.arr (b'.map fun s=>[D.str s])),(48,.arr (x.parts.map Fm.d)),(49,.int .i64 x.parts.length),(50,.int .i64 (a.1))],(bif dec (l.length<(a.2).length) then [.gone,.row 9 1 ((a.2).map fun s=>[OT.str s])] else [.row 9 1 ((a.2).map fun s=>[OT.str s])])⟩) (fun a=>∃ k:Nat,a.1=k∧k≤(x.parts).length∧B7 (a.2) (Fm.fvL (x.parts.drop k) b')=B7 l (Fm.fvL x.parts b')∧(a.2).length+Fm.vnS (x.parts.drop k)≤1048576∧l.length≤(a.2).length) (fun a=>(x.parts).length-(a.1).toNat) (0,l) ⟨0,rfl,zK _,by rw [zI],by rw [zI]; dsimp only; omega,yC _⟩ (by simp (disch:=omega) only [go_sem,Ab,hgl]) ?_
   rintro ⟨i,acc⟩ ⟨k,hi,hk,hR⟩
   dsimp only at hi hR
   have hni:i.toNat=k:=by omega
   have hni1:(i+1).toNat=k+1:=by omega
   rcases zC k (x.parts).length with hlt | hge
   ·have hg:=get_at Fm.d hlt
    rw [Fm.d_eq] at hg
    obtain ⟨hR1,hR2,hR3⟩:=hR
    rw [zB hlt,Fm.fvL,GM] at hR1
    rw [zB hlt,Fm.vnS] at hR2
    have hnm:=Fm.nodes_le x.parts k hlt
    have hc:=ih x.parts[k] (zD hlt) acc b' (by omega) (by omega)
    have hlen:=DI (x.parts[k].fv b') acc
    have hgr:=E6 (x.parts[k].fv b') acc
    have hvl:=Fm.HG x.parts[k] b'
    obtain ⟨acc2,ha2⟩:∃ a,a=B7 acc (x.parts[k].fv b'):=⟨_,rfl⟩
    rw [←ha2] at hc hlen hgr hR1
    rcases zC l.length acc.length with q1 | q1 <;> rcases zC acc.length acc2.length with q2 | q2
    all_goals
     first
      |rw [Ar q2] at hc
      |rw [Aj (zY.2 q2)] at hc
     simp only [cond_true,cond_false] at hc
     simp (disch:=omega) only [go_sem,Ab,hni,hg,hc,CS]
     refine ⟨(i+1,acc2),⟨k+1,by dsimp only; omega,hlt,hR1,by dsimp only; omega,by dsimp only; omega⟩,by dsimp only; omega,?_⟩
     first | done | simp (disch:=omega) only [go_sem,Ab]
   ·rw [zE hge,Fm.fvL] at hR
    obtain ⟨hR1,hR2,hR3⟩:=hR
    have hR1:acc=_:=hR1
    rw [←hR1]
    rcases zC l.length acc.length with q1 | q1
    ·simp (disch:=omega) only [go_sem,Ab,hni]
    ·simp (disch:=omega) only [go_sem,Ab,hni]
  | true =>
   rw [hq] at hfv
   simp only [cond_true] at hfv
   rw [hfv]
   unfold qB at hq
   rw [hq] at hu
   have hcl:=LI b (by omega)
   have hl1:(b.map fun s=>[OT.str s])++[[OT.str x.var]]=(b++[x.var]).map fun s=>[OT.str s]:=by simp
   obtain ⟨b',hb'⟩:∃ b',b'=b++[x.var]:=⟨_,rfl⟩
   have hbl:b'.length≤b.length+1:=by rw [hb']; simp
   rw [←hb'] at hl1
   rw [←hb']
   refine Ai HJ CS (of_decide_eq_true rfl) ?_
   simp (disch:=omega) only [F8,go_sem,Ab,ho,hu,hcl,hl1,Ac,AF]
   refine go_loop (α:=Int × (List ByteArray)) (fun a=>⟨slots 60 0 [(0,(bif dec (l.length<(a.2).length) then .ref 1 else .ref 0)),(2,(bif dec (l.length<(a.2).length) then .ref 2 else .ref 1)),(48,.arr (x.parts.map Fm.d)),(49,.int .i64 x.parts.length),(50,.int .i64 (a.1))],(bif dec (l.length<(a.2).length) then [.gone,.row 9 1 ((a.2).map fun s=>[OT.str s]),.row 9 1 (b'.map fun s=>[OT.str s])] else [.row 9 1 ((a.2).map fun s=>[OT.str s]),.row 9 1 (b'.map fun s=>[OT.str s])])⟩) (fun a=>∃ k:Nat,a.1=k∧k≤(x.parts).length∧B7 (a.2) (Fm.fvL (x.parts.drop k) b')=B7 l (Fm.fvL x.parts b')∧(a.2).length+Fm.vnS (x.parts.drop k)≤1048576∧l.length≤(a.2).length) (fun a=>(x.parts).length-(a.1).toNat) (0,l) ⟨0,rfl,zK _,by rw [zI],by rw [zI]; dsimp only; omega,yC _⟩ (by simp (disch:=omega) only [go_sem,Ab,hgl]) ?_
   rintro ⟨i,acc⟩ ⟨k,hi,hk,hR⟩
   dsimp only at hi hR
   have hni:i.toNat=k:=by omega
   have hni1:(i+1).toNat=k+1:=by omega
   rcases zC k (x.parts).length with hlt | hge
   ·have hg:=get_at Fm.d hlt
    rw [Fm.d_eq] at hg
    obtain ⟨hR1,hR2,hR3⟩:=hR
    rw [zB hlt,Fm.fvL,GM] at hR1
    rw [zB hlt,Fm.vnS] at hR2
    have hnm:=Fm.nodes_le x.parts k hlt
    have hc:=ih x.parts[k] (zD hlt) acc b' (by omega) (by omega)
    have hlen:=DI (x.parts[k].fv b') acc
    have hgr:=E6 (x.parts[k].fv b') acc
    have hvl:=Fm.HG x.parts[k] b'
    obtain ⟨acc2,ha2⟩:∃ a,a=B7 acc (x.parts[k].fv b'):=⟨_,rfl⟩
    rw [←ha2] at hc hlen hgr hR1
    rcases zC l.length acc.length with q1 | q1 <;> rcases zC acc.length acc2.length with q2 | q2
    all_goals
     first
      |rw [Ar q2] at hc
      |rw [Aj (zY.2 q2)] at hc
     simp only [cond_true,cond_false] at hc
     simp (disch:=omega) only [go_sem,Ab,hni,hg,hc,CS]
     refine ⟨(i+1,acc2),⟨k+1,by dsimp only; omega,hlt,hR1,by dsimp only; omega,by dsimp only; omega⟩,by dsimp only; omega,?_⟩
     first | done | simp (disch:=omega) only [go_sem,Ab]
   ·rw [zE hge,Fm.fvL] at hR
    obtain ⟨hR1,hR2,hR3⟩:=hR
    have hR1:acc=_:=hR1
    rw [←hR1]
    rcases zC l.length acc.length with q1 | q1
    ·simp (disch:=omega) only [go_sem,Ab,hni]
    ·simp (disch:=omega) only [go_sem,Ab,hni]
theorem TJ (x:Fm) (hx:x.forms=true):Qb1 x :=
 X4 x hx fun y hy=>TJ y (Fm.AQ hx hy)
termination_by SizeOf.sizeOf x
decreasing_by exact Fm.lt_of_mem hy
theorem Zl (x:Fm) (hx:x.forms=true) (hv:x.vn≤1048576) (hn:x.nodes≤1048576):E 45 [x.sv] []=some (.arr (x.free.map fun s=>[D.str s]),[]):=by
 have h1:=TJ x hx [] [] (by simpa using hv) (by simpa using hn)
 have hl:=DI (x.fv []) []
 have hfl:=Fm.HG x []
 rw [zS,yX] at hl
 have h2:=RP (B7 [] (x.fv [])) (by omega)
 rw [M3] at h2
 rw [zP,zP,zS] at h1
 unfold Fm.free
 have hxs:x.sv=.agg [.int .i64 x.op,.str x.atom.name,.arr (x.atom.args.map Tm.d),.str x.var,.arr (x.parts.map Fm.d)]:=rfl
 rcases zC 0 (B7 [] (x.fv [])).length with q | q
 ·rw [Ar q] at h1
  simp only [cond_true] at h1
  refine Ai Np CM (of_decide_eq_true rfl) ?_
  simp (disch:=omega) only [J1,go_sem,Ab,h1,h2,CS,Br,C4,NJ,OT.erss,OT.AA]
 ·rw [Aj (by omega)] at h1
  simp only [cond_false] at h1
  refine Ai Np CM (of_decide_eq_true rfl) ?_
  simp (disch:=omega) only [J1,go_sem,Ab,h1,h2,CS,Br,C4,NJ,OT.erss,OT.AA]
def Nq:SC:=(.seq (.reg [⟨some 4,none,.mv (.c (.bool false))⟩]) (.seq (.seq (.reg [⟨some 5,none,.mv (.c (.int .i64 0))⟩]) (.block 0 (.loop [1,1,0,0,0,1,0,0,0,0,0,0,0,0,0,0,0,0] (.seq (.seq (.reg [⟨some 6,none,.mv (.t 5)⟩,⟨some 7,none,.mv (.t 0)⟩,⟨some 8,none,.len false (.t 7)⟩,⟨some 9,none,.bin .lss false (.t 6) (.t 8)⟩]) (.cond (.t 9) .skip (.exit 0))) (.seq (.block 1 (.seq (.reg [⟨some 12,none,.mv (.t 0)⟩,⟨some 13,none,.mv (.t 5)⟩,⟨some 14,none,.iaddr 1 (.t 12) (.t 13)⟩,⟨some 15,none,.load false 1 (.t 14)⟩,⟨some 16,none,.mv (.t 1)⟩,⟨some 17,none,.bin .eql false (.t 15) (.t 16)⟩]) (.cond (.t 17) (.seq (.reg [⟨some 4,none,.mv (.c (.bool true))⟩]) .ret) .skip))) (.reg [⟨some 10,none,.mv (.t 5)⟩,⟨some 11,none,.bin .add false (.t 10) (.c (.int .i64 1))⟩,⟨some 5,none,.mv (.t 11)⟩])))))) (.seq (.reg [⟨some 4,none,.mv (.c (.bool false))⟩]) .ret)))
theorem TK:At Tryz.prog 95=some ⟨18,Nq,[(.tmp 4)]⟩:=by kernel_rfl
theorem DM:modes 95=⟨[],.asis,none,false⟩:=by unfold modes; rfl
theorem Vz (xs:List ByteArray) (n:ByteArray) (hl:xs.length≤1099511627776):E 95 [.arr (xs.map fun s=>[D.str s]),.str n] []=some (.bool (dec (n∈xs)),[]):=by
 refine Ai TK DM (of_decide_eq_true rfl) ?_
 simp (disch:=omega) only [Nq,go_sem,Ab]
 refine go_loop (α:=Int) (fun a=>⟨slots 18 0 [(0,.arr (xs.map fun s=>[D.str s])),(1,.str n),(5,.int .i64 a)],[]⟩) (fun a=>∃ k:Nat,a=k∧k≤(xs).length∧dec (n∈xs.drop k)=dec (n∈xs)) (fun a=>(xs).length-(a).toNat) 0 ⟨0,rfl,zK _,by rw [zI]⟩ (by simp (disch:=omega) only [go_sem,Ab]) ?_
 rintro i ⟨k,hi,hk,hR⟩
 have hni:i.toNat=k:=by omega
 have hni1:(i+1).toNat=k+1:=by omega
 rcases zC k (xs).length with hlt | hge
 ·have hg:=get_at (fun s=>[D.str s]) hlt
  rw [zB hlt] at hR
  by_cases hp:xs[k]=n
  ·have hq:=eq_true hp
   have ht:dec (n∈xs)=true:=Ar (hp▸zD hlt)
   simp (disch:=omega) only [go_sem,Ab,hni,hg,hq]
   exact ht.symm
  ·have hq:=eq_false hp
   have hR:dec (n∈xs.drop (k+1))=dec (n∈xs):=by
    rw [←hR]
    exact Qbq (by simp only [y0]; exact ⟨.inr,fun h=>h.elim (fun e=>absurd e.symm hp) id⟩)
   simp (disch:=omega) only [go_sem,Ab,hni,hg,hq]
   exact ⟨i+1,⟨k+1,by omega,hlt,hR⟩,by omega,by first | trivial | rfl⟩
 ·rw [zE hge,Aj (by simp)] at hR
  simp (disch:=omega) only [go_sem,Ab,hni]
  exact hR
def F9:SC:=(.seq (.reg [⟨some 4,none,.boxv 29 5 (.t 1)⟩,⟨some 6,none,.mv (.c .nil)⟩]) (.seq (.seq (.reg [⟨some 10,none,.faddr 0 (.t 4)⟩,⟨some 11,none,.load false 1 (.t 10)⟩,⟨some 12,none,.bin .eql false (.t 11) (.c (.int .i64 3))⟩]) (.cond (.t 12) (.seq (.reg [⟨some 13,none,.faddr 1 (.t 4)⟩,⟨some 14,none,.load true 2 (.t 13)⟩,⟨some 15,none,.call 179 [(.t 14)]⟩,⟨some 7,none,.mv (.t 15)⟩]) (.seq (.reg [⟨some 8,none,.mv (.c (.int .i64 0))⟩]) (.block 0 (.loop [1,0,1,0,1,0,0,1,1,0,0,0,0,0,0,0,0,0,0,0,0,0,0,0,0,0,0,0,0,0,0,0,0,0,0,0,0,0,0,0,0,0,0,0,0,0,0,0,0,0,0,0,0,0,0,0,0,0,0,0,0,0,0,0,0,0] (.seq (.seq (.reg [⟨some 16,none,.mv (.t 8)⟩,⟨some 17,none,.mv (.t 7)⟩,⟨some 18,none,.len false (.t 17)⟩,⟨some 19,none,.bin .lss false (.t 16) (.t 18)⟩]) (.cond (.t 19) .skip (.exit 0))) (.seq (.block 1 (.seq (.reg [⟨some 22,none,.mv (.t 2)⟩,⟨some 23,none,.mv (.t 7)⟩,⟨some 24,none,.mv (.t 8)⟩,⟨some 25,none,.iaddr 1 (.t 23) (.t 24)⟩,⟨some 26,none,.load false 1 (.t 25)⟩,⟨some 27,none,.call 95 [(.t 22),(.t 26)]⟩,⟨some 28,none,.un .not (.t 27)⟩]) (.cond (.t 28) (.reg [⟨some 29,none,.mv (.t 0)⟩,⟨some 30,none,.mv (.t 7)⟩,⟨some 31,none,.mv (.t 8)⟩,⟨some 32,none,.iaddr 1 (.t 30) (.t 31)⟩,⟨some 33,none,.load false 1 (.t 32)⟩,⟨some 34,none,.call 180 [(.t 29),(.t 33)]⟩,⟨some 0,none,.mv (.t 34)⟩]) .skip))) (.reg [⟨some 20,none,.mv (.t 8)⟩,⟨some 21,none,.bin .add false (.t 20) (.c (.int .i64 1))⟩,⟨some 8,none,.mv (.t 21)⟩]))))))) .skip)) (.seq (.seq (.reg [⟨some 35,none,.faddr 0 (.t 4)⟩,⟨some 36,none,.load false 1 (.t 35)⟩,⟨some 37,none,.bin .eql false (.t 36) (.c (.int .i64 8))⟩,⟨some 38,none,.mv (.t 37)⟩,⟨(some 39),(some (38,false)),(.faddr 0 (.t 4))⟩,⟨(some 40),(some (38,false)),(.load false 1 (.t 39))⟩,⟨(some 41),(some (38,false)),(.bin .eql false (.t 40) (.c (.int .i64 9)))⟩,⟨some 42,none,.pick (.t 38) (.c (.bool true)) (.t 41)⟩]) (.cond (.t 42) (.dreg [[],[],[0,1],[],[3],[4,3],[2,0,1,5,4,3],[6,2,0,1,5,4,3]] [⟨(some 43),none,(.mkrow 9 1 [(.str ⟨#[]⟩)] 0 [])⟩,⟨some 44,none,.mv (.t 2)⟩,⟨(some 45),none,(.append 9 1 16 [(.str ⟨#[]⟩)] (.t 43) (.t 44))⟩,⟨some 46,none,.faddr 3 (.t 4)⟩,⟨some 47,none,.load false 1 (.t 46)⟩,⟨(some 48),none,(.mkrow 9 1 [(.str ⟨#[]⟩)] 1 [(0,(.t 47))])⟩,⟨(some 49),none,(.append 9 1 16 [(.str ⟨#[]⟩)] (.t 45) (.t 48))⟩,⟨some 2,none,.mv (.t 49)⟩]) .skip)) (.seq (.seq (.reg [⟨some 9,none,.mv (.c (.int .i64 0))⟩]) (.block 2 (.loop [1,0,1,0,1,0,0,0,0,1,0,0,0,0,0,0,0,0,0,0,0,0,0,0,0,0,0,0,0,0,0,0,0,0,0,0,0,0,0,0,0,0,0,0,0,0,0,0,0,0,0,0,0,0,0,0,0,0,0,0,0,0,0,0,0,0] (.seq (.seq (.reg [⟨some 50,none,.mv (.t 9)⟩,⟨some 51,none,.faddr 4 (.t 4)⟩,⟨some 52,none,.load false 1 (.t 51)⟩,⟨some 53,none,.len false (.t 52)⟩,⟨some 54,none,.bin .lss false (.t 50) (.t 53)⟩]) (.cond (.t 54) .skip (.exit 2))) (.seq (.block 3 (.reg [⟨some 57,none,.mv (.t 0)⟩,⟨some 58,none,.faddr 4 (.t 4)⟩,⟨some 59,none,.load false 1 (.t 58)⟩,⟨some 60,none,.mv (.t 9)⟩,⟨some 61,none,.iaddr 5 (.t 59) (.t 60)⟩,⟨some 62,none,.load true 5 (.t 61)⟩,⟨some 63,none,.mv (.t 2)⟩,⟨some 64,none,.call 129 [(.t 57),(.t 62),(.t 63)]⟩,⟨some 0,none,.mv (.t 64)⟩])) (.reg [⟨some 55,none,.mv (.t 9)⟩,⟨some 56,none,.bin .add false (.t 55) (.c (.int .i64 1))⟩,⟨some 9,none,.mv (.t 56)⟩])))))) (.seq (.reg [⟨some 65,none,.mv (.t 0)⟩,⟨some 6,none,.mv (.t 65)⟩]) .ret)))))
theorem HK:At Tryz.prog 129=some ⟨66,F9,[(.tmp 6)]⟩:=by kernel_rfl
theorem CT:modes 129=⟨[true],.asis,none,false⟩:=by unfold modes; rfl
def HL:SC:=(.seq (.reg [⟨some 1,none,.boxv 29 5 (.t 0)⟩,⟨some 2,none,.mv (.c .nil)⟩]) (.seq (.reg [⟨(some 3),none,(.mkrow 9 1 [(.str ⟨#[]⟩)] 0 [])⟩,⟨some 4,none,.load true 5 (.t 1)⟩,⟨(some 5),none,(.mkrow 9 1 [(.str ⟨#[]⟩)] 0 [])⟩,⟨some 6,none,.call 129 [(.t 3),(.t 4),(.t 5)]⟩,⟨some 2,none,.mv (.t 6)⟩]) .ret))
theorem Kx:At Tryz.prog 80=some ⟨7,HL,[(.tmp 2)]⟩:=by kernel_rfl
theorem D2:modes 80=⟨[],.asis,none,false⟩:=by unfold modes; rfl
theorem TL (b acc:List ByteArray) (n:ByteArray) (ns:List ByteArray):C2 acc ((n :: ns).filter fun m=>!dec (m∈b))=C2 (bif dec (n∈b) then acc else CQ acc n) (ns.filter fun m=>!dec (m∈b)):=by
 rw [List.filter_cons]
 cases dec (n∈b) with
 | true=>rfl
 | false=>rfl
abbrev Qb2 (x:Fm):Prop:=∀ l b:List ByteArray,l.length+x.vn≤1048576→b.length+x.nodes≤1048576→E 129 [.ref 0,x.sv,.arr (b.map fun s=>[D.str s])] [.row 9 1 (l.map fun s=>[OT.str s])]=some ((bif dec (l.length<(C2 l (x.fv b)).length) then .ref 1 else .ref 0),(bif dec (l.length<(C2 l (x.fv b)).length) then [.gone,.row 9 1 ((C2 l (x.fv b)).map fun s=>[OT.str s])] else [.row 9 1 ((C2 l (x.fv b)).map fun s=>[OT.str s])]))
theorem X5 (x:Fm) (hx:x.forms=true) (ih:∀ y∈x.parts,Qb2 y):Qb2 x:=by
  intro l b hn hb
  have hfo:=Fm.Bo hx
  have hvn:=Fm.Kq x
  have hnd:=Fm.nodes_eq x
  have hpl:=Fm.length_le x.parts
  have hfv:=Fm.YO x b
  have hat:=Fm.F4 hfo
  have hgl:dec (l.length < l.length)=false:=Aj (by omega)
  have hxs:x.sv=.agg [.int .i64 x.op,.str x.atom.name,.arr (x.atom.args.map Tm.d),.str x.var,.arr (x.parts.map Fm.d)]:=rfl
  have has:x.atom.sv=.agg [.str x.atom.name,.arr (x.atom.args.map Tm.d)]:=rfl
  cases ho:dec (x.op=3) with
  | true =>
    rw [ho] at hfv
    simp only [cond_true] at hfv
    have ho3:=Aw.1 ho
    have hp0:=(Fm.CZ hfo ho3).1
    have o8:dec (x.op=8)=false:=Aj (by omega)
    have o9:dec (x.op=9)=false:=Aj (by omega)
    have hv:=YL x.atom (by omega)
    have hil:=DK x.atom.vs []
    have hvl:=Tm.KU x.atom
    simp only [zS] at hil
    obtain ⟨ns,hns⟩:∃ ns,ns=C2 [] x.atom.vs:=⟨_,rfl⟩
    rw [←hns] at hv hfv hil
    rw [hfv]
    refine Ai HK CT (of_decide_eq_true rfl) ?_
    simp (disch:=omega) only [F9,go_sem,Ab,ho,hv,HF]
    refine go_loop (α:=Int × (List ByteArray)) (fun a=>⟨slots 66 0 [(0,(bif dec (l.length < (a.2).length) then .ref 1 else .ref 0)),(2,.arr (b.map fun s=>[D.str s])),(4,(bif dec (l.length < (a.2).length) then .ptr 2 0 else .ptr 1 0)),(7,.arr (ns.map fun s=>[D.str s])),(8,.int .i64 (a.1))],(bif dec (l.length < (a.2).length) then [.gone,.row 9 1 ((a.2).map fun s=>[OT.str s]),.box 29 [.int .i64 x.op,.str x.atom.name,.arr (x.atom.args.map Tm.d),.str x.var,.arr (x.parts.map Fm.d)]] else [.row 9 1 ((a.2).map fun s=>[OT.str s]),.box 29 [.int .i64 x.op,.str x.atom.name,.arr (x.atom.args.map Tm.d),.str x.var,.arr (x.parts.map Fm.d)]])⟩) (fun a=>∃ k:Nat,a.1=k∧k≤(ns).length∧C2 (a.2) ((ns.drop k).filter fun m=>!dec (m∈b))=C2 l (ns.filter fun m=>!dec (m∈b))∧(a.2).length+(ns.length - k)≤1048576∧l.length≤(a.2).length) (fun a=>(ns).length - (a.1).toNat) (0,l) ⟨0,rfl,zK _,by rw [zI],by dsimp only; omega,yC _⟩ (by simp (disch:=omega) only [go_sem,Ab,hgl]) ?_
    rintro ⟨i,acc⟩ ⟨k,hi,hk,hR⟩
    dsimp only at hi hR
    have hni:i.toNat=k:=by omega
    have hni1:(i+1).toNat=k+1:=by omega
    rcases zC k (ns).length with hlt | hge
    · have hg:=get_at (fun s=>[D.str s]) hlt
      obtain ⟨hR1,hR2,hR3⟩:=hR
      rw [zB hlt,TL] at hR1
      have c1:=Vz b ns[k] (by omega)
      cases hq:dec (ns[k]∈b) with
      | true =>
        rw [hq] at c1 hR1
        simp only [cond_true] at hR1
        rcases zC l.length acc.length with q1 | q1
        all_goals
          first
            | have d1:=Ar q1
            | have d1:=Aj (zY.2 q1)
          simp (disch:=omega) only [go_sem,Ab,hni,hg,c1,d1,DM]
          refine ⟨(i+1,acc),⟨k+1,by dsimp only; omega,hlt,hR1,by dsimp only; omega,by dsimp only; omega⟩,by dsimp only; omega,?_⟩
          first | done | simp (disch:=omega) only [go_sem,Ab,d1]
      | false =>
        rw [hq] at c1 hR1
        simp only [cond_false] at hR1
        have c2:=Tv acc ns[k] (by omega)
        have hul:=OU acc ns[k]
        have hug:=QG acc ns[k]
        obtain ⟨acc2,ha2⟩:∃ a,a=CQ acc ns[k]:=⟨_,rfl⟩
        rw [←ha2] at c2 hul hug hR1
        rcases zC l.length acc.length with q1 | q1 <;> rcases zC acc.length acc2.length with q2 | q2
        all_goals
          first
            | rw [Ar q2] at c2
            | rw [Aj (zY.2 q2)] at c2
          simp only [cond_true,cond_false] at c2
          first
            | have d1:=Ar q1
            | have d1:=Aj (zY.2 q1)
          first
            | have d2:dec (l.length < acc2.length)=true:=Ar (by omega)
            | have d2:dec (l.length < acc2.length)=false:=Aj (by omega)
          simp (disch:=omega) only [go_sem,Ab,hni,hg,c1,c2,d1,DM,Dm]
          refine ⟨(i+1,acc2),⟨k+1,by dsimp only; omega,hlt,hR1,by dsimp only; omega,by dsimp only; omega⟩,by dsimp only; omega,?_⟩
          first
            | done
            | (simp (disch:=omega) only [go_sem,Ab,d2]; done)
            | (have e2:acc2=acc:=by rw [ha2]; exact QH (by rw [←ha2]; exact q2)
               simp (disch:=omega) only [go_sem,Ab,d2]
               rw [e2])
    · rw [zE hge] at hR
      obtain ⟨hR1,hR2,hR3⟩:=hR
      have hR1:acc=_:=hR1
      rw [←hR1]
      rcases zC l.length acc.length with q1 | q1
      all_goals
        first
          | have d1:=Ar q1
          | have d1:=Aj (zY.2 q1)
        simp (disch:=omega) only [go_sem,Ab,hni,d1,o8,o9]
        clear hi hni hni1 hk hge
        refine go_loop (α:=Int) (fun a=>⟨slots 66 0 [(0,(bif dec (l.length < acc.length) then .ref 1 else .ref 0)),(2,.arr (b.map fun s=>[D.str s])),(4,(bif dec (l.length < acc.length) then .ptr 2 0 else .ptr 1 0)),(9,.int .i64 a)],(bif dec (l.length < acc.length) then [.gone,.row 9 1 (acc.map fun s=>[OT.str s]),.box 29 [.int .i64 x.op,.str x.atom.name,.arr (x.atom.args.map Tm.d),.str x.var,.arr (x.parts.map Fm.d)]] else [.row 9 1 (acc.map fun s=>[OT.str s]),.box 29 [.int .i64 x.op,.str x.atom.name,.arr (x.atom.args.map Tm.d),.str x.var,.arr (x.parts.map Fm.d)]])⟩) (fun a=>∃ k:Nat,a=k∧k≤(x.parts).length) (fun a=>(x.parts).length - (a).toNat) 0 ⟨0,rfl,zK _⟩ (by simp (disch:=omega) only [go_sem,Ab,d1]) ?_
        rintro i ⟨k,hi,hk⟩
        have hni:i.toNat=k:=by omega
        have hni1:(i+1).toNat=k+1:=by omega
        rcases zC k (x.parts).length with hlt | hge
        · rw [hp0] at hlt
          simp at hlt
        · simp (disch:=omega) only [go_sem,Ab,hni,d1]
  | false =>
    rw [ho] at hfv
    simp only [cond_false] at hfv
    cases o8:dec (x.op=8) <;> cases o9:dec (x.op=9)
    all_goals
      have hq:qB x.op=(dec (x.op=8) || dec (x.op=9)):=rfl
      rw [o8,o9] at hq
      simp only [Bool.or_self,Bool.or_true,yL,Bool.true_or,Bool.false_or] at hq
      rw [hq] at hfv
      simp only [cond_true,cond_false] at hfv
      rw [hfv]
    · obtain ⟨b',hb'⟩:∃ b',b'=b:=⟨_,rfl⟩
      have hbl:b'.length≤b.length+1:=by rw [hb']; omega
      rw [←hb']
      refine Ai HK CT (of_decide_eq_true rfl) ?_
      simp (disch:=omega) only [F9,go_sem,Ab,ho,o8,o9]
      refine go_loop (α:=Int × (List ByteArray)) (fun a=>⟨slots 66 0 [(0,(bif dec (l.length < (a.2).length) then .ref 1 else .ref 0)),(2,.arr (b'.map fun s=>[D.str s])),(4,(bif dec (l.length < (a.2).length) then .ptr 2 0 else .ptr 1 0)),(9,.int .i64 (a.1))],(bif dec (l.length < (a.2).length) then [.gone,.row 9 1 ((a.2).map fun s=>[OT.str s]),.box 29 [.int .i64 x.op,.str x.atom.name,.arr (x.atom.args.map Tm.d),.str x.var,.arr (x.parts.map Fm.d)]] else [.row 9 1 ((a.2).map fun s=>[OT.str s]),.box 29 [.int .i64 x.op,.str x.atom.name,.arr (x.atom.args.map Tm.d),.str x.var,.arr (x.parts.map Fm.d)]])⟩) (fun a=>∃ k:Nat,a.1=k∧k≤(x.parts).length∧C2 (a.2) (Fm.fvL (x.parts.drop k) b')=C2 l (Fm.fvL x.parts b')∧(a.2).length+Fm.vnS (x.parts.drop k)≤1048576∧l.length≤(a.2).length) (fun a=>(x.parts).length - (a.1).toNat) (0,l) ⟨0,rfl,zK _,by rw [zI],by rw [zI]; dsimp only; omega,yC _⟩ (by simp (disch:=omega) only [go_sem,Ab,hgl]) ?_
      rintro ⟨i,acc⟩ ⟨k,hi,hk,hR⟩
      dsimp only at hi hR
      have hni:i.toNat=k:=by omega
      have hni1:(i+1).toNat=k+1:=by omega
      rcases zC k (x.parts).length with hlt | hge
      · have hg:=get_at Fm.d hlt
        rw [Fm.d_eq] at hg
        obtain ⟨hR1,hR2,hR3⟩:=hR
        rw [zB hlt,Fm.fvL,OV] at hR1
        rw [zB hlt,Fm.vnS] at hR2
        have hnm:=Fm.nodes_le x.parts k hlt
        have hc:=ih x.parts[k] (zD hlt) acc b' (by omega) (by omega)
        have hlen:=DK (x.parts[k].fv b') acc
        have hgr:=JS (x.parts[k].fv b') acc
        have hvl:=Fm.HG x.parts[k] b'
        obtain ⟨acc2,ha2⟩:∃ a,a=C2 acc (x.parts[k].fv b'):=⟨_,rfl⟩
        rw [←ha2] at hc hlen hgr hR1
        rcases zC l.length acc.length with q1 | q1 <;> rcases zC acc.length acc2.length with q2 | q2
        all_goals
          first
            | rw [Ar q2] at hc
            | rw [Aj (zY.2 q2)] at hc
          simp only [cond_true,cond_false] at hc
          first
            | have d1:=Ar q1
            | have d1:=Aj (zY.2 q1)
          first
            | have d2:dec (l.length < acc2.length)=true:=Ar (by omega)
            | have d2:dec (l.length < acc2.length)=false:=Aj (by omega)
          simp (disch:=omega) only [go_sem,Ab,hni,hg,hc,d1,C4,CT]
          refine ⟨(i+1,acc2),⟨k+1,by dsimp only; omega,hlt,hR1,by dsimp only; omega,by dsimp only; omega⟩,by dsimp only; omega,?_⟩
          first | done | simp (disch:=omega) only [go_sem,Ab,d2]
      · rw [zE hge,Fm.fvL] at hR
        obtain ⟨hR1,hR2,hR3⟩:=hR
        have hR1:acc=_:=hR1
        rw [←hR1]
        rcases zC l.length acc.length with q1 | q1
        · have d1:=Ar q1
          simp (disch:=omega) only [go_sem,Ab,hni,d1]
        · have d1:=Aj (zY.2 q1)
          simp (disch:=omega) only [go_sem,Ab,hni,d1]
    all_goals
      have hbm:((b.map fun s=>[D.str s]).map fun x=>x.map D.ot)=b.map fun s=>[OT.str s]:=by rw [zN]; rfl
      have hal:=EI b
      have hal2:=CW b
      have hl1:(b.map fun s=>[OT.str s])++[[OT.str x.var]]=(b++[x.var]).map fun s=>[OT.str s]:=by simp
      obtain ⟨b',hb'⟩:∃ b',b'=b++[x.var]:=⟨_,rfl⟩
      have hbl:b'.length≤b.length+1:=by rw [hb']; simp
      rw [←hb'] at hl1
      rw [←hb']
      refine Ai HK CT (of_decide_eq_true rfl) ?_
      simp (disch:=omega) only [F9,go_sem,Ab,ho,o8,o9,hbm,hal,hal2,hl1,yO]
      refine go_loop (α:=Int × (List ByteArray)) (fun a=>⟨slots 66 0 [(0,(bif dec (l.length < (a.2).length) then .ref 1 else .ref 0)),(2,(bif dec (l.length < (a.2).length) then .ref 2 else .ref 1)),(4,(bif dec (l.length < (a.2).length) then .ptr 3 0 else .ptr 2 0)),(9,.int .i64 (a.1))],(bif dec (l.length < (a.2).length) then [.gone,.row 9 1 ((a.2).map fun s=>[OT.str s]),.row 9 1 (b'.map fun s=>[OT.str s]),.box 29 [.int .i64 x.op,.str x.atom.name,.arr (x.atom.args.map Tm.d),.str x.var,.arr (x.parts.map Fm.d)]] else [.row 9 1 ((a.2).map fun s=>[OT.str s]),.row 9 1 (b'.map fun s=>[OT.str s]),.box 29 [.int .i64 x.op,.str x.atom.name,.arr (x.atom.args.map Tm.d),.str x.var,.arr (x.parts.map Fm.d)]])⟩) (fun a=>∃ k:Nat,a.1=k∧k≤(x.parts).length∧C2 (a.2) (Fm.fvL (x.parts.drop k) b')=C2 l (Fm.fvL x.parts b')∧(a.2).length+Fm.vnS (x.parts.drop k)≤1048576∧l.length≤(a.2).length) (fun a=>(x.parts).length - (a.1).toNat) (0,l) ⟨0,rfl,zK _,by rw [zI],by rw [zI]; dsimp only; omega,yC _⟩ (by simp (disch:=omega) only [go_sem,Ab,hgl]) ?_
      rintro ⟨i,acc⟩ ⟨k,hi,hk,hR⟩
      dsimp only at hi hR
      have hni:i.toNat=k:=by omega
      have hni1:(i+1).toNat=k+1:=by omega
      rcases zC k (x.parts).length with hlt | hge
      · have hg:=get_at Fm.d hlt
        rw [Fm.d_eq] at hg
        obtain ⟨hR1,hR2,hR3⟩:=hR
        rw [zB hlt,Fm.fvL,OV] at hR1
        rw [zB hlt,Fm.vnS] at hR2
        have hnm:=Fm.nodes_le x.parts k hlt
        have hc:=ih x.parts[k] (zD hlt) acc b' (by omega) (by omega)
        have hlen:=DK (x.parts[k].fv b') acc
        have hgr:=JS (x.parts[k].fv b') acc
        have hvl:=Fm.HG x.parts[k] b'
        obtain ⟨acc2,ha2⟩:∃ a,a=C2 acc (x.parts[k].fv b'):=⟨_,rfl⟩
        rw [←ha2] at hc hlen hgr hR1
        rcases zC l.length acc.length with q1 | q1 <;> rcases zC acc.length acc2.length with q2 | q2
        all_goals
          first
            | rw [Ar q2] at hc
            | rw [Aj (zY.2 q2)] at hc
          simp only [cond_true,cond_false] at hc
          first
            | have d1:=Ar q1
            | have d1:=Aj (zY.2 q1)
          first
            | have d2:dec (l.length < acc2.length)=true:=Ar (by omega)
            | have d2:dec (l.length < acc2.length)=false:=Aj (by omega)
          simp (disch:=omega) only [go_sem,Ab,hni,hg,hc,d1,C4,CT]
          refine ⟨(i+1,acc2),⟨k+1,by dsimp only; omega,hlt,hR1,by dsimp only; omega,by dsimp only; omega⟩,by dsimp only; omega,?_⟩
          first | done | simp (disch:=omega) only [go_sem,Ab,d2]
      · rw [zE hge,Fm.fvL] at hR
        obtain ⟨hR1,hR2,hR3⟩:=hR
        have hR1:acc=_:=hR1
        rw [←hR1]
        rcases zC l.length acc.length with q1 | q1
        · have d1:=Ar q1
          simp (disch:=omega) only [go_sem,Ab,hni,d1]
        · have d1:=Aj (zY.2 q1)
          simp (disch:=omega) only [go_sem,Ab,hni,d1]
theorem TM (x:Fm) (hx:x.forms=true):Qb2 x :=
 X5 x hx fun y hy=>TM y (Fm.AQ hx hy)
termination_by SizeOf.sizeOf x
decreasing_by exact Fm.lt_of_mem hy
theorem LJ (x:Fm) (hx:x.forms=true) (hv:x.vn≤1048576) (hn:x.nodes≤1048576):E 80 [x.sv] []=some (.ref 0,[.row 9 1 (x.free.map fun s=>[OT.str s])]):=by
 have h1:=TM x hx [] [] (by simpa using hv) (by simpa using hn)
 rw [zP,zP,zS] at h1
 unfold Fm.free
 have hxs:x.sv=.agg [.int .i64 x.op,.str x.atom.name,.arr (x.atom.args.map Tm.d),.str x.var,.arr (x.parts.map Fm.d)]:=rfl
 obtain ⟨ns,hns⟩:∃ ns,ns=C2 [] (x.fv []):=⟨_,rfl⟩
 rw [←hns] at h1 ⊢
 rcases zC 0 ns.length with q | q
 ·rw [Ar q] at h1
  simp only [cond_true] at h1
  refine Ai Kx D2 (of_decide_eq_true rfl) ?_
  simp (disch:=omega) only [HL,go_sem,Ab,h1,CT]
 ·rw [Aj (by omega)] at h1
  simp only [cond_false] at h1
  refine Ai Kx D2 (of_decide_eq_true rfl) ?_
  simp (disch:=omega) only [HL,go_sem,Ab,h1,CT]
mutual
noncomputable def Fm.qs:Fm→List ByteArray
 | .mk op _ var parts=>(bif qB op then [var] else [])++Fm.qsL parts
noncomputable def Fm.qsL:List Fm→List ByteArray
 | []=>[]
 | x :: xs=>Fm.qs x++Fm.qsL xs
end
theorem Fm.Nr (x:Fm):x.qs=(bif qB x.op then [x.var] else [])++Fm.qsL x.parts:=by
 obtain ⟨op,atom,var,parts⟩:=x
 rw [Fm.qs]; rfl
theorem Fm.Po (x:Fm):x.qs.length≤x.nodes:=by
 have key:∀ xs:List Fm,(∀ y∈xs,y.qs.length≤y.nodes)→(Fm.qsL xs).length≤Fm.nodeS xs:=by
  intro xs
  induction xs with
  | nil=>intro _; simp [Fm.qsL]
  | cons y ys ih =>
   intro h
   have h1:=h y (by simp)
   have h2:=ih fun z hz=>h z (by simp [hz])
   rw [Fm.qsL,Fm.nodeS,zJ]; omega
 have h:=key x.parts fun y hy=>Fm.Po y
 rw [Fm.Nr,Fm.nodes_eq,zJ]
 cases qB x.op with
 | true=>simp only [cond_true,List.length_singleton]; omega
 | false=>simp only [cond_false,zS]; omega
termination_by SizeOf.sizeOf x
decreasing_by exact Fm.lt_of_mem hy
noncomputable def Fm.sepd (x:Fm):Bool:=dec ((x.qs++x.free).Nodup)
theorem RZ {zs:List (List UInt8)} (hs:zs.Pairwise fun x y=>x≤y):(Lib.compact zs).length=zs.length ↔ zs.Nodup:=by
 have hk:(Lib.compact zs).length=zs.length ↔ ∀ j,j<zs.length→Lib.keeps zs.toArray j=true:=by
  unfold Lib.compact Lib.compactUpTo
  rw [zV]
  have h:=List.length_filter_eq_length_iff (p:=Lib.keeps zs.toArray) (l:=List.range zs.length)
  rw [List.length_range] at h
  rw [h]
  simp only [yR]
 have at_:∀ j (h:j<zs.length),zs.toArray[j]! = zs[j]:=fun j h=>by
  rw [getElem!_pos zs.toArray j (by simpa using h)]; simp
 rw [hk]
 constructor
 ·intro h
  unfold List.Nodup
  rw [yT] at hs ⊢
  intro i j hi hj hij e
  have h1:=h j hj
  unfold Lib.keeps at h1
  rw [decide_eq_true_eq,at_ j hj,at_ (j-1) (by omega)] at h1
  rcases h1 with h1 | h1
  ·omega
  ·refine h1 ?_
   rcases zC i (j-1) with h2 | h2
   ·have a1:=hs i (j-1) hi (by omega) h2
    have a2:=hs (j-1) j (by omega) hj (by omega)
    rw [e] at a1
    exact List.le_antisymm a1 a2
   ·have:i=j-1:=by omega
    subst this
    exact e.symm
 ·intro h j hj
  unfold Lib.keeps
  rw [decide_eq_true_eq]
  rcases zO j with h0 | h0
  ·exact .inl h0
  ·right
   rw [at_ j hj,at_ (j-1) (by omega)]
   intro e
   unfold List.Nodup at h
   exact yT.1 h (j-1) j (by omega) hj (by omega) e.symm
theorem Qa1 {a b:ByteArray} (h:a.toList=b.toList):a=b:=by rw [←Ez a,← Ez b,h]
noncomputable def PL (l:List ByteArray):List ByteArray:=(Lib.compact (l.map (·.toList))).map fun x=>⟨x.toArray⟩
theorem X6 (l:List ByteArray):(PL (I8 l)).length=(I8 l).length ↔ l.Nodup:=by
 have e1:(I8 l).map (·.toList)=srt (l.map (·.toList)):=by
  unfold I8
  rw [zN]
  have:((fun x:ByteArray=>x.toList) ∘ fun x:List UInt8=>(⟨x.toArray⟩:ByteArray))=id:=by
   funext x
   show (ByteArray.mk x.toArray).toList=x
   rw [ByteArray.toList_eq]
  rw [this,List.map_id]
 have hso:(srt (l.map (·.toList))).Pairwise fun x y=>x≤y:=by
  have:=List.pairwise_mergeSort (le:=fun x y:List UInt8=>decide (x≤y)) (fun a b c h k=>by
   rw [decide_eq_true_eq] at h k ⊢; exact List.le_trans h k) (fun a b=>by
   rw [Bool.or_eq_true,decide_eq_true_eq,decide_eq_true_eq]; exact List.le_total a b) (l.map (·.toList))
  exact this.imp fun h=>by rwa [decide_eq_true_eq] at h
 have hp:(srt (l.map (·.toList))).Perm (l.map (·.toList)):=List.mergeSort_perm _ _
 have h2:(I8 l).length=(srt (l.map (·.toList))).length:=by rw [←e1,zV]
 unfold PL
 rw [zV,e1,h2,RZ hso,hp.nodup_iff]
 constructor
 ·intro h
  exact List.Pairwise.of_map (fun x:ByteArray=>x.toList) (fun a b hab e=>hab (by rw [e])) h
 ·intro h
  unfold List.Nodup at h ⊢
  rw [List.pairwise_map]
  exact h.imp fun hab e=>hab (Qa1 e)
def DN:SC:=(.seq (.reg [⟨some 1,none,.boxv 29 5 (.t 0)⟩,⟨some 2,none,.mv (.c .nil)⟩]) (.seq (.reg [⟨(some 6),none,(.mkrow 9 1 [(.str ⟨#[]⟩)] 0 [])⟩,⟨some 3,none,.mv (.t 6)⟩]) (.seq (.seq (.reg [⟨some 7,none,.faddr 0 (.t 1)⟩,⟨some 8,none,.load false 1 (.t 7)⟩,⟨some 9,none,.call 71 [(.t 8)]⟩]) (.cond (.t 9) (.reg [⟨some 10,none,.mv (.t 3)⟩,⟨some 11,none,.faddr 3 (.t 1)⟩,⟨some 12,none,.load false 1 (.t 11)⟩,⟨(some 13),none,(.mkrow 9 1 [(.str ⟨#[]⟩)] 1 [(0,(.t 12))])⟩,⟨(some 14),none,(.append 9 1 16 [(.str ⟨#[]⟩)] (.t 10) (.t 13))⟩,⟨some 3,none,.mv (.t 14)⟩]) .skip)) (.seq (.seq (.reg [⟨some 15,none,.faddr 4 (.t 1)⟩,⟨some 16,none,.load false 1 (.t 15)⟩,⟨some 17,none,.len false (.t 16)⟩,⟨some 18,none,.mv (.c (.int .i64 0))⟩]) (.block 0 (.loop [0,0,0,1,0,0,0,0,0,0,0,0,0,0,0,0,1,1,1,0,0,0,0,0,0,0,0,0] (.seq (.reg [⟨some 19,none,.bin .lss false (.t 18) (.t 17)⟩]) (.seq (.cond (.t 19) .skip (.exit 0)) (.seq (.block 1 (.seq (.reg [⟨some 20,none,.iaddr 5 (.t 16) (.t 18)⟩,⟨some 21,none,.load true 5 (.t 20)⟩,⟨(some 5),none,(.alloc 29 [(.int .i64 0),(.str ⟨#[]⟩),.nil,(.str ⟨#[]⟩),.nil])⟩,⟨none,none,(.store 5 (.t 5) (.t 21))⟩]) (.reg [⟨some 22,none,.mv (.t 3)⟩,⟨some 23,none,.load true 5 (.t 5)⟩,⟨some 24,none,.call 81 [(.t 23)]⟩,⟨(some 25),none,(.append 9 1 16 [(.str ⟨#[]⟩)] (.t 22) (.t 24))⟩,⟨some 3,none,.mv (.t 25)⟩]))) (.reg [⟨some 26,none,.bin .add false (.t 18) (.c (.int .i64 1))⟩,⟨some 18,none,.mv (.t 26)⟩]))))))) (.seq (.reg [⟨some 27,none,.mv (.t 3)⟩,⟨some 2,none,.mv (.t 27)⟩]) .ret)))))
theorem FP:At Tryz.prog 81=some ⟨28,DN,[(.tmp 2)]⟩:=by kernel_rfl
theorem Ct:modes 81=⟨[],.asis,none,false⟩:=by unfold modes; rfl
def GU:SC:=(.seq (.reg [⟨some 1,none,.boxv 29 5 (.t 0)⟩,⟨some 2,none,.mv (.c (.bool false))⟩]) (.seq (.dreg [[],[0],[],[2,1,0],[1,0,3,2],[4,1,0,3,2]] [⟨some 4,none,.load true 5 (.t 1)⟩,⟨some 5,none,.call 81 [(.t 4)]⟩,⟨some 6,none,.load true 5 (.t 1)⟩,⟨some 7,none,.call 45 [(.t 6)]⟩,⟨(some 8),none,(.append 9 1 16 [(.str ⟨#[]⟩)] (.t 5) (.t 7))⟩,⟨some 3,none,.mv (.t 8)⟩]) (.seq (.reg [⟨some 9,none,.mv (.t 3)⟩,⟨some 10,none,.call 82 [(.t 9)]⟩]) (.seq (.reg [⟨some 11,none,.mv (.t 3)⟩,⟨some 12,none,.call 44 [(.t 11)]⟩,⟨some 13,none,.call 83 [(.t 12)]⟩,⟨some 14,none,.len false (.t 13)⟩,⟨some 15,none,.mv (.t 3)⟩,⟨some 16,none,.len false (.t 15)⟩,⟨some 17,none,.bin .eql false (.t 14) (.t 16)⟩,⟨some 2,none,.mv (.t 17)⟩]) .ret))))
theorem KZ:At Tryz.prog 42=some ⟨18,GU,[(.tmp 2)]⟩:=by kernel_rfl
theorem BP:modes 42=⟨[],.asis,none,false⟩:=by unfold modes; rfl
theorem Dd:modes 83=⟨[true],.asis,some Fn,false⟩:=by unfold modes; rfl
theorem V3 (l:List ByteArray) (hl:l.length≤1099511627776):E 83 [.ref 0] [.row 9 1 (l.map fun s=>[OT.str s])]=some (.ref 1,[.gone,.row 9 1 ((PL l).map fun s=>[OT.str s])]):=by
 rw [KP (g:=Fn) (congrArg FM.ext Dd)]
 unfold Fn
 simp only
 rw [Ar ⟨by first | trivial | rfl,fun e he=>by obtain ⟨s,_,rfl⟩:=yP.1 he; exact ⟨s,rfl⟩,by simpa using hl⟩,cond_true]
 have e1:(l.map fun s=>[OT.str s]).map (fun e=>(Lw e).toList)=l.map (·.toList):=by rw [zN]; rfl
 rw [e1]
 unfold PL
 rw [zN]
 rfl
abbrev QsC (x:Fm):Prop:=E 81 [x.sv] []=some (.ref 0,[.row 9 1 (x.qs.map (fun s=>[OT.str s]))])
theorem MB (x:Fm) (hn:x.nodes≤1048576) (ih:∀ y∈x.parts,QsC y):QsC x:=by
 unfold QsC
 have hpl:=Fm.length_le x.parts
 have hnq:=Fm.nodes_eq x
 have hql:=Fm.Po x
 have hqs:=(Fm.Nr x).symm
 have hxs:x.sv=.agg [.int .i64 x.op,.str x.atom.name,.arr (x.atom.args.map Tm.d),.str x.var,.arr (x.parts.map Fm.d)]:=rfl
 have hq0:=Cs x.op
 cases hq:qB x.op with
 | true =>
  rw [hq,cond_true] at hqs
  unfold qB at hq
  rw [hq] at hq0
  have hz0:[[OT.str x.var]]=[x.var].map (fun s=>[OT.str s]):=rfl
  refine Ai FP Ct (of_decide_eq_true rfl) ?_
  simp (disch:=omega) only [DN,go_sem,Ab,hq0,Ac]
  refine go_loop (α:=Int × (List ByteArray)) (fun a=>⟨slots 28 0 [(3,.ref 0),(16,.arr (x.parts.map Fm.d)),(17,.int .i64 x.parts.length),(18,.int .i64 (a.1))],[.row 9 1 ((a.2).map (fun s=>[OT.str s]))]⟩) (fun a=>∃ k:Nat,a.1=k∧k≤(x.parts).length∧(a.2)++Fm.qsL (x.parts.drop k)=x.qs) (fun a=>(x.parts).length-(a.1).toNat) (0,[x.var]) ⟨0,rfl,zK _,by rw [zI,hqs]⟩ (by simp (disch:=omega) only [go_sem,Ab]) ?_
  rintro ⟨i,acc⟩ ⟨k,hi,hk,hR⟩
  dsimp only at hi hR
  have hni:i.toNat=k:=by omega
  have hni1:(i+1).toNat=k+1:=by omega
  rcases zC k (x.parts).length with hlt | hge
  ·have hg:=get_at Fm.d hlt
   rw [Fm.d_eq] at hg
   rw [zB hlt,Fm.qsL,← zT] at hR
   have hc:=ih x.parts[k] (zD hlt)
   unfold QsC at hc
   have hps:x.parts[k].sv=.agg [.int .i64 x.parts[k].op,.str x.parts[k].atom.name,.arr (x.parts[k].atom.args.map Tm.d),.str x.parts[k].var,.arr (x.parts[k].parts.map Fm.d)]:=rfl
   rw [hps] at hc
   have hap:acc.map (fun s=>[OT.str s])++x.parts[k].qs.map (fun s=>[OT.str s])=(acc++x.parts[k].qs).map (fun s=>[OT.str s]):=by rw [zM]
   have hlen:=congrArg yU hR
   rw [zJ,zJ] at hlen
   have hal:=CW x.parts[k].qs
   simp (disch:=omega) only [go_sem,Ab,hni,hg,hc,hap,hal,Ct]
   refine ⟨(i+1,acc++x.parts[k].qs),⟨k+1,by dsimp only; omega,hlt,hR⟩,by dsimp only; omega,?_⟩
   first | trivial | rfl | simp (disch:=omega) only [go_sem,Ab]
  ·rw [zE hge,Fm.qsL,z6] at hR
   have hR:acc=x.qs:=hR
   rw [←hR]
   simp (disch:=omega) only [go_sem,Ab,hni]
 | false =>
  rw [hq,cond_false] at hqs
  unfold qB at hq
  rw [hq] at hq0
  have hz0:([]:List ByteArray).map (fun s=>[OT.str s])=[]:=rfl
  refine Ai FP Ct (of_decide_eq_true rfl) ?_
  simp (disch:=omega) only [DN,go_sem,Ab,hq0,Ac]
  refine go_loop (α:=Int × (List ByteArray)) (fun a=>⟨slots 28 0 [(3,.ref 0),(16,.arr (x.parts.map Fm.d)),(17,.int .i64 x.parts.length),(18,.int .i64 (a.1))],[.row 9 1 ((a.2).map (fun s=>[OT.str s]))]⟩) (fun a=>∃ k:Nat,a.1=k∧k≤(x.parts).length∧(a.2)++Fm.qsL (x.parts.drop k)=x.qs) (fun a=>(x.parts).length-(a.1).toNat) (0,[]) ⟨0,rfl,zK _,by rw [zI,hqs]⟩ (by simp (disch:=omega) only [go_sem,Ab]) ?_
  rintro ⟨i,acc⟩ ⟨k,hi,hk,hR⟩
  dsimp only at hi hR
  have hni:i.toNat=k:=by omega
  have hni1:(i+1).toNat=k+1:=by omega
  rcases zC k (x.parts).length with hlt | hge
  ·have hg:=get_at Fm.d hlt
   rw [Fm.d_eq] at hg
   rw [zB hlt,Fm.qsL,← zT] at hR
   have hc:=ih x.parts[k] (zD hlt)
   unfold QsC at hc
   have hps:x.parts[k].sv=.agg [.int .i64 x.parts[k].op,.str x.parts[k].atom.name,.arr (x.parts[k].atom.args.map Tm.d),.str x.parts[k].var,.arr (x.parts[k].parts.map Fm.d)]:=rfl
   rw [hps] at hc
   have hap:acc.map (fun s=>[OT.str s])++x.parts[k].qs.map (fun s=>[OT.str s])=(acc++x.parts[k].qs).map (fun s=>[OT.str s]):=by rw [zM]
   have hlen:=congrArg yU hR
   rw [zJ,zJ] at hlen
   have hal:=CW x.parts[k].qs
   simp (disch:=omega) only [go_sem,Ab,hni,hg,hc,hap,hal,Ct]
   refine ⟨(i+1,acc++x.parts[k].qs),⟨k+1,by dsimp only; omega,hlt,hR⟩,by dsimp only; omega,?_⟩
   first | trivial | rfl | simp (disch:=omega) only [go_sem,Ab]
  ·rw [zE hge,Fm.qsL,z6] at hR
   have hR:acc=x.qs:=hR
   rw [←hR]
   simp (disch:=omega) only [go_sem,Ab,hni]
theorem IR (x:Fm) (hn:x.nodes≤1048576):QsC x :=
 MB x hn fun y hy=>IR y (by have:=Fm.nodes_mem hy; have:=Fm.nodes_eq x; omega)
termination_by SizeOf.sizeOf x
decreasing_by exact Fm.lt_of_mem hy
theorem PM (x:Fm) (hx:x.forms=true) (hv:x.vn≤100000) (hn:x.nodes≤100000):E 42 [x.sv] []=some (.bool x.sepd,[]):=by
 have h1:=IR x (by omega)
 unfold QsC at h1
 have h2:=Zl x hx (by omega) (by omega)
 have hql:=Fm.Po x
 have hfl:=Fm.HG x []
 have hil:=DK (x.fv []) []
 rw [zS,yX] at hil
 have hfr:x.free.length≤100000:=by unfold Fm.free; omega
 have ha:x.qs.map (fun s=>[OT.str s])++x.free.map (fun s=>[OT.str s])=(x.qs++x.free).map (fun s=>[OT.str s]):=by rw [zM]
 have hbf:(x.free.map fun s=>[D.str s]).map (fun x=>x.map D.ot)=x.free.map (fun s=>[OT.str s]):=by rw [zN]; rfl
 have hal:=CW x.free
 have hadl:=EI x.free
 have hcb:=X6 (x.qs++x.free)
 have hlen:(x.qs++x.free).length≤200000:=by rw [zJ]; omega
 have h3:=RP (x.qs++x.free) (by omega)
 have hpl:=(M2 (x.qs++x.free)).length_eq
 have hsd:x.sepd=dec ((PL (I8 (x.qs++x.free))).length=(I8 (x.qs++x.free)).length):=by
  unfold Fm.sepd
  rw [show ((x.qs++x.free).Nodup)=((PL (I8 (x.qs++x.free))).length=(I8 (x.qs++x.free)).length) from propext hcb.symm]
 rw [hsd]
 clear hcb hsd
 have hqf:(x.qs.map (fun s=>[OT.str s])).length=x.qs.length:=zV _
 obtain ⟨qf,hqf2⟩:∃ qf,qf=x.qs++x.free:=⟨_,rfl⟩
 rw [←hqf2] at ha hlen h3 hpl ⊢
 obtain ⟨so,hso⟩:∃ so,so=I8 qf:=⟨_,rfl⟩
 rw [←hso] at h3 hpl ⊢
 have h4:=LI so (by omega)
 have h5:=V3 so (by omega)
 have hdec:dec (((PL so).length:Int)=(so.length:Int))=dec ((PL so).length=so.length):=by
  rw [show (((PL so).length:Int)=(so.length:Int))=((PL so).length=so.length) from propext ⟨fun h=>by omega,fun h=>by omega⟩]
 have hxs:x.sv=.agg [.int .i64 x.op,.str x.atom.name,.arr (x.atom.args.map Tm.d),.str x.var,.arr (x.parts.map Fm.d)]:=rfl
 refine Ai KZ BP (of_decide_eq_true rfl) ?_
 simp (disch:=omega) only [GU,go_sem,Ab,h1,h2,ha,hbf,hal,hadl,h3,h4,h5,hdec,Ct,CM,Br,AF,Dd]
def EM:SC:=(.seq (.reg [⟨some 1,none,.boxv 29 5 (.t 0)⟩,⟨some 2,none,.mv (.c .nil)⟩]) (.seq (.reg [⟨(some 5),none,(.mkrow 9 1 [(.str ⟨#[]⟩)] 0 [])⟩,⟨some 3,none,.mv (.t 5)⟩]) (.seq (.seq (.reg [⟨some 6,none,.faddr 0 (.t 1)⟩,⟨some 7,none,.load false 1 (.t 6)⟩,⟨some 8,none,.bin .eql false (.t 7) (.c (.int .i64 8))⟩,⟨some 9,none,.mv (.t 8)⟩,⟨(some 10),(some (9,false)),(.faddr 0 (.t 1))⟩,⟨(some 11),(some (9,false)),(.load false 1 (.t 10))⟩,⟨(some 12),(some (9,false)),(.bin .eql false (.t 11) (.c (.int .i64 9)))⟩,⟨some 13,none,.pick (.t 9) (.c (.bool true)) (.t 12)⟩]) (.cond (.t 13) (.reg [⟨some 14,none,.mv (.t 3)⟩,⟨some 15,none,.faddr 3 (.t 1)⟩,⟨some 16,none,.load false 1 (.t 15)⟩,⟨(some 17),none,(.mkrow 9 1 [(.str ⟨#[]⟩)] 1 [(0,(.t 16))])⟩,⟨(some 18),none,(.append 9 1 16 [(.str ⟨#[]⟩)] (.t 14) (.t 17))⟩,⟨some 3,none,.mv (.t 18)⟩]) .skip)) (.seq (.seq (.reg [⟨some 4,none,.mv (.c (.int .i64 0))⟩]) (.block 0 (.loop [0,1,0,1,1,0,0,0,0,0,0,0,0,0,0,0,0,0,0,0,0,0,0,0,0,0,0,0,0,0,0,0,0,0,0] (.seq (.seq (.reg [⟨some 19,none,.mv (.t 4)⟩,⟨some 20,none,.faddr 4 (.t 1)⟩,⟨some 21,none,.load false 1 (.t 20)⟩,⟨some 22,none,.len false (.t 21)⟩,⟨some 23,none,.bin .lss false (.t 19) (.t 22)⟩]) (.cond (.t 23) .skip (.exit 0))) (.seq (.block 1 (.reg [⟨some 26,none,.mv (.t 3)⟩,⟨some 27,none,.faddr 4 (.t 1)⟩,⟨some 28,none,.load false 1 (.t 27)⟩,⟨some 29,none,.mv (.t 4)⟩,⟨some 30,none,.iaddr 5 (.t 28) (.t 29)⟩,⟨some 31,none,.load true 5 (.t 30)⟩,⟨some 32,none,.call 94 [(.t 31)]⟩,⟨(some 33),none,(.append 9 1 16 [(.str ⟨#[]⟩)] (.t 26) (.t 32))⟩,⟨some 3,none,.mv (.t 33)⟩])) (.reg [⟨some 24,none,.mv (.t 4)⟩,⟨some 25,none,.bin .add false (.t 24) (.c (.int .i64 1))⟩,⟨some 4,none,.mv (.t 25)⟩])))))) (.seq (.reg [⟨some 34,none,.mv (.t 3)⟩,⟨some 2,none,.mv (.t 34)⟩]) .ret)))))
theorem GV:At Tryz.prog 94=some ⟨35,EM,[(.tmp 2)]⟩:=by kernel_rfl
theorem CE:modes 94=⟨[],.frz,none,false⟩:=by unfold modes; rfl
def GW:SC:=(.seq (.reg [⟨some 1,none,.boxv 29 5 (.t 0)⟩,⟨some 2,none,.mv (.c (.bool false))⟩]) (.seq (.reg [⟨some 6,none,.load true 5 (.t 1)⟩,⟨some 7,none,.call 80 [(.t 6)]⟩,⟨some 3,none,.mv (.t 7)⟩]) (.seq (.reg [⟨some 8,none,.load true 5 (.t 1)⟩,⟨some 9,none,.call 94 [(.t 8)]⟩,⟨some 4,none,.mv (.t 9)⟩]) (.seq (.seq (.reg [⟨some 5,none,.mv (.c (.int .i64 0))⟩]) (.block 0 (.loop [0,0,0,1,1,1,0,0,0,0,0,0,0,0,0,0,0,0,0,0,0,0,0,0,0,0,0,0,0] (.seq (.seq (.reg [⟨some 10,none,.mv (.t 5)⟩,⟨some 11,none,.mv (.t 4)⟩,⟨some 12,none,.len false (.t 11)⟩,⟨some 13,none,.bin .lss false (.t 10) (.t 12)⟩]) (.cond (.t 13) .skip (.exit 0))) (.seq (.block 1 (.seq (.seq (.reg [⟨some 16,none,.mv (.t 3)⟩,⟨some 17,none,.mv (.t 4)⟩,⟨some 18,none,.mv (.t 5)⟩,⟨some 19,none,.iaddr 1 (.t 17) (.t 18)⟩,⟨some 20,none,.load false 1 (.t 19)⟩,⟨some 21,none,.call 95 [(.t 16),(.t 20)]⟩]) (.cond (.t 21) (.seq (.reg [⟨some 2,none,.mv (.c (.bool false))⟩]) .ret) .skip)) (.reg [⟨some 22,none,.mv (.t 3)⟩,⟨some 23,none,.mv (.t 4)⟩,⟨some 24,none,.mv (.t 5)⟩,⟨some 25,none,.iaddr 1 (.t 23) (.t 24)⟩,⟨some 26,none,.load false 1 (.t 25)⟩,⟨(some 27),none,(.mkrow 9 1 [(.str ⟨#[]⟩)] 1 [(0,(.t 26))])⟩,⟨(some 28),none,(.append 9 1 16 [(.str ⟨#[]⟩)] (.t 22) (.t 27))⟩,⟨some 3,none,.mv (.t 28)⟩]))) (.reg [⟨some 14,none,.mv (.t 5)⟩,⟨some 15,none,.bin .add false (.t 14) (.c (.int .i64 1))⟩,⟨some 5,none,.mv (.t 15)⟩])))))) (.seq (.reg [⟨some 2,none,.mv (.c (.bool true))⟩]) .ret)))))
theorem La:At Tryz.prog 48=some ⟨29,GW,[(.tmp 2)]⟩:=by kernel_rfl
theorem BQ:modes 48=⟨[],.asis,none,false⟩:=by unfold modes; rfl
abbrev QbC (x:Fm):Prop:=E 94 [x.sv] []=some (.arr (x.qs.map fun s=>[D.str s]),[])
theorem V4 (x:Fm) (hn:x.nodes≤1048576) (ih:∀ y∈x.parts,QbC y):QbC x:=by
 unfold QbC
 have hpl:=Fm.length_le x.parts
 have hnq:=Fm.nodes_eq x
 have hql:=Fm.Po x
 have hqs:=(Fm.Nr x).symm
 have hxs:x.sv=.agg [.int .i64 x.op,.str x.atom.name,.arr (x.atom.args.map Tm.d),.str x.var,.arr (x.parts.map Fm.d)]:=rfl
 cases hq:qB x.op with
 | true =>
  rw [hq,cond_true] at hqs
  have hz0:[[OT.str x.var]]=[x.var].map (fun s=>[OT.str s]):=rfl
  rcases hq8:dec (x.op=8) with _ | _
  ·have hq9:dec (x.op=9)=true:=by unfold qB at hq; rw [hq8,Bool.false_or] at hq; exact hq
   refine Ai GV CE (of_decide_eq_true rfl) ?_
   simp (disch:=omega) only [EM,go_sem,Ab,hq8,hq9]
   refine go_loop (α:=Int × (List ByteArray)) (fun a=>⟨slots 35 0 [(1,.ptr 0 0),(3,.ref 1),(4,.int .i64 (a.1))],[.box 29 [.int .i64 x.op,.str x.atom.name,.arr (x.atom.args.map Tm.d),.str x.var,.arr (x.parts.map Fm.d)],.row 9 1 ((a.2).map (fun s=>[OT.str s]))]⟩) (fun a=>∃ k:Nat,a.1=k∧k≤(x.parts).length∧(a.2)++Fm.qsL (x.parts.drop k)=x.qs) (fun a=>(x.parts).length-(a.1).toNat) (0,[x.var]) ⟨0,rfl,zK _,by rw [zI,hqs]⟩ (by simp (disch:=omega) only [go_sem,Ab]) ?_
   rintro ⟨i,acc⟩ ⟨k,hi,hk,hR⟩
   dsimp only at hi hR
   have hni:i.toNat=k:=by omega
   have hni1:(i+1).toNat=k+1:=by omega
   rcases zC k (x.parts).length with hlt | hge
   ·have hg:=get_at Fm.d hlt
    rw [Fm.d_eq] at hg
    rw [zB hlt,Fm.qsL,← zT] at hR
    have hc:=ih x.parts[k] (zD hlt)
    unfold QbC at hc
    have hps:x.parts[k].sv=.agg [.int .i64 x.parts[k].op,.str x.parts[k].atom.name,.arr (x.parts[k].atom.args.map Tm.d),.str x.parts[k].var,.arr (x.parts[k].parts.map Fm.d)]:=rfl
    rw [hps] at hc
    have hap:acc.map (fun s=>[OT.str s])++x.parts[k].qs.map (fun s=>[OT.str s])=(acc++x.parts[k].qs).map (fun s=>[OT.str s]):=by rw [zM]
    have hbf:(x.parts[k].qs.map fun s=>[D.str s]).map (fun x=>x.map D.ot)=x.parts[k].qs.map (fun s=>[OT.str s]):=by rw [zN]; rfl
    have hlen:=congrArg yU hR
    rw [zJ,zJ] at hlen
    have hal:=CW x.parts[k].qs
    have hadl:=EI x.parts[k].qs
    simp (disch:=omega) only [go_sem,Ab,hni,hg,hc,hap,hbf,hal,hadl,CE]
    refine ⟨(i+1,acc++x.parts[k].qs),⟨k+1,by dsimp only; omega,hlt,hR⟩,by dsimp only; omega,?_⟩
    first | trivial | rfl | simp (disch:=omega) only [go_sem,Ab]
   ·rw [zE hge,Fm.qsL,z6] at hR
    have hR:acc=x.qs:=hR
    rw [←hR]
    simp (disch:=omega) only [go_sem,Ab,hni]
  ·refine Ai GV CE (of_decide_eq_true rfl) ?_
   simp (disch:=omega) only [EM,go_sem,Ab,hq8]
   refine go_loop (α:=Int × (List ByteArray)) (fun a=>⟨slots 35 0 [(1,.ptr 0 0),(3,.ref 1),(4,.int .i64 (a.1))],[.box 29 [.int .i64 x.op,.str x.atom.name,.arr (x.atom.args.map Tm.d),.str x.var,.arr (x.parts.map Fm.d)],.row 9 1 ((a.2).map (fun s=>[OT.str s]))]⟩) (fun a=>∃ k:Nat,a.1=k∧k≤(x.parts).length∧(a.2)++Fm.qsL (x.parts.drop k)=x.qs) (fun a=>(x.parts).length-(a.1).toNat) (0,[x.var]) ⟨0,rfl,zK _,by rw [zI,hqs]⟩ (by simp (disch:=omega) only [go_sem,Ab]) ?_
   rintro ⟨i,acc⟩ ⟨k,hi,hk,hR⟩
   dsimp only at hi hR
   have hni:i.toNat=k:=by omega
   have hni1:(i+1).toNat=k+1:=by omega
   rcases zC k (x.parts).length with hlt | hge
   ·have hg:=get_at Fm.d hlt
    rw [Fm.d_eq] at hg
    rw [zB hlt,Fm.qsL,← zT] at hR
    have hc:=ih x.parts[k] (zD hlt)
    unfold QbC at hc
    have hps:x.parts[k].sv=.agg [.int .i64 x.parts[k].op,.str x.parts[k].atom.name,.arr (x.parts[k].atom.args.map Tm.d),.str x.parts[k].var,.arr (x.parts[k].parts.map Fm.d)]:=rfl
    rw [hps] at hc
    have hap:acc.map (fun s=>[OT.str s])++x.parts[k].qs.map (fun s=>[OT.str s])=(acc++x.parts[k].qs).map (fun s=>[OT.str s]):=by rw [zM]
    have hbf:(x.parts[k].qs.map fun s=>[D.str s]).map (fun x=>x.map D.ot)=x.parts[k].qs.map (fun s=>[OT.str s]):=by rw [zN]; rfl
    have hlen:=congrArg yU hR
    rw [zJ,zJ] at hlen
    have hal:=CW x.parts[k].qs
    have hadl:=EI x.parts[k].qs
    simp (disch:=omega) only [go_sem,Ab,hni,hg,hc,hap,hbf,hal,hadl,CE]
    refine ⟨(i+1,acc++x.parts[k].qs),⟨k+1,by dsimp only; omega,hlt,hR⟩,by dsimp only; omega,?_⟩
    first | trivial | rfl | simp (disch:=omega) only [go_sem,Ab]
   ·rw [zE hge,Fm.qsL,z6] at hR
    have hR:acc=x.qs:=hR
    rw [←hR]
    simp (disch:=omega) only [go_sem,Ab,hni]
 | false =>
  rw [hq,cond_false] at hqs
  unfold qB at hq
  rw [yM] at hq
  obtain ⟨hq8,hq9⟩:=hq
  have hz0:([]:List ByteArray).map (fun s=>[OT.str s])=[]:=rfl
  refine Ai GV CE (of_decide_eq_true rfl) ?_
  simp (disch:=omega) only [EM,go_sem,Ab,hq8,hq9]
  refine go_loop (α:=Int × (List ByteArray)) (fun a=>⟨slots 35 0 [(1,.ptr 0 0),(3,.ref 1),(4,.int .i64 (a.1))],[.box 29 [.int .i64 x.op,.str x.atom.name,.arr (x.atom.args.map Tm.d),.str x.var,.arr (x.parts.map Fm.d)],.row 9 1 ((a.2).map (fun s=>[OT.str s]))]⟩) (fun a=>∃ k:Nat,a.1=k∧k≤(x.parts).length∧(a.2)++Fm.qsL (x.parts.drop k)=x.qs) (fun a=>(x.parts).length-(a.1).toNat) (0,[]) ⟨0,rfl,zK _,by rw [zI,hqs]⟩ (by simp (disch:=omega) only [go_sem,Ab]) ?_
  rintro ⟨i,acc⟩ ⟨k,hi,hk,hR⟩
  dsimp only at hi hR
  have hni:i.toNat=k:=by omega
  have hni1:(i+1).toNat=k+1:=by omega
  rcases zC k (x.parts).length with hlt | hge
  ·have hg:=get_at Fm.d hlt
   rw [Fm.d_eq] at hg
   rw [zB hlt,Fm.qsL,← zT] at hR
   have hc:=ih x.parts[k] (zD hlt)
   unfold QbC at hc
   have hps:x.parts[k].sv=.agg [.int .i64 x.parts[k].op,.str x.parts[k].atom.name,.arr (x.parts[k].atom.args.map Tm.d),.str x.parts[k].var,.arr (x.parts[k].parts.map Fm.d)]:=rfl
   rw [hps] at hc
   have hap:acc.map (fun s=>[OT.str s])++x.parts[k].qs.map (fun s=>[OT.str s])=(acc++x.parts[k].qs).map (fun s=>[OT.str s]):=by rw [zM]
   have hbf:(x.parts[k].qs.map fun s=>[D.str s]).map (fun x=>x.map D.ot)=x.parts[k].qs.map (fun s=>[OT.str s]):=by rw [zN]; rfl
   have hlen:=congrArg yU hR
   rw [zJ,zJ] at hlen
   have hal:=CW x.parts[k].qs
   have hadl:=EI x.parts[k].qs
   simp (disch:=omega) only [go_sem,Ab,hni,hg,hc,hap,hbf,hal,hadl,CE]
   refine ⟨(i+1,acc++x.parts[k].qs),⟨k+1,by dsimp only; omega,hlt,hR⟩,by dsimp only; omega,?_⟩
   first | trivial | rfl | simp (disch:=omega) only [go_sem,Ab]
  ·rw [zE hge,Fm.qsL,z6] at hR
   have hR:acc=x.qs:=hR
   rw [←hR]
   simp (disch:=omega) only [go_sem,Ab,hni]
theorem QX (x:Fm) (hn:x.nodes≤1048576):QbC x :=
 V4 x hn fun y hy=>QX y (by have:=Fm.nodes_mem hy; have:=Fm.nodes_eq x; omega)
termination_by SizeOf.sizeOf x
decreasing_by exact Fm.lt_of_mem hy
theorem V5 (x:Fm):x.free.Nodup:=by
 unfold Fm.free
 rw [←M3,(M2 _).nodup_iff]
 exact KV List.nodup_nil
theorem X7 (x:Fm):x.sepd=dec ((x.free++x.qs).Nodup):=by
 unfold Fm.sepd
 rw [show ((x.qs++x.free).Nodup)=((x.free++x.qs).Nodup) from propext List.perm_append_comm.nodup_iff]
theorem PN (x:Fm) (hx:x.forms=true) (hv:x.vn≤100000) (hn:x.nodes≤100000):E 48 [x.sv] []=some (.bool x.sepd,[]):=by
 have h1:=QX x (by omega)
 unfold QbC at h1
 have h2:=LJ x hx (by omega) (by omega)
 have hql:=Fm.Po x
 have hfl:=Fm.HG x []
 have hil:=DK (x.fv []) []
 rw [zS,yX] at hil
 have hfr:x.free.length≤100000:=by unfold Fm.free; omega
 have hfn:=V5 x
 rw [X7]
 obtain ⟨fr,hfr2⟩:∃ fr,fr=x.free:=⟨_,rfl⟩
 obtain ⟨qs,hqs2⟩:∃ qs,qs=x.qs:=⟨_,rfl⟩
 rw [←hfr2] at h2 hfr hfn ⊢
 rw [←hqs2] at h1 hql ⊢
 have hxs:x.sv=.agg [.int .i64 x.op,.str x.atom.name,.arr (x.atom.args.map Tm.d),.str x.var,.arr (x.parts.map Fm.d)]:=rfl
 refine Ai La BQ (of_decide_eq_true rfl) ?_
 simp (disch:=omega) only [GW,go_sem,Ab,h1,h2,CE,D2]
 refine go_loop (α:=Int × (List ByteArray)) (fun a=>⟨slots 29 0 [(3,.ref 0),(4,.arr (qs.map fun s=>[D.str s])),(5,.int .i64 (a.1))],[.row 9 1 ((a.2).map (fun s=>[OT.str s]))]⟩) (fun a=>∃ k:Nat,a.1=k∧k≤(qs).length∧(a.2)++qs.drop k=fr++qs∧(a.2).length≤100000+k∧(a.2).Nodup) (fun a=>(qs).length-(a.1).toNat) (0,fr) ⟨0,rfl,zK _,by rw [zI],by dsimp only; omega,hfn⟩ (by simp (disch:=omega) only [go_sem,Ab]) ?_
 rintro ⟨i,acc⟩ ⟨k,hi,hk,hR⟩
 dsimp only at hi hR
 have hni:i.toNat=k:=by omega
 have hni1:(i+1).toNat=k+1:=by omega
 rcases zC k (qs).length with hlt | hge
 ·have hg:=get_at (fun s=>[D.str s]) hlt
  obtain ⟨hR1,hR2,hR3⟩:=hR
  have hin:=Vz acc qs[k] (by omega)
  by_cases hm:qs[k]∈acc
  ·rw [Ar hm] at hin
   have hno:dec ((fr++qs).Nodup)=false:=Aj fun h=>by
    rw [←hR1,zB hlt,yE] at h
    exact h.2.2 qs[k] hm qs[k] List.mem_cons_self rfl
   rw [hno]
   have hap:True:=trivial
   simp (disch:=omega) only [go_sem,Ab,hni,hg,hin,hap,DM]
  ·rw [Aj hm] at hin
   have hap:acc.map (fun s=>[OT.str s])++[[OT.str qs[k]]]=(acc++[qs[k]]).map (fun s=>[OT.str s]):=by simp
   simp (disch:=omega) only [go_sem,Ab,hni,hg,hin,hap,DM]
   refine ⟨(i+1,acc++[qs[k]]),⟨k+1,by dsimp only; omega,hlt,by rw [zT,← hR1,zB hlt]; rfl,by simp; omega,?_⟩,by dsimp only; omega,?_⟩
   ·rw [yE]
    exact ⟨hR3,by simp,fun a ha b hb e=>hm (by simp at hb; rw [←hb,← e]; exact ha)⟩
   ·simp (disch:=omega) only [go_sem,Ab]
 ·obtain ⟨hR1,hR2,hR3⟩:=hR
  rw [zE hge,z6] at hR1
  rw [←hR1,Ar hR3]
  simp (disch:=omega) only [go_sem,Ab,hni]
mutual
noncomputable def Fm.isN:Fm→Bool
 | .mk op _ _ parts=>!(dec (op=7) || (dec (op=4)&&!dec ((No parts).op=3)))&&Fm.Zm parts
noncomputable def Fm.Zm:List Fm→Bool
 | []=>true
 | x :: xs=>Fm.isN x&&Fm.Zm xs
end
theorem Fm.TN:∀ xs:List Fm,Fm.Zm xs=xs.all Fm.isN
 | []=>by rw [Fm.Zm]; rfl
 | x :: xs=>by rw [Fm.Zm,Fm.TN xs]; rfl
theorem Fm.V6 (x:Fm):x.isN=(!(dec (x.op=7) || (dec (x.op=4)&&!dec ((No x.parts).op=3)))&&x.parts.all Fm.isN):=by
 obtain ⟨op,atom,var,parts⟩:=x
 rw [Fm.isN,Fm.TN]; rfl
def BV:SC:=(.seq (.reg [⟨some 1,none,.boxv 29 5 (.t 0)⟩,⟨some 2,none,.mv (.c (.bool false))⟩]) (.seq (.seq (.reg [⟨some 3,none,.faddr 0 (.t 1)⟩,⟨some 4,none,.load false 1 (.t 3)⟩,⟨some 5,none,.bin .eql false (.t 4) (.c (.int .i64 7))⟩,⟨some 6,none,.mv (.t 5)⟩,⟨(some 7),(some (6,false)),(.faddr 0 (.t 1))⟩,⟨(some 8),(some (6,false)),(.load false 1 (.t 7))⟩,⟨(some 9),(some (6,false)),(.bin .eql false (.t 8) (.c (.int .i64 4)))⟩,⟨(some 10),(some (6,false)),(.mv (.t 9))⟩,⟨(some 11),(some (10,true)),(.faddr 4 (.t 1))⟩,⟨(some 12),(some (10,true)),(.load false 1 (.t 11))⟩,⟨(some 13),(some (10,true)),(.iaddr 5 (.t 12) (.c (.int .i64 0)))⟩,⟨(some 14),(some (10,true)),(.faddr 0 (.t 13))⟩,⟨(some 15),(some (10,true)),(.load false 1 (.t 14))⟩,⟨(some 16),(some (10,true)),(.bin .neq false (.t 15) (.c (.int .i64 3)))⟩,⟨(some 17),(some (6,false)),(.pick (.t 10) (.t 16) (.c (.bool false)))⟩,⟨some 18,none,.pick (.t 6) (.c (.bool true)) (.t 17)⟩]) (.cond (.t 18) (.seq (.reg [⟨some 2,none,.mv (.c (.bool false))⟩]) .ret) .skip)) (.seq (.reg [⟨some 19,none,.faddr 4 (.t 1)⟩,⟨some 20,none,.load false 1 (.t 19)⟩,⟨some 21,none,.call 76 [(.t 20),(.c (.fn 77 []))]⟩,⟨some 22,none,.un .not (.t 21)⟩,⟨some 2,none,.mv (.t 22)⟩]) .ret)))
theorem Cy:At Tryz.prog 36=some ⟨23,BV,[(.tmp 2)]⟩:=by kernel_rfl
theorem AH:modes 36=⟨[],.asis,none,false⟩:=by unfold modes; rfl
def Ea:SC:=(.seq (.reg [⟨some 1,none,.boxv 29 5 (.t 0)⟩,⟨some 2,none,.mv (.c (.bool false))⟩]) (.seq (.reg [⟨some 3,none,.load true 5 (.t 1)⟩,⟨some 4,none,.call 36 [(.t 3)]⟩,⟨some 5,none,.un .not (.t 4)⟩,⟨some 2,none,.mv (.t 5)⟩]) .ret))
theorem Hh:At Tryz.prog 77=some ⟨6,Ea,[(.tmp 2)]⟩:=by kernel_rfl
theorem Eb:modes 77=⟨[],.asis,none,false⟩:=by unfold modes; rfl
theorem Hi:IY Tryz.prog 77=true:=by kernel_rfl
def DO:SC:=(.seq (.reg [⟨some 1,none,.boxv 29 5 (.t 0)⟩,⟨some 2,none,.mv (.c (.bool false))⟩]) (.seq (.seq (.reg [⟨some 4,none,.faddr 0 (.t 1)⟩,⟨some 5,none,.load false 1 (.t 4)⟩,⟨some 6,none,.bin .eql false (.t 5) (.c (.int .i64 7))⟩,⟨some 7,none,.mv (.t 6)⟩,⟨(some 8),(some (7,false)),(.faddr 0 (.t 1))⟩,⟨(some 9),(some (7,false)),(.load false 1 (.t 8))⟩,⟨(some 10),(some (7,false)),(.bin .eql false (.t 9) (.c (.int .i64 4)))⟩,⟨(some 11),(some (7,false)),(.mv (.t 10))⟩,⟨(some 12),(some (11,true)),(.faddr 4 (.t 1))⟩,⟨(some 13),(some (11,true)),(.load false 1 (.t 12))⟩,⟨(some 14),(some (11,true)),(.iaddr 5 (.t 13) (.c (.int .i64 0)))⟩,⟨(some 15),(some (11,true)),(.faddr 0 (.t 14))⟩,⟨(some 16),(some (11,true)),(.load false 1 (.t 15))⟩,⟨(some 17),(some (11,true)),(.bin .neq false (.t 16) (.c (.int .i64 3)))⟩,⟨(some 18),(some (7,false)),(.pick (.t 11) (.t 17) (.c (.bool false)))⟩,⟨some 19,none,.pick (.t 7) (.c (.bool true)) (.t 18)⟩]) (.cond (.t 19) (.seq (.reg [⟨some 2,none,.mv (.c (.bool false))⟩]) .ret) .skip)) (.seq (.seq (.reg [⟨some 3,none,.mv (.c (.int .i64 0))⟩]) (.block 0 (.loop [0,1,0,1,0,0,0,0,0,0,0,0,0,0,0,0,0,0,0,0,0,0,0,0,0,0,0,0,0,0,0,0,0,0] (.seq (.seq (.reg [⟨some 20,none,.mv (.t 3)⟩,⟨some 21,none,.faddr 4 (.t 1)⟩,⟨some 22,none,.load false 1 (.t 21)⟩,⟨some 23,none,.len false (.t 22)⟩,⟨some 24,none,.bin .lss false (.t 20) (.t 23)⟩]) (.cond (.t 24) .skip (.exit 0))) (.seq (.block 1 (.seq (.reg [⟨some 27,none,.faddr 4 (.t 1)⟩,⟨some 28,none,.load false 1 (.t 27)⟩,⟨some 29,none,.mv (.t 3)⟩,⟨some 30,none,.iaddr 5 (.t 28) (.t 29)⟩,⟨some 31,none,.load true 5 (.t 30)⟩,⟨some 32,none,.call 47 [(.t 31)]⟩,⟨some 33,none,.un .not (.t 32)⟩]) (.cond (.t 33) (.seq (.reg [⟨some 2,none,.mv (.c (.bool false))⟩]) .ret) .skip))) (.reg [⟨some 25,none,.mv (.t 3)⟩,⟨some 26,none,.bin .add false (.t 25) (.c (.int .i64 1))⟩,⟨some 3,none,.mv (.t 26)⟩])))))) (.seq (.reg [⟨some 2,none,.mv (.c (.bool true))⟩]) .ret))))
theorem EN:At Tryz.prog 47=some ⟨34,DO,[(.tmp 2)]⟩:=by kernel_rfl
theorem Bj:modes 47=⟨[],.asis,none,false⟩:=by unfold modes; rfl
theorem Qb3 (x:Fm) (h:E 36 [x.sv] []=some (.bool x.isN,[])):E 77 [x.sv] []=some (.bool (!x.isN),[]):=by
 have hxs:x.sv=.agg [.int .i64 x.op,.str x.atom.name,.arr (x.atom.args.map Tm.d),.str x.var,.arr (x.parts.map Fm.d)]:=rfl
 refine Ai Hh Eb (of_decide_eq_true rfl) ?_
 simp (disch:=omega) only [Ea,go_sem,Ab,h,AH]
theorem Kb (x:Fm) (hx:x.forms=true) (hn:x.nodes≤1099511627776) (ih:∀ y∈x.parts,E 36 [y.sv] []=some (.bool y.isN,[])):E 36 [x.sv] []=some (.bool x.isN,[]):=by
 have hxs:x.sv=.agg [.int .i64 x.op,.str x.atom.name,.arr (x.atom.args.map Tm.d),.str x.var,.arr (x.parts.map Fm.d)]:=rfl
 have hfo:=Fm.Bo hx
 have hpl:=Fm.length_le x.parts
 have hnq:=Fm.nodes_eq x
 have hie:=Fm.V6 x
 have hcf:=GR 77 (fun y=>!y.isN) x.parts (by omega) Hi (by rw [Eb]) fun y hy=>Qb3 y (ih y hy)
 have hna:(x.parts.any fun y=>!y.isN)=!(x.parts.all Fm.isN):=by rw [List.not_all_eq_any_not]
 rw [hna] at hcf
 by_cases h7:x.op=7
 ·have o7:dec (x.op=7)=true:=Ar h7
  rw [hie,o7]
  simp only [Bool.true_or,yI,zA]
  refine Ai Cy AH (of_decide_eq_true rfl) ?_
  simp (disch:=omega) only [BV,go_sem,Ab,o7,hcf,Aa]
 have o7:dec (x.op=7)=false:=Aj h7
 by_cases h4:x.op=4
 ·have o4:dec (x.op=4)=true:=Ar h4
  obtain ⟨p,hp⟩:=Fm.LB hfo h4
  have hp:x.parts=[p]:=congrArg Fm.parts hp
  have hlt:0<x.parts.length:=by rw [hp]; simp
  have hg:=get_at Fm.d hlt
  have hx0:x.parts[0]=p:=by simp [hp]
  rw [hx0,Fm.d_eq] at hg
  have hh:(No x.parts).op=p.op:=by rw [hp]; rfl
  rw [hh,o7,o4] at hie
  by_cases hp3:p.op=3
  ·have hq3:(p.op=3)=True:=eq_true hp3
   have hd3:dec (p.op=3)=true:=Ar hp3
   rw [hd3] at hie
   simp only [yI,yB,yL,yG,zF] at hie
   rw [hie]
   refine Ai Cy AH (of_decide_eq_true rfl) ?_
   simp (disch:=omega) only [BV,go_sem,Ab,o7,o4,hg,hq3,hd3,yF,hcf,Aa]
   all_goals first | done | (rw [Bool.not_not])
  ·have hq3:(p.op=3)=False:=eq_false hp3
   have hd3:dec (p.op=3)=false:=Aj hp3
   rw [hd3] at hie
   simp only [yG,z7,Bool.or_true,yI,zA] at hie
   rw [hie]
   refine Ai Cy AH (of_decide_eq_true rfl) ?_
   simp (disch:=omega) only [BV,go_sem,Ab,o7,o4,hg,hq3,hd3,yF,hcf,Aa]
 have o4:dec (x.op=4)=false:=Aj h4
 rw [o7,o4] at hie
 simp only [zA,yL,yG,zF] at hie
 rw [hie]
 refine Ai Cy AH (of_decide_eq_true rfl) ?_
 simp (disch:=omega) only [BV,go_sem,Ab,o7,o4,hcf,Aa]
 all_goals first | done | (rw [Bool.not_not])
theorem GX (x:Fm) (hx:x.forms=true) (hn:x.nodes≤1099511627776):E 36 [x.sv] []=some (.bool x.isN,[]) :=
 Kb x hx hn fun y hy=>GX y (Fm.AQ hx hy) (by have:=Fm.nodes_mem hy; have:=Fm.nodes_eq x; omega)
termination_by SizeOf.sizeOf x
decreasing_by exact Fm.lt_of_mem hy
theorem V7 (x:Fm) (hx:x.forms=true) (hn:x.nodes≤1099511627776) (ih:∀ y∈x.parts,E 47 [y.sv] []=some (.bool y.isN,[])):E 47 [x.sv] []=some (.bool x.isN,[]):=by
 have hxs:x.sv=.agg [.int .i64 x.op,.str x.atom.name,.arr (x.atom.args.map Tm.d),.str x.var,.arr (x.parts.map Fm.d)]:=rfl
 have hfo:=Fm.Bo hx
 have hpl:=Fm.length_le x.parts
 have hnq:=Fm.nodes_eq x
 have hie:=Fm.V6 x
 by_cases h7:x.op=7
 ·have o7:dec (x.op=7)=true:=Ar h7
  rw [hie,o7]
  simp only [Bool.true_or,yI,zA]
  refine Ai EN Bj (of_decide_eq_true rfl) ?_
  simp (disch:=omega) only [DO,go_sem,Ab,o7]
 have o7:dec (x.op=7)=false:=Aj h7
 by_cases h4:x.op=4
 ·have o4:dec (x.op=4)=true:=Ar h4
  obtain ⟨p,hp⟩:=Fm.LB hfo h4
  have hp:x.parts=[p]:=congrArg Fm.parts hp
  have hlt:0<x.parts.length:=by rw [hp]; simp
  have hg:=get_at Fm.d hlt
  have hx0:x.parts[0]=p:=by simp [hp]
  rw [hx0,Fm.d_eq] at hg
  have hh:(No x.parts).op=p.op:=by rw [hp]; rfl
  rw [hh,o7,o4] at hie
  by_cases hp3:p.op=3
  ·have hq3:(p.op=3)=True:=eq_true hp3
   have hd3:dec (p.op=3)=true:=Ar hp3
   rw [hd3] at hie
   simp only [yI,yB,yL,yG,zF] at hie
   rw [hie]
   refine Ai EN Bj (of_decide_eq_true rfl) ?_
   simp (disch:=omega) only [DO,go_sem,Ab,o7,o4,hg,hq3,hd3,yF]
   refine go_loop (α:=Int) (fun a=>⟨slots 34 0 [(1,.ptr 0 0),(3,.int .i64 a)],[.box 29 [.int .i64 x.op,.str x.atom.name,.arr (x.atom.args.map Tm.d),.str x.var,.arr (x.parts.map Fm.d)]]⟩) (fun a=>∃ k:Nat,a=k∧k≤(x.parts).length∧(x.parts.drop k).all Fm.isN=x.parts.all Fm.isN) (fun a=>(x.parts).length-(a).toNat) 0 ⟨0,rfl,zK _,by rw [zI]⟩ (by simp (disch:=omega) only [go_sem,Ab]) ?_
   rintro i ⟨k,hi,hk,hR⟩
   have hni:i.toNat=k:=by omega
   have hni1:(i+1).toNat=k+1:=by omega
   rcases zC k (x.parts).length with hlt | hge
   ·have hg:=get_at Fm.d hlt
    rw [Fm.d_eq] at hg
    have hc:=ih x.parts[k] (zD hlt)
    rw [zB hlt,List.all_cons] at hR
    cases hp:x.parts[k].isN with
    | true =>
     rw [hp] at hc hR
     rw [zF] at hR
     simp (disch:=omega) only [go_sem,Ab,hni,hg,hc,Bj]
     exact ⟨i+1,⟨k+1,by omega,hlt,hR⟩,by omega,by first | trivial | rfl⟩
    | false =>
     rw [hp] at hc hR
     rw [zA] at hR
     rw [←hR]
     simp (disch:=omega) only [go_sem,Ab,hni,hg,hc,Bj]
   ·rw [zE hge,List.all_nil] at hR
    rw [←hR]
    simp (disch:=omega) only [go_sem,Ab,hni]
  ·have hq3:(p.op=3)=False:=eq_false hp3
   have hd3:dec (p.op=3)=false:=Aj hp3
   rw [hd3] at hie
   simp only [yG,z7,Bool.or_true,yI,zA] at hie
   rw [hie]
   refine Ai EN Bj (of_decide_eq_true rfl) ?_
   simp (disch:=omega) only [DO,go_sem,Ab,o7,o4,hg,hq3,hd3,yF]
 have o4:dec (x.op=4)=false:=Aj h4
 rw [o7,o4] at hie
 simp only [zA,yL,yG,zF] at hie
 rw [hie]
 refine Ai EN Bj (of_decide_eq_true rfl) ?_
 simp (disch:=omega) only [DO,go_sem,Ab,o7,o4]
 refine go_loop (α:=Int) (fun a=>⟨slots 34 0 [(1,.ptr 0 0),(3,.int .i64 a)],[.box 29 [.int .i64 x.op,.str x.atom.name,.arr (x.atom.args.map Tm.d),.str x.var,.arr (x.parts.map Fm.d)]]⟩) (fun a=>∃ k:Nat,a=k∧k≤(x.parts).length∧(x.parts.drop k).all Fm.isN=x.parts.all Fm.isN) (fun a=>(x.parts).length-(a).toNat) 0 ⟨0,rfl,zK _,by rw [zI]⟩ (by simp (disch:=omega) only [go_sem,Ab]) ?_
 rintro i ⟨k,hi,hk,hR⟩
 have hni:i.toNat=k:=by omega
 have hni1:(i+1).toNat=k+1:=by omega
 rcases zC k (x.parts).length with hlt | hge
 ·have hg:=get_at Fm.d hlt
  rw [Fm.d_eq] at hg
  have hc:=ih x.parts[k] (zD hlt)
  rw [zB hlt,List.all_cons] at hR
  cases hp:x.parts[k].isN with
  | true =>
   rw [hp] at hc hR
   rw [zF] at hR
   simp (disch:=omega) only [go_sem,Ab,hni,hg,hc,Bj]
   exact ⟨i+1,⟨k+1,by omega,hlt,hR⟩,by omega,by first | trivial | rfl⟩
  | false =>
   rw [hp] at hc hR
   rw [zA] at hR
   rw [←hR]
   simp (disch:=omega) only [go_sem,Ab,hni,hg,hc,Bj]
 ·rw [zE hge,List.all_nil] at hR
  rw [←hR]
  simp (disch:=omega) only [go_sem,Ab,hni]
theorem QY (x:Fm) (hx:x.forms=true) (hn:x.nodes≤1099511627776):E 47 [x.sv] []=some (.bool x.isN,[]) :=
 V7 x hx hn fun y hy=>QY y (Fm.AQ hx hy) (by have:=Fm.nodes_mem hy; have:=Fm.nodes_eq x; omega)
termination_by SizeOf.sizeOf x
decreasing_by exact Fm.lt_of_mem hy
noncomputable def Im (l:List Int) (n:Int) (e:TEnv) (E:ByteArray→Int):ByteArray→Int:=fun m=>match e m with
 | some t=>t.val l n E
 | none=>E m
section
variable {l:List Int} {n:Int}
theorem Zn (e:TEnv) (E:ByteArray→Int) (s:ByteArray) (t:Tm):Im l n (GQ e s t) E=upE (Im l n e E) s (t.val l n E):=by
 funext m
 unfold Im GQ
 by_cases h:m=s
 ·rw [Ar h,cond_true,h,T1]
 ·rw [Aj h,cond_false,JT h]
theorem Tm.Zo (e:TEnv) (E:ByteArray→Int) (hv:∀ m t,e m=some t→AS m=true) (x:Tm) (hx:x.names=true):(x.rv e).val l n E=x.val l n (Im l n e E):=by
 have ih:∀ y∈x.args,(y.rv e).val l n E=y.val l n (Im l n e E):=fun y hy=>Tm.Zo e E hv y (Tm.DS hx hy)
 rw [Tm.Pi,Tm.ID x]
 cases hb:AS x.name with
 | true =>
  rw [Tm.G2 hx hb,cond_true]
  show (((e x.name).getD (.mk x.name [])).val l n E)=_
  unfold Im
  cases he:e x.name with
  | some t=>rfl
  | none =>
   show (Tm.mk x.name []).val l n E=_
   rw [Tm.ID]
   show (bif AS x.name then E x.name else _)=_
   rw [hb]; rfl
 | false =>
  rw [cond_false]
  have hen:e x.name=none:=by
   cases he:e x.name with
   | none=>rfl
   | some t=>rw [hv _ _ he] at hb; cases hb
  cases ha:x.args with
  | nil =>
   show (((e x.name).getD (.mk x.name [])).val l n E)=_
   rw [hen]
   show (Tm.mk x.name []).val l n E=_
   rw [Tm.ID]
   show (bif AS x.name then E x.name else _)=_
   rw [hb]; rfl
  | cons a r =>
   show (Tm.mk x.name ((a :: r).map (Tm.rv e))).val l n E=_
   rw [Tm.ID,← ha]
   show (bif AS x.name then E x.name else (RU l x.name ((x.args.map (Tm.rv e)).map _)).tmod n)=_
   rw [hb,cond_false,zN]
   congr 2
   exact zW fun y hy=>ih y hy
termination_by SizeOf.sizeOf x
decreasing_by exact Tm.lt_of_mem hy
theorem QZ (e:TEnv) (E:ByteArray→Int) (hv:∀ m t,e m=some t→AS m=true) {a:Tm} (ha:a.atom=true):KW l n E (a.rv e)=KW l n (Im l n e E) a:=by
 have hnv:=Tm.Qau ha
 have hen:e a.name=none:=by
  cases he:e a.name with
  | none=>rfl
  | some t=>rw [hv _ _ he] at hnv; cases hnv
 have e1:a.rv e=.mk a.name (a.args.map (Tm.rv e)):=by
  rw [Tm.Pi]
  cases hargs:a.args with
  | nil=>show ((e a.name).getD (.mk a.name []))=_; rw [hen]; rfl
  | cons b r=>rfl
 rw [e1]
 unfold KW
 show (bif dec (a.name=_)&&dec ((a.args.map (Tm.rv e)).length=2) then _ else _)=_
 have e2:(Tm.mk a.name (a.args.map (Tm.rv e))).args.map (Tm.val l n E)=a.args.map (Tm.val l n (Im l n e E)):=by
  show (a.args.map (Tm.rv e)).map _=_
  rw [zN]
  exact zW fun y hy=>Tm.Zo e E hv y ((Tm.G3 ha).2 y hy)
 rw [e2,zV]
 rfl
def OkT (x:Fm) (e:TEnv):Prop:=∀ m t,e m=some t→AS m=true∧m ∉ x.qs∧∀ v∈t.vs,v ∉ x.qs
theorem Qb4 (us:List ByteArray):∀ v,v∈Tm.vsL (vT us)→v∈us:=by
 intro v hv
 obtain ⟨y,hy,hm⟩:=Tm.RO.1 hv
 obtain ⟨u,hu,rfl⟩:=yP.1 hy
 rw [Tm.QD] at hm
 cases hb:AS u with
 | true =>
  have hb':AS (Tm.mk u []).name=true:=hb
  rw [hb',cond_true] at hm
  simp only [yS] at hm
  rw [hm]; exact hu
 | false =>
  have hb':AS (Tm.mk u []).name=false:=hb
  rw [hb',cond_false] at hm
  cases hm
theorem IH {x p:Fm} (hp:p∈x.parts) {v:ByteArray} (h:v∈p.qs):v∈x.qs:=by
 rw [Fm.Nr]
 refine yJ.2 (.inr ?_)
 have key:∀ xs:List Fm,p∈xs→v∈Fm.qsL xs:=by
  intro xs
  induction xs with
  | nil=>intro h; cases h
  | cons y ys ih =>
   intro hm
   rw [Fm.qsL]
   rcases y0.1 hm with rfl | hm
   ·exact yJ.2 (.inl h)
   ·exact yJ.2 (.inr (ih hm))
 exact key _ hp
theorem Ra {p:Fm}:∀ {xs:List Fm},(Fm.qsL xs).Nodup→p∈xs→p.qs.Nodup
 | [],_,h=>by cases h
 | y :: ys,hn,h=>by
  rw [Fm.qsL] at hn
  rcases y0.1 h with rfl | h
  ·exact (yE.1 hn).1
  ·exact Ra (yE.1 hn).2.1 h
theorem Qa2 {m:Int} {f:Int→Bool} (k:Int) (h0:0≤k) (h1:k<m) (hf:f k=true):Ks 9 m f=true:=by
 unfold Ks
 rw [Aj (by decide),cond_false,List.any_eq_true]
 exact ⟨k.toNat,yR.2 (by omega),by rw [show ((k.toNat:Nat):Int)=k by omega]; exact hf⟩
theorem WA {m:Int} {f:Int→Bool}:Ks 8 m f=true ↔ ∀ k:Nat,k<m.toNat→f k=true:=by
 unfold Ks
 rw [Ar rfl,cond_true,zR]
 exact ⟨fun h k hk=>h k (yR.2 hk),fun h k hk=>h k (yR.1 hk)⟩
def RngE (E:ByteArray→Int):Prop:=∀ m,0≤E m∧E m≤65535
theorem RngE.up {E:ByteArray→Int} (h:RngE E) {s:ByteArray} {v:Int} (h0:0≤v) (h1:v≤65535):RngE (upE E s v):=by
 intro m
 unfold upE
 cases dec (m=s) with
 | true=>exact ⟨h0,h1⟩
 | false=>exact h m
theorem Fm.QaT (tk fr:List ByteArray) (hn:0<n) (hn2:n≤65535) (hpos:∀ (E:ByteArray→Int) (t:Tm),RngE E→AS t.name=false→0≤t.val l n E∧t.val l n E<n) (hsk:∀ c,AS (pre BL (fresh BL tk c))=false) (x:Fm) (hx:x.forms=true) (hN:x.isN=true) (hnd:x.qs.Nodup) :
  ∀ (ou:List ByteArray) (e:TEnv) (c:Int) (E:ByteArray→Int),RngE E→OkT x e→(∀ v∈fr++ou,v ∉ x.qs)→(x.sk tk fr ou e c).1.vt l n E=true→x.vt l n (Im l n e E)=true:=by
 have hf:=Fm.Bo hx
 rw [Fm.V6,zQ,Bool.not_eq_true',yM,zR] at hN
 obtain ⟨⟨h7,h4⟩,hNp⟩:=hN
 have ih:∀ p∈x.parts,∀ (ou:List ByteArray) (e:TEnv) (c:Int) (E:ByteArray→Int),RngE E→OkT p e→(∀ v∈fr++ou,v ∉ p.qs)→(p.sk tk fr ou e c).1.vt l n E=true→p.vt l n (Im l n e E)=true:=fun p hp =>
  Fm.QaT tk fr hn hn2 hpos hsk p (Fm.AQ hx hp) (hNp p hp) (by rw [Fm.Nr] at hnd; exact Ra (yE.1 hnd).2.1 hp)
 have okp:∀ p∈x.parts,∀ e,OkT x e→OkT p e:=fun p hp e h m t hm=>⟨(h m t hm).1,fun hq=>(h m t hm).2.1 (IH hp hq),fun v hv hq=>(h m t hm).2.2 v hv (IH hp hq)⟩
 intro ou e c E hEr hok hou
 have hvv:∀ m t,e m=some t→AS m=true:=fun m t hm=>(hok m t hm).1
 rcases Fm.W1 hf with ho | ho | ho | ho | ho | ho
 ·intro _; exact Fm.Qca ho
 ·rw [Fm.DL tk fr (by omega) (by omega) (by omega)]
  intro h
  rw [Fm.Qcb (x:=.mk x.op _ _ _) ho] at h
  cases h
 ·rw [Fm.F7 tk fr ho,Fm.YU (x:=.mk 3 _ _ _) rfl,Fm.YU ho]
  intro h
  rw [←QZ e E hvv (Fm.CZ hf ho).2.1]
  exact h
 ·obtain ⟨p,hp⟩:=Fm.W0 hf ho
  have hp3:p.op=3:=by
   rw [Ar ho,zF,Bool.not_eq_false'] at h4
   have:=Aw.1 h4
   rw [hp] at this
   exact this
  rw [Fm.DL tk fr (by omega) (by omega) (by omega),hp]
  simp only [A4]
  rw [Fm.F7 tk fr hp3]
  intro h
  rw [Fm.Qbu (x:=.mk x.op _ _ _) (p:=.mk 3 (p.atom.rv e) ⟨#[]⟩ []) ho rfl,Fm.YU (x:=.mk 3 _ _ _) rfl] at h
  rw [Fm.Qbu ho hp,Fm.YU hp3,← QZ e E hvv (Fm.CZ (Fm.Bo (Fm.AQ hx (by rw [hp]; simp))) hp3).2.1]
  exact h
 ·have ho7:¬ x.op=7:=F2.1 h7
  obtain ⟨p,q,hp⟩:=Fm.NO hf ho
  rw [Fm.DL tk fr (by omega) (by omega) (by omega),hp]
  simp only [A4]
  generalize hc1:(p.sk tk fr ou e c).2=c1
  intro h
  rw [Fm.YV (x:=.mk x.op _ _ _) (p:=(p.sk tk fr ou e c).1) (q:=(q.sk tk fr ou e c1).1) ho rfl] at h
  rw [Fm.YV ho hp]
  have hpm:p∈x.parts:=by rw [hp]; simp
  have hqm:q∈x.parts:=by rw [hp]; simp
  have i1:=ih p hpm ou e c E hEr (okp p hpm e hok) fun v hv hq=>hou v hv (IH hpm hq)
  have i2:=ih q hqm ou e c1 E hEr (okp q hqm e hok) fun v hv hq=>hou v hv (IH hqm hq)
  have h:Pb x.op ((p.sk tk fr ou e c).1.vt l n E) ((q.sk tk fr ou e c1).1.vt l n E)=true:=h
  unfold Pb at h ⊢
  by_cases h5:x.op=5
  ·rw [Ar h5,cond_true,zQ] at h ⊢
   exact ⟨i1 h.1,i2 h.2⟩
  ·have h6:x.op=6:=by omega
   rw [Aj h5,cond_false,Ar h6,cond_true,Bool.or_eq_true] at h ⊢
   exact h.imp i1 i2
 ·have hq:qB x.op=true:=by unfold qB; rcases ho with h | h <;> rw [h,Ar rfl] <;> simp
  obtain ⟨hvar,p,hp⟩:=Fm.Bu hf hq
  have hpm:p∈x.parts:=by rw [hp]; simp
  have hqs:x.qs=x.var :: p.qs:=by
   rw [Fm.Nr,hq,hp]
   show [x.var]++Fm.qsL [p]=_
   rw [Fm.qsL,Fm.qsL,z6]; rfl
  rw [hqs,List.nodup_cons] at hnd
  have hev:e x.var=none:=by
   cases he:e x.var with
   | none=>rfl
   | some t=>exact absurd (by rw [hqs]; simp) (hok _ _ he).2.1
  rcases ho with ho | ho
  ·rw [Fm.IG tk fr ho hp]
   intro h
   rw [Fm.YW (x:=.mk 8 _ _ _) (p:=(p.sk tk fr (ou++[x.var]) e c).1) (.inl rfl) rfl] at h
   rw [Fm.YW (.inl ho) hp,ho]
   have h:=WA.1 h
   refine WA.2 fun k hk=>?_
   have i1:=ih p hpm (ou++[x.var]) e c (upE E x.var k) (hEr.up (by omega) (by omega)) (okp p hpm e hok) (fun v hv hqv=>?_) (h k hk)
   ·have e1:Im l n e (upE E x.var k)=upE (Im l n e E) x.var k:=by
     funext m
     cases he:e m with
     | none =>
      have a:Im l n e (upE E x.var k) m=upE E x.var k m:=by unfold Im; rw [he]
      have b:Im l n e E m=E m:=by unfold Im; rw [he]
      rw [a]
      unfold upE
      rw [b]
     | some t =>
      have hm:=hok m t he
      have hne:m≠x.var:=fun e=>hm.2.1 (by rw [e,hqs]; simp)
      have a:Im l n e (upE E x.var k) m=t.val l n (upE E x.var k):=by unfold Im; rw [he]
      have b:Im l n e E m=t.val l n E:=by unfold Im; rw [he]
      rw [a,JT hne,b]
      exact Tm.T3 t fun v hv=>JT fun e=>hm.2.2 v hv (by rw [e,hqs]; simp)
    rw [←e1]
    exact i1
   ·rw [←zT] at hv
    rcases yJ.1 hv with hv | hv
    ·exact hou v hv (IH hpm hqv)
    ·simp only [yS] at hv
     rw [hv] at hqv
     exact hnd.1 hqv
  ·rw [Fm.Gw tk fr ho hp]
   intro h
   rw [Fm.YW (.inr ho) hp,ho]
   have hT:=hpos E (skT tk fr ou c) hEr (hsk c)
   refine Qa2 _ hT.1 hT.2 ?_
   rw [←Zn]
   refine ih p hpm ou (GQ e x.var (skT tk fr ou c)) _ E hEr (fun m t hm=>?_) (fun v hv hqv=>hou v hv (IH hpm hqv)) h
   unfold GQ at hm
   by_cases hmv:m=x.var
   ·rw [Ar hmv,cond_true] at hm
    obtain rfl:=yY hm
    refine ⟨by rw [hmv]; exact hvar,by rw [hmv]; exact hnd.1,fun v hv hqv=>?_⟩
    rw [Tm.QD] at hv
    have hnvb:AS (skT tk fr ou c).name=false:=hsk c
    rw [hnvb,cond_false] at hv
    exact hou v (Qb4 _ v hv) (IH hpm hqv)
   ·rw [Aj hmv,cond_false] at hm
    exact okp p hpm e hok m t hm
termination_by SizeOf.sizeOf x
decreasing_by exact Fm.lt_of_mem hp
end
def EO:SC:=(.seq (.reg [⟨some 2,none,.mv (.c (.int .i64 0))⟩]) (.seq (.reg [⟨some 3,none,.mv (.c (.int .i64 0))⟩]) (.seq (.seq (.dreg [[],[0],[1,0],[2,1,0],[],[4],[5,4],[6,5,4],[7,6,5,4],[3,2,1,0,8,7,6,5,4]] [⟨some 4,none,.mv (.t 0)⟩,⟨some 5,none,.nilchk (.t 4)⟩,⟨some 6,none,.faddr 1 (.t 5)⟩,⟨some 7,none,.load false 1 (.t 6)⟩,⟨some 8,none,.mv (.t 0)⟩,⟨some 9,none,.nilchk (.t 8)⟩,⟨some 10,none,.faddr 0 (.t 9)⟩,⟨some 11,none,.load false 1 (.t 10)⟩,⟨some 12,none,.len false (.t 11)⟩,⟨some 13,none,.bin .lss false (.t 7) (.t 12)⟩]) (.cond (.t 13) (.dreg [[],[0],[1,0],[2,1,0],[],[4],[5,4],[6,5,4],[3,2,1,0,7,6,5,4],[8,3,2,1,0,7,6,5,4],[9,8,3,2,1,0,7,6,5,4],[10,9,8,3,2,1,0,7,6,5,4]] [⟨some 14,none,.mv (.t 0)⟩,⟨some 15,none,.nilchk (.t 14)⟩,⟨some 16,none,.faddr 0 (.t 15)⟩,⟨some 17,none,.load false 1 (.t 16)⟩,⟨some 18,none,.mv (.t 0)⟩,⟨some 19,none,.nilchk (.t 18)⟩,⟨some 20,none,.faddr 1 (.t 19)⟩,⟨some 21,none,.load false 1 (.t 20)⟩,⟨some 22,none,.iaddr 1 (.t 17) (.t 21)⟩,⟨some 23,none,.load false 1 (.t 22)⟩,⟨some 24,none,.conv .i64 (.t 23)⟩,⟨some 3,none,.mv (.t 24)⟩]) .skip)) (.seq (.reg [⟨some 25,none,.mv (.t 0)⟩,⟨some 26,none,.nilchk (.t 25)⟩,⟨some 27,none,.faddr 1 (.t 26)⟩,⟨some 28,none,.load false 1 (.t 27)⟩,⟨some 29,none,.bin .add false (.t 28) (.c (.int .i64 1))⟩,⟨some 30,none,.nilchk (.t 25)⟩,⟨some 31,none,.faddr 1 (.t 30)⟩,⟨none,none,(.store 1 (.t 31) (.t 29))⟩]) (.seq (.reg [⟨some 32,none,.mv (.t 0)⟩,⟨some 33,none,.mv (.t 0)⟩,⟨some 34,none,.nilchk (.t 33)⟩,⟨some 35,none,.faddr 2 (.t 34)⟩,⟨some 36,none,.load false 1 (.t 35)⟩,⟨some 37,none,.bin .mul false (.t 36) (.c (.int .u64 6364136223846793005))⟩,⟨some 38,none,.mv (.t 3)⟩,⟨some 39,none,.conv .u64 (.t 38)⟩,⟨some 40,none,.bin .add false (.t 37) (.t 39)⟩,⟨some 41,none,.bin .add false (.t 40) (.c (.int .u64 892892))⟩,⟨some 42,none,.nilchk (.t 32)⟩,⟨some 43,none,.faddr 2 (.t 42)⟩,⟨none,none,(.store 1 (.t 43) (.t 41))⟩]) (.seq (.seq (.dreg [[],[0],[1,0],[2,1,0],[],[4],[5,4],[6,5,4],[7,6,5,4],[3,2,1,0,8,7,6,5,4]] [⟨some 44,none,.mv (.t 0)⟩,⟨some 45,none,.nilchk (.t 44)⟩,⟨some 46,none,.faddr 1 (.t 45)⟩,⟨some 47,none,.load false 1 (.t 46)⟩,⟨some 48,none,.mv (.t 0)⟩,⟨some 49,none,.nilchk (.t 48)⟩,⟨some 50,none,.faddr 0 (.t 49)⟩,⟨some 51,none,.load false 1 (.t 50)⟩,⟨some 52,none,.len false (.t 51)⟩,⟨some 53,none,.bin .leq false (.t 47) (.t 52)⟩]) (.cond (.t 53) (.seq (.reg [⟨some 54,none,.mv (.t 3)⟩,⟨some 2,none,.mv (.t 54)⟩]) .ret) .skip)) (.seq (.reg [⟨some 55,none,.mv (.t 0)⟩,⟨some 56,none,.nilchk (.t 55)⟩,⟨some 57,none,.faddr 2 (.t 56)⟩,⟨some 58,none,.load false 1 (.t 57)⟩,⟨some 59,none,.bin .shr false (.t 58) (.c (.int .u64 40))⟩,⟨some 60,none,.bin .and false (.t 59) (.c (.int .u64 255))⟩,⟨some 61,none,.conv .i64 (.t 60)⟩,⟨some 2,none,.mv (.t 61)⟩]) .ret)))))))
theorem Hw:At Tryz.prog 78=some ⟨62,EO,[(.tmp 2)]⟩:=by kernel_rfl
theorem EP:modes 78=⟨[],.asis,none,false⟩:=by unfold modes; rfl
def EQ:SC:=(.seq (.reg [⟨some 4,none,.mv (.c (.int .i64 0))⟩]) (.seq (.seq (.reg [⟨some 6,none,.mv (.t 1)⟩,⟨some 7,none,.bin .leq false (.t 6) (.c (.int .i64 1))⟩]) (.cond (.t 7) (.seq (.reg [⟨some 4,none,.mv (.c (.int .i64 0))⟩]) .ret) .skip)) (.seq (.reg [⟨some 8,none,.mv (.t 0)⟩,⟨some 9,none,.call 78 [(.t 8)]⟩,⟨some 5,none,.mv (.t 9)⟩]) (.seq (.seq (.reg [⟨some 10,none,.mv (.t 1)⟩,⟨some 11,none,.bin .gtr false (.t 10) (.c (.int .i64 200))⟩]) (.cond (.t 11) (.reg [⟨some 12,none,.mv (.t 5)⟩,⟨some 13,none,.bin .mul false (.t 12) (.c (.int .i64 256))⟩,⟨some 14,none,.mv (.t 0)⟩,⟨some 15,none,.call 78 [(.t 14)]⟩,⟨some 16,none,.bin .add false (.t 13) (.t 15)⟩,⟨some 5,none,.mv (.t 16)⟩]) .skip)) (.seq (.reg [⟨some 17,none,.mv (.t 5)⟩,⟨some 18,none,.mv (.t 1)⟩,⟨some 19,none,.bin .rem false (.t 17) (.t 18)⟩,⟨some 4,none,.mv (.t 19)⟩]) .ret)))))
theorem Hx:At Tryz.prog 38=some ⟨20,EQ,[(.tmp 4)]⟩:=by kernel_rfl
theorem As:modes 38=⟨[],.asis,none,false⟩:=by unfold modes; rfl
def Io:SC:=(.seq (.reg [⟨some 4,none,.mv (.c (.bool false))⟩]) (.seq (.reg [⟨some 5,none,.mv (.t 0)⟩,⟨some 6,none,.mv (.t 1)⟩,⟨some 7,none,.call 38 [(.t 5),(.t 6)]⟩,⟨some 8,none,.bin .eql false (.t 7) (.c (.int .i64 0))⟩,⟨some 4,none,.mv (.t 8)⟩]) .ret))
theorem MC:At Tryz.prog 40=some ⟨9,Io,[(.tmp 4)]⟩:=by kernel_rfl
theorem Az:modes 40=⟨[],.asis,none,false⟩:=by unfold modes; rfl
def IS:SC:=(.seq (.reg [⟨(some 4),none,(.mv (.c (.str ⟨#[]⟩)))⟩]) (.seq (.reg [⟨some 5,none,.mv (.t 1)⟩,⟨some 6,none,.mv (.t 0)⟩,⟨some 7,none,.mv (.t 1)⟩,⟨some 8,none,.len false (.t 7)⟩,⟨some 9,none,.call 38 [(.t 6),(.t 8)]⟩,⟨some 10,none,.iaddr 1 (.t 5) (.t 9)⟩,⟨some 11,none,.load false 1 (.t 10)⟩,⟨some 4,none,.mv (.t 11)⟩]) .ret))
theorem N7:At Tryz.prog 39=some ⟨12,IS,[(.tmp 4)]⟩:=by kernel_rfl
theorem A1:modes 39=⟨[],.asis,none,false⟩:=by unfold modes; rfl
def GY:SC:=(.seq (.reg [⟨some 4,none,.mv (.c (.int .i64 0))⟩]) (.seq (.reg [⟨some 5,none,.mv (.t 1)⟩,⟨some 6,none,.mv (.t 0)⟩,⟨some 7,none,.mv (.t 1)⟩,⟨some 8,none,.len false (.t 7)⟩,⟨some 9,none,.call 38 [(.t 6),(.t 8)]⟩,⟨some 10,none,.iaddr 1 (.t 5) (.t 9)⟩,⟨some 11,none,.load false 1 (.t 10)⟩,⟨some 4,none,.mv (.t 11)⟩]) .ret))
theorem Lb:At Tryz.prog 213=some ⟨12,GY,[(.tmp 4)]⟩:=by kernel_rfl
theorem CF:modes 213=⟨[],.asis,none,false⟩:=by unfold modes; rfl
theorem Qc0 {α:Type} {a:α} {Q:α→Prop}:(∃ out,a=out∧Q out)=Q a:=propext ⟨fun ⟨o,h,q⟩=>by subst h; exact q,fun q=>⟨a,rfl,q⟩⟩
attribute [go_sem] Qc0
abbrev by_ (b:Int):List D:=[D.byte b]
def Bytes (l:List Int):Prop:=∀ b∈l,0≤b∧b≤255
abbrev cur (l:List Int) (p s:Int):Ob:=.box 62 [.arr (l.map by_),.int .i64 p,.int .u64 s]
theorem Qb5 (a:Int):0≤bits .and .u64 a 255∧bits .and .u64 a 255≤255:=by
 have h:(BitVec.ofInt 64 a &&& BitVec.ofInt 64 255).toNat≤255:=by
  rw [BitVec.toNat_and]
  exact Nat.and_le_right
 have e:bits .and .u64 a 255=(((BitVec.ofInt 64 a &&& BitVec.ofInt 64 255).toNat:Nat):Int):=by
  show IntKind.u64.wrap _=_
  refine Sw ⟨?_,?_⟩
  ·show (0:Int)≤_; omega
  ·show _≤(18446744073709551615:Int)
   have:(BitVec.ofInt 64 a &&& BitVec.ofInt 64 255).toNat≤255:=h
   show (((BitVec.ofInt 64 a &&& BitVec.ofInt 64 255).toNat:Nat):Int)≤_
   omega
 rw [e]
 omega
theorem Qa3 (l:List Int) (hl:Bytes l) (hn:l.length≤1099511627776) (p s:Int) (hp0:0≤p) (hp:p≤1099511627776):∃ v s',E 78 [.ptr 0 0] [cur l p s]=some (.int .i64 v,[cur l (p+1) s'])∧0≤v∧v≤255:=by
 obtain ⟨Q,hQ⟩:∃ Q:SV × List Ob→Prop,Q=fun out=>∃ v s',out=(.int .i64 v,[cur l (p+1) s'])∧0≤v∧v≤255:=⟨_,rfl⟩
 suffices h:∃ out,E 78 [.ptr 0 0] [cur l p s]=some out∧Q out by
  obtain ⟨out,h1,h2⟩:=h
  rw [hQ] at h2
  obtain ⟨v,s',rfl,h3⟩:=h2
  exact ⟨v,s',h1,h3⟩
 by_cases hlt:p<l.length
 ·have hg:=get_at by_ (show p.toNat<l.length by omega)
  have hb:=hl _ (zD (show p.toNat<l.length by omega))
  have hi:dec (inK .i64 l[p.toNat])=true:=B9 (by omega) (by omega)
  have h1:(p<(l.length:Int))=True:=eq_true (by omega)
  have h2:(p+1≤(l.length:Int))=True:=eq_true (by omega)
  refine AL Hw EP (of_decide_eq_true rfl) ?_
  simp (disch:=omega) only [EO,go_sem,Ab,hg,hi,h1,h2]
  rw [hQ]
  exact ⟨_,_,rfl,hb⟩
 ·have h1:(p<(l.length:Int))=False:=eq_false (by omega)
  have h2:(p+1≤(l.length:Int))=False:=eq_false (by omega)
  have hb:=fun a=>Qb5 a
  have hi:∀ a,dec (inK .i64 (bits .and .u64 a 255))=true:=fun a=>B9 (by have:=hb a; omega) (by have:=hb a; omega)
  refine AL Hw EP (of_decide_eq_true rfl) ?_
  simp (disch:=omega) only [EO,go_sem,Ab,hi,h1,h2]
  rw [hQ]
  exact ⟨_,_,rfl,hb _⟩
theorem ER (l:List Int) (hl:Bytes l) (hn:l.length≤1099511627776) (n:Int) (h1:1≤n) (h2:n≤200) (p s:Int) (hp0:0≤p) (hp:p≤1099511627776):∃ v p' s',E 38 [.ptr 0 0,.int .i64 n] [cur l p s]=some (.int .i64 v,[cur l p' s'])∧(0≤v∧v<n)∧p≤p'∧p'≤p+1:=by
 by_cases hn1:n≤1
 ·refine ⟨0,p,s,?_,by omega,by omega,by omega⟩
  have q1:(n≤1)=True:=eq_true hn1
  refine Ai Hx As (of_decide_eq_true rfl) ?_
  simp (disch:=omega) only [EQ,go_sem,Ab,q1]
 ·obtain ⟨v,s',hv,hv1,hv2⟩:=Qa3 l hl hn p s hp0 hp
  have hm1:=Int.emod_nonneg v (show n≠0 by omega)
  have hm2:=Int.emod_lt_of_pos v (show 0<n by omega)
  have hm3:v.tmod n=v % n:=Int.tmod_eq_emod_of_nonneg hv1
  refine ⟨v.tmod n,p+1,s',?_,by omega,by omega,by omega⟩
  have q1:(n≤1)=False:=eq_false hn1
  have q2:(200<n)=False:=eq_false (by omega)
  have q3:(n=0)=False:=eq_false (by omega)
  refine Ai Hx As (of_decide_eq_true rfl) ?_
  simp (disch:=omega) only [EQ,go_sem,Ab,q1,q2,q3,hv,EP]
theorem LK (l:List Int) (hl:Bytes l) (hn:l.length≤1099511627776) (n:Int) (h1:1≤n) (h2:n≤200) (p s:Int) (hp0:0≤p) (hp:p≤1099511627776):∃ b p' s',E 40 [.ptr 0 0,.int .i64 n] [cur l p s]=some (.bool b,[cur l p' s'])∧p≤p'∧p'≤p+1:=by
 obtain ⟨v,p',s',hv,_,h3,h4⟩:=ER l hl hn n h1 h2 p s hp0 hp
 refine ⟨dec (v=0),p',s',?_,h3,h4⟩
 refine Ai MC Az (of_decide_eq_true rfl) ?_
 simp (disch:=omega) only [Io,go_sem,Ab,hv,As]
theorem TO (l:List Int) (hl:Bytes l) (hn:l.length≤1099511627776) (xs:List ByteArray) (h1:1≤xs.length) (h2:xs.length≤200) (p s:Int) (hp0:0≤p) (hp:p≤1099511627776):∃ x p' s',E 39 [.ptr 0 0,.arr (xs.map fun s=>[D.str s])] [cur l p s]=some (.str x,[cur l p' s'])∧x∈xs∧p≤p'∧p'≤p+1:=by
 obtain ⟨v,p',s',hv,⟨hv0,hv1⟩,h3,h4⟩:=ER l hl hn xs.length (by omega) (by omega) p s hp0 hp
 have hg:=get_at (fun s=>[D.str s]) (show v.toNat<xs.length by omega)
 refine ⟨xs[v.toNat],p',s',?_,zD _,h3,h4⟩
 refine Ai N7 A1 (of_decide_eq_true rfl) ?_
 simp (disch:=omega) only [IS,go_sem,Ab,hv,hg,As]
theorem Qa4 (l:List Int) (hl:Bytes l) (hn:l.length≤1099511627776) (xs:List Int) (h1:1≤xs.length) (h2:xs.length≤200) (p s:Int) (hp0:0≤p) (hp:p≤1099511627776):∃ x p' s',E 213 [.ptr 0 0,.arr (xs.map fun n=>[D.int n])] [cur l p s]=some (.int .i64 x,[cur l p' s'])∧x∈xs∧p≤p'∧p'≤p+1:=by
 obtain ⟨v,p',s',hv,⟨hv0,hv1⟩,h3,h4⟩:=ER l hl hn xs.length (by omega) (by omega) p s hp0 hp
 have hg:=get_at (fun n=>[D.int n]) (show v.toNat<xs.length by omega)
 refine ⟨xs[v.toNat],p',s',?_,zD _,h3,h4⟩
 refine Ai Lb CF (of_decide_eq_true rfl) ?_
 simp (disch:=omega) only [GY,go_sem,Ab,hv,hg,As]
def Ci:SC:=(.seq (.reg [⟨(some 4),none,(.alloc 26 [(.str ⟨#[]⟩),.nil])⟩]) (.seq (.seq (.reg [⟨some 5,none,.mv (.t 1)⟩,⟨some 6,none,.bin .leq false (.t 5) (.c (.int .i64 1))⟩,⟨some 7,none,.mv (.t 6)⟩,⟨(some 8),(some (7,false)),(.mv (.t 0))⟩,⟨(some 9),(some (7,false)),(.call 40 [(.t 8),(.c (.int .i64 3))])⟩,⟨some 10,none,.pick (.t 7) (.c (.bool true)) (.t 9)⟩]) (.cond (.t 10) (.seq (.reg [⟨some 11,none,.mv (.t 0)⟩,⟨(some 12),none,(.mkrow 9 1 [(.str ⟨#[]⟩)] 7 [(0,(.c (.str ⟨#[88]⟩))),(1,(.c (.str ⟨#[89]⟩))),(2,(.c (.str ⟨#[90]⟩))),(3,(.c (.str ⟨#[97]⟩))),(4,(.c (.str ⟨#[98]⟩))),(5,(.c (.str ⟨#[88]⟩))),(6,(.c (.str ⟨#[97]⟩)))])⟩,⟨some 13,none,.call 39 [(.t 11),(.t 12)]⟩,⟨(some 14),none,(.build [(.str ⟨#[]⟩),.nil] [(0,(1,(.t 13)))])⟩,⟨none,none,(.store 2 (.t 4) (.t 14))⟩]) .ret) .skip)) (.seq (.seq (.reg [⟨some 15,none,.mv (.t 0)⟩,⟨some 16,none,.call 40 [(.t 15),(.c (.int .i64 2))]⟩]) (.cond (.t 16) (.seq (.reg [⟨some 17,none,.mv (.t 0)⟩,⟨some 18,none,.mv (.t 1)⟩,⟨some 19,none,.bin .sub false (.t 18) (.c (.int .i64 1))⟩,⟨some 20,none,.call 214 [(.t 17),(.t 19)]⟩,⟨(some 21),none,(.mkrow 26 2 [(.str ⟨#[]⟩),.nil] 1 [(0,(.t 20))])⟩,⟨(some 22),none,(.build [(.str ⟨#[]⟩),.nil] [(0,(1,(.c (.str ⟨#[102]⟩)))),(1,(1,(.t 21)))])⟩,⟨none,none,(.store 2 (.t 4) (.t 22))⟩]) .ret) .skip)) (.seq (.reg [⟨some 23,none,.mv (.t 0)⟩,⟨some 24,none,.mv (.t 1)⟩,⟨some 25,none,.bin .sub false (.t 24) (.c (.int .i64 1))⟩,⟨some 26,none,.call 214 [(.t 23),(.t 25)]⟩,⟨some 27,none,.mv (.t 0)⟩,⟨some 28,none,.mv (.t 1)⟩,⟨some 29,none,.bin .sub false (.t 28) (.c (.int .i64 1))⟩,⟨some 30,none,.call 214 [(.t 27),(.t 29)]⟩,⟨(some 31),none,(.mkrow 26 2 [(.str ⟨#[]⟩),.nil] 2 [(0,(.t 26)),(1,(.t 30))])⟩,⟨(some 32),none,(.build [(.str ⟨#[]⟩),.nil] [(0,(1,(.c (.str ⟨#[103]⟩)))),(1,(1,(.t 31)))])⟩,⟨none,none,(.store 2 (.t 4) (.t 32))⟩]) .ret))))
theorem CG:At Tryz.prog 214=some ⟨33,Ci,[(.cell 4 true 2)]⟩:=by kernel_rfl
theorem AJ:modes 214=⟨[],.half [none,some (26,2)],none,false⟩:=by unfold modes; rfl
def Hy:SC:=(.seq (.reg [⟨(some 2),none,(.alloc 26 [(.str ⟨#[]⟩),.nil])⟩]) (.seq (.reg [⟨some 3,none,.mv (.t 0)⟩,⟨some 4,none,.mv (.t 0)⟩,⟨some 5,none,.call 38 [(.t 4),(.c (.int .i64 3))]⟩,⟨some 6,none,.bin .add false (.c (.int .i64 1)) (.t 5)⟩,⟨some 7,none,.call 214 [(.t 3),(.t 6)]⟩,⟨none,none,(.store 2 (.t 2) (.t 7))⟩]) .ret))
theorem LL:At Tryz.prog 162=some ⟨8,Hy,[(.cell 2 true 2)]⟩:=by kernel_rfl
theorem AM:modes 162=⟨[],.half [none,some (26,2)],none,false⟩:=by unfold modes; rfl
def Cc:SC:=(.seq (.reg [⟨(some 2),none,(.alloc 26 [(.str ⟨#[]⟩),.nil])⟩]) (.seq (.seq (.reg [⟨some 3,none,.mv (.t 0)⟩,⟨some 4,none,.call 38 [(.t 3),(.c (.int .i64 8))]⟩]) (.block 0 (.seq (.seq (.reg [⟨some 6,none,.bin .eql false (.t 4) (.c (.int .i64 0))⟩,⟨some 5,none,.mv (.t 6)⟩]) (.cond (.t 5) .skip (.reg [⟨some 7,none,.bin .eql false (.t 4) (.c (.int .i64 1))⟩,⟨some 5,none,.mv (.t 7)⟩]))) (.cond (.t 5) (.seq (.reg [⟨some 8,none,.mv (.t 0)⟩,⟨some 9,none,.call 162 [(.t 8)]⟩,⟨some 10,none,.mv (.t 0)⟩,⟨some 11,none,.call 162 [(.t 10)]⟩,⟨(some 12),none,(.mkrow 26 2 [(.str ⟨#[]⟩),.nil] 2 [(0,(.t 9)),(1,(.t 11))])⟩,⟨(some 13),none,(.build [(.str ⟨#[]⟩),.nil] [(0,(1,(.c (.str ⟨#[61]⟩)))),(1,(1,(.t 12)))])⟩,⟨none,none,(.store 2 (.t 2) (.t 13))⟩]) .ret) (.seq (.reg [⟨some 15,none,.bin .eql false (.t 4) (.c (.int .i64 2))⟩,⟨some 14,none,.mv (.t 15)⟩]) (.cond (.t 14) (.seq (.reg [⟨(some 16),none,(.build [(.str ⟨#[]⟩),.nil] [(0,(1,(.c (.str ⟨#[114]⟩))))])⟩,⟨none,none,(.store 2 (.t 2) (.t 16))⟩]) .ret) (.seq (.seq (.reg [⟨some 18,none,.bin .eql false (.t 4) (.c (.int .i64 3))⟩,⟨some 17,none,.mv (.t 18)⟩]) (.cond (.t 17) .skip (.reg [⟨some 19,none,.bin .eql false (.t 4) (.c (.int .i64 4))⟩,⟨some 17,none,.mv (.t 19)⟩]))) (.cond (.t 17) (.seq (.reg [⟨some 20,none,.mv (.t 0)⟩,⟨some 21,none,.call 214 [(.t 20),(.c (.int .i64 2))]⟩,⟨some 22,none,.mv (.t 0)⟩,⟨some 23,none,.call 214 [(.t 22),(.c (.int .i64 2))]⟩,⟨(some 24),none,(.mkrow 26 2 [(.str ⟨#[]⟩),.nil] 2 [(0,(.t 21)),(1,(.t 23))])⟩,⟨(some 25),none,(.build [(.str ⟨#[]⟩),.nil] [(0,(1,(.c (.str ⟨#[113]⟩)))),(1,(1,(.t 24)))])⟩,⟨none,none,(.store 2 (.t 2) (.t 25))⟩]) .ret) .skip)))))))) (.seq (.reg [⟨some 26,none,.mv (.t 0)⟩,⟨some 27,none,.call 214 [(.t 26),(.c (.int .i64 2))]⟩,⟨(some 28),none,(.mkrow 26 2 [(.str ⟨#[]⟩),.nil] 1 [(0,(.t 27))])⟩,⟨(some 29),none,(.build [(.str ⟨#[]⟩),.nil] [(0,(1,(.c (.str ⟨#[112]⟩)))),(1,(1,(.t 28)))])⟩,⟨none,none,(.store 2 (.t 2) (.t 29))⟩]) .ret)))
theorem Cz:At Tryz.prog 212=some ⟨30,Cc,[(.cell 2 true 2)]⟩:=by kernel_rfl
theorem AV:modes 212=⟨[],.half [none,some (26,2)],none,false⟩:=by unfold modes; rfl
def Tm.oh (x:Tm):List OT:=[.str x.name,.ow (x.args.map Tm.osh)]
theorem Tm.Zp (x:Tm):x.oh=[.str x.name,.ow (x.args.map Tm.osh)]:=rfl
theorem Tm.TP:∀ xs:List Tm,OT.C3 (xs.map Tm.osh)=xs.map Tm.osh
 | []=>rfl
 | x :: xs=>by rw [zG,Tm.osh_eq]; simp only [OT.C3,OT.Jk,OT.half,Tm.TP xs]
theorem Tm.WB:∀ xs:List Tm,OT.AA (xs.map Tm.oh)=true
 | []=>rfl
 | x :: xs=>by rw [zG,Tm.Zp]; simp only [OT.AA,OT.C1,OT.full,Tm.osh_full,Tm.WB xs,yZ]
theorem Tm.WC:∀ xs:List Tm,OT.C3 (xs.map Tm.oh)=xs.map Tm.osh
 | []=>rfl
 | x :: xs=>by rw [zG,zG,Tm.Zp,Tm.osh_eq]; simp only [OT.C3,OT.Jk,OT.half,Tm.osh_er,Tm.WC xs]
theorem Tm.QaU:∀ xs:List Tm,OT.erss (xs.map Tm.oh)=xs.map Tm.d
 | []=>rfl
 | x :: xs=>by rw [zG,zG,Tm.Zp,Tm.d_eq]; simp only [OT.erss,OT.ers,OT.er,Tm.osh_er,Tm.QaU xs]
theorem Tm.V8:∀ xs:List Tm,OT.C3 (xs.map Tm.o)=xs.map Tm.osh
 | []=>rfl
 | x :: xs=>by rw [zG,zG,Tm.o_eq,Tm.osh_eq]; simp only [OT.C3,OT.Jk,OT.half,Tm.erss,Tm.V8 xs]
theorem OT.Pp:∀ a b:List (List OT),OT.AA (a++b)=(OT.AA a&&OT.AA b)
 | [],b=>by simp [OT.AA]
 | x :: a,b=>by simp only [yH,OT.AA,OT.Pp a b,Bool.and_assoc]
theorem OT.Pq:∀ a b:List (List OT),OT.C3 (a++b)=OT.C3 a++OT.C3 b
 | [],b=>by simp [OT.C3]
 | x :: a,b=>by simp only [yH,OT.C3,OT.Pq a b]
theorem OT.TQ:∀ a b:List (List OT),OT.erss (a++b)=OT.erss a++OT.erss b
 | [],b=>by simp [OT.erss]
 | x :: a,b=>by simp only [yH,OT.erss,OT.TQ a b]
attribute [go_sem] OT.Pp OT.Pq OT.TQ Tm.osh_full Tm.osh_er Tm.TP Tm.WB Tm.QaU Tm.WC Tm.V8
abbrev tmH (t:Tm) (g:Nat):SV:=.agg [.str t.name,.ref g]
abbrev MD (t:Tm):Ob:=.row 26 2 (t.args.map Tm.osh)
theorem Sa (l:List Int) (hl:Bytes l) (hn:l.length≤1099511627776):∀ (d:Nat) (m:Int),m=d→d≤20→∀ p s:Int,0≤p→p+(4*2 ^ d:Nat)≤1099000000000→∃ t p' s',E 214 [.ptr 0 0,.int .i64 m] [cur l p s]=some (tmH t 1,[cur l p' s',MD t])∧(p≤p'∧p'+2≤p+(4*2 ^ d:Nat))∧t.nodes+1≤2*2 ^ d:=by
 intro d
 have leaf:∀ (p1 s1:Int),0≤p1→p1≤1099500000000→∃ x p2 s2,E 39 [.ptr 0 0,.arr [[D.str ⟨#[88]⟩],[D.str ⟨#[89]⟩],[D.str ⟨#[90]⟩],[D.str ⟨#[97]⟩],[D.str ⟨#[98]⟩],[D.str ⟨#[88]⟩],[D.str ⟨#[97]⟩]]] [cur l p1 s1]=some (.str x,[cur l p2 s2])∧p1≤p2∧p2≤p1+1:=fun p1 s1 a b=>by
  obtain ⟨x,p2,s2,ho,_,h2,h3⟩:=TO l hl hn [⟨#[88]⟩,⟨#[89]⟩,⟨#[90]⟩,⟨#[97]⟩,⟨#[98]⟩,⟨#[88]⟩,⟨#[97]⟩] (by decide) (by decide) p1 s1 a (by omega)
  simp only [zG,zP] at ho
  exact ⟨x,p2,s2,ho,h2,h3⟩
 have n1:∀ x,(Tm.mk x []).nodes=1:=fun x=>by rw [Tm.nodes_eq]; rfl
 induction d with
 | zero =>
  rintro m rfl _ p s h0 h1
  rw [show 2 ^ 0=1 by rfl] at h1
  obtain ⟨x,p1,s1,ho,h2,h3⟩:=leaf p s h0 (by omega)
  rw [show 2 ^ 0=1 by rfl]
  obtain ⟨Q,hQ⟩:∃ Q:SV × List Ob→Prop,Q=fun out=>∃ t p' s',out=(tmH t 1,[cur l p' s',MD t])∧(p≤p'∧p'+2≤p+(4*1:Nat))∧t.nodes+1≤2*1:=⟨_,rfl⟩
  suffices hq0:∃ out,E 214 [.ptr 0 0,.int .i64 ((0:Nat):Int)] [cur l p s]=some out∧Q out by
   obtain ⟨out,hq1,hq2⟩:=hq0
   rw [hQ] at hq2
   obtain ⟨t,p',s',rfl,hq3⟩:=hq2
   exact ⟨t,p',s',hq1,hq3⟩
  refine AL CG AJ (of_decide_eq_true rfl) ?_
  simp (disch:=omega) only [Ci,go_sem,Ab,ho,A1]
  rw [hQ]
  exact ⟨.mk x [],p1,s1,rfl,by omega,by rw [n1]; decide⟩
 | succ e ih =>
  intro m hm hd p s h0 h1
  have hpe:2 ^ (e+1)=2*2 ^ e:=by rw [Nat.pow_succ,Nat.mul_comm]
  have hp1:1≤2 ^ e:=Nat.one_le_two_pow
  have hp2:2 ^ e≤2 ^ 20:=Nat.pow_le_pow_right (by omega) (by omega)
  have hp3:(2:Nat) ^ 20=1048576:=by decide
  have ih:=ih (m-1) (by omega) (by omega)
  rw [hpe] at h1 ⊢
  generalize 2 ^ e=q at *
  generalize hq2:2*q=q2 at *
  obtain ⟨Q,hQ⟩:∃ Q:SV × List Ob→Prop,Q=fun out=>∃ t p' s',out=(tmH t 1,[cur l p' s',MD t])∧(p≤p'∧p'+2≤p+(4*q2:Nat))∧t.nodes+1≤2*q2:=⟨_,rfl⟩
  suffices hq0:∃ out,E 214 [.ptr 0 0,.int .i64 m] [cur l p s]=some out∧Q out by
   obtain ⟨out,hq1,hq2⟩:=hq0
   rw [hQ] at hq2
   obtain ⟨t,p',s',rfl,hq3⟩:=hq2
   exact ⟨t,p',s',hq1,hq3⟩
  by_cases hm1:m≤1
  ·have q1:(m≤1)=True:=eq_true hm1
   obtain ⟨x,p1,s1,ho,h2,h3⟩:=leaf p s h0 (by omega)
   refine AL CG AJ (of_decide_eq_true rfl) ?_
   simp (disch:=omega) only [Ci,go_sem,Ab,ho,q1,A1]
   rw [hQ]
   exact ⟨.mk x [],p1,s1,rfl,by omega,by rw [n1]; omega⟩
  ·have q1:(m≤1)=False:=eq_false hm1
   obtain ⟨b1,p1,s1,hb1,g1,g2⟩:=LK l hl hn 3 (by omega) (by omega) p s h0 (by omega)
   cases b1 with
   | true =>
    obtain ⟨x,p2,s2,ho,h2,h3⟩:=leaf p1 s1 (by omega) (by omega)
    refine AL CG AJ (of_decide_eq_true rfl) ?_
    simp (disch:=omega) only [Ci,go_sem,Ab,q1,hb1,ho,A1,Az]
    rw [hQ]
    exact ⟨.mk x [],p2,s2,rfl,by omega,by rw [n1]; omega⟩
   | false =>
    obtain ⟨b2,p2,s2,hb2,g3,g4⟩:=LK l hl hn 2 (by omega) (by omega) p1 s1 (by omega) (by omega)
    obtain ⟨t3,p3,s3,h3,⟨g5,g6⟩,g7⟩:=ih p2 s2 (by omega) (by omega)
    cases b2 with
    | true =>
     have e1:(Tm.mk ⟨#[102]⟩ [t3]).nodes=1+(t3.nodes+0):=by rw [Tm.nodes_eq]; rfl
     refine AL CG AJ (of_decide_eq_true rfl) ?_
     simp (disch:=omega) only [Ci,go_sem,Ab,q1,hb1,hb2,h3,A1,Az,AJ]
     rw [hQ]
     exact ⟨.mk ⟨#[102]⟩ [t3],p3,s3,rfl,by omega,by rw [e1]; omega⟩
    | false =>
     obtain ⟨t4,p4,s4,h4,⟨g8,g9⟩,g10⟩:=ih p3 s3 (by omega) (by omega)
     have e1:(Tm.mk ⟨#[103]⟩ [t3,t4]).nodes=1+(t3.nodes+(t4.nodes+0)):=by rw [Tm.nodes_eq]; rfl
     refine AL CG AJ (of_decide_eq_true rfl) ?_
     simp (disch:=omega) only [Ci,go_sem,Ab,q1,hb1,hb2,h3,h4,A1,Az,AJ]
     rw [hQ]
     exact ⟨.mk ⟨#[103]⟩ [t3,t4],p4,s4,rfl,by omega,by rw [e1]; omega⟩
theorem ME (l:List Int) (hl:Bytes l) (hn:l.length≤1099511627776) (p s:Int) (h0:0≤p) (h1:p≤1098000000000):∃ t p' s',E 162 [.ptr 0 0] [cur l p s]=some (tmH t 1,[cur l p' s',MD t])∧(p≤p'∧p'≤p+40)∧t.nodes≤20:=by
 obtain ⟨v,p1,s1,hv,⟨v0,v1⟩,g1,g2⟩:=ER l hl hn 3 (by omega) (by omega) p s h0 (by omega)
 have hp3:(2:Nat) ^ (1+v).toNat≤2 ^ 3:=Nat.pow_le_pow_right (by omega) (by omega)
 obtain ⟨t,p2,s2,ht,⟨g3,g4⟩,g5⟩:=Sa l hl hn (1+v).toNat (1+v) (by omega) (by omega) p1 s1 (by omega) (by omega)
 have hp4:(2:Nat) ^ 3=8:=by decide
 refine ⟨t,p2,s2,?_,by omega,by omega⟩
 have hi:dec (inK .i64 (1+v))=true:=B9 (by omega) (by omega)
 refine Ai LL AM (of_decide_eq_true rfl) ?_
 simp (disch:=omega) only [Hy,go_sem,Ab,hv,ht,hi,As,AJ]
theorem Qb6 (l:List Int) (hl:Bytes l) (hn:l.length≤1099511627776) (p s:Int) (h0:0≤p) (h1:p≤1097000000000):∃ t p' s',E 212 [.ptr 0 0] [cur l p s]=some (tmH t 1,[cur l p' s',MD t])∧(p≤p'∧p'≤p+100)∧t.nodes≤50:=by
 obtain ⟨Q,hQ⟩:∃ Q:SV × List Ob→Prop,Q=fun out=>∃ t p' s',out=(tmH t 1,[cur l p' s',MD t])∧(p≤p'∧p'≤p+100)∧t.nodes≤50:=⟨_,rfl⟩
 suffices hq0:∃ out,E 212 [.ptr 0 0] [cur l p s]=some out∧Q out by
  obtain ⟨out,hq1,hq2⟩:=hq0
  rw [hQ] at hq2
  obtain ⟨t,p',s',rfl,hq3⟩:=hq2
  exact ⟨t,p',s',hq1,hq3⟩
 have hp4:(2:Nat) ^ 2=4:=by decide
 have e1:∀ x a,(Tm.mk x [a]).nodes=1+(a.nodes+0):=fun x a=>by rw [Tm.nodes_eq]; rfl
 have e2:∀ x a b,(Tm.mk x [a,b]).nodes=1+(a.nodes+(b.nodes+0)):=fun x a b=>by rw [Tm.nodes_eq]; rfl
 obtain ⟨v,p1,s1,hv,⟨v0,v1⟩,g1,g2⟩:=ER l hl hn 8 (by omega) (by omega) p s h0 (by omega)
 obtain ⟨ta,p2,s2,ha,⟨a3,a4⟩,a5⟩:=ME l hl hn p1 s1 (by omega) (by omega)
 obtain ⟨tb,p3,s3,hb,⟨b3,b4⟩,b5⟩:=ME l hl hn p2 s2 (by omega) (by omega)
 obtain ⟨tc,p4,s4,hc,⟨c3,c4⟩,c5⟩:=Sa l hl hn 2 2 rfl (by omega) p1 s1 (by omega) (by omega)
 obtain ⟨td,p5,s5,hd,⟨d3,d4⟩,d5⟩:=Sa l hl hn 2 2 rfl (by omega) p4 s4 (by omega) (by omega)
 rw [hp4] at c4 c5 d4 d5
 rcases (show v=0∨v=1∨v=2∨v=3∨v=4∨(¬ v=0∧¬ v=1∧¬ v=2∧¬ v=3∧¬ v=4) by omega) with rfl | rfl | rfl | rfl | rfl | ⟨k0,k1,k2,k3,k4⟩
 ·refine AL Cz AV (of_decide_eq_true rfl) ?_
  simp (disch:=omega) only [Cc,go_sem,Ab,hv,ha,hb,hc,hd,As,AJ,AM]
  rw [hQ]
  exact ⟨.mk ⟨#[61]⟩ [ta,tb],p3,s3,rfl,by omega,by rw [e2]; omega⟩
 ·refine AL Cz AV (of_decide_eq_true rfl) ?_
  simp (disch:=omega) only [Cc,go_sem,Ab,hv,ha,hb,hc,hd,As,AJ,AM]
  rw [hQ]
  exact ⟨.mk ⟨#[61]⟩ [ta,tb],p3,s3,rfl,by omega,by rw [e2]; omega⟩
 ·refine AL Cz AV (of_decide_eq_true rfl) ?_
  simp (disch:=omega) only [Cc,go_sem,Ab,hv,ha,hb,hc,hd,As,AJ,AM]
  rw [hQ]
  exact ⟨.mk ⟨#[114]⟩ [],p1,s1,rfl,by omega,by rw [Tm.nodes_eq]; show 1+0≤_; omega⟩
 ·refine AL Cz AV (of_decide_eq_true rfl) ?_
  simp (disch:=omega) only [Cc,go_sem,Ab,hv,ha,hb,hc,hd,As,AJ,AM]
  rw [hQ]
  exact ⟨.mk ⟨#[113]⟩ [tc,td],p5,s5,rfl,by omega,by rw [e2]; omega⟩
 ·refine AL Cz AV (of_decide_eq_true rfl) ?_
  simp (disch:=omega) only [Cc,go_sem,Ab,hv,ha,hb,hc,hd,As,AJ,AM]
  rw [hQ]
  exact ⟨.mk ⟨#[113]⟩ [tc,td],p5,s5,rfl,by omega,by rw [e2]; omega⟩
 ·have k0:=eq_false k0
  have k1:=eq_false k1
  have k2:=eq_false k2
  have k3:=eq_false k3
  have k4:=eq_false k4
  refine AL Cz AV (of_decide_eq_true rfl) ?_
  simp (disch:=omega) only [Cc,go_sem,Ab,hv,hc,k0,k1,k2,k3,k4,As,AJ,AM]
  rw [hQ]
  exact ⟨.mk ⟨#[112]⟩ [tc],p4,s4,rfl,by omega,by rw [e1]; omega⟩
def GZ:SC:=(.seq (.reg [⟨(some 4),none,(.alloc 26 [(.str ⟨#[]⟩),.nil])⟩]) (.seq (.reg [⟨some 6,none,.mv (.t 0)⟩,⟨(some 7),none,(.mkrow 9 1 [(.str ⟨#[]⟩)] 2 [(0,(.c (.str ⟨#[88]⟩))),(1,(.c (.str ⟨#[97]⟩)))])⟩,⟨some 8,none,.call 39 [(.t 6),(.t 7)]⟩,⟨(some 9),none,(.build [(.str ⟨#[]⟩),.nil] [(0,(1,(.t 8)))])⟩,⟨(some 5),none,(.alloc 26 [(.str ⟨#[]⟩),.nil])⟩,⟨none,none,(.store 2 (.t 5) (.t 9))⟩]) (.seq (.block 0 (.loop [0,1,0,0,1,1,0,0,0,0,0,0,0,0,0,0,0,0] (.seq (.seq (.reg [⟨some 10,none,.mv (.t 1)⟩,⟨some 11,none,.bin .gtr false (.t 10) (.c (.int .i64 1))⟩]) (.cond (.t 11) .skip (.exit 0))) (.seq (.block 1 (.reg [⟨some 14,none,.load true 2 (.t 5)⟩,⟨(some 15),none,(.mkrow 26 2 [(.str ⟨#[]⟩),.nil] 1 [(0,(.t 14))])⟩,⟨(some 16),none,(.build [(.str ⟨#[]⟩),.nil] [(0,(1,(.c (.str ⟨#[102]⟩)))),(1,(1,(.t 15)))])⟩,⟨none,none,(.store 2 (.t 5) (.t 16))⟩])) (.reg [⟨some 12,none,.mv (.t 1)⟩,⟨some 13,none,.bin .sub false (.t 12) (.c (.int .i64 1))⟩,⟨some 1,none,.mv (.t 13)⟩]))))) (.seq (.reg [⟨some 17,none,.load true 2 (.t 5)⟩,⟨none,none,(.store 2 (.t 4) (.t 17))⟩]) .ret))))
theorem Lc:At Tryz.prog 163=some ⟨18,GZ,[(.cell 4 true 2)]⟩:=by kernel_rfl
theorem BB:modes 163=⟨[],.half [none,some (26,2)],none,false⟩:=by unfold modes; rfl
def Hz:SC:=(.seq (.reg [⟨(some 2),none,(.alloc 26 [(.str ⟨#[]⟩),.nil])⟩]) (.seq (.reg [⟨(some 7),none,(.build [(.str ⟨#[]⟩),.nil] [(0,(1,(.c (.str ⟨#[103]⟩))))])⟩,⟨(some 3),none,(.alloc 26 [(.str ⟨#[]⟩),.nil])⟩,⟨none,none,(.store 2 (.t 3) (.t 7))⟩]) (.seq (.seq (.reg [⟨some 4,none,.mv (.c (.int .i64 0))⟩]) (.block 0 (.loop [1,0,1,1,1,0,0,0,0,0,0,0,0,0,0,0,0,0,0,0,0,0,0,0,0,0,0,0,0,0,0,0,0,0,0,0,0,0,0,0,0,0,0,0,0,0,0,0,0,0,0,0,0,0] (.seq (.seq (.reg [⟨some 8,none,.mv (.t 4)⟩,⟨some 9,none,.bin .lss false (.t 8) (.c (.int .i64 4))⟩]) (.cond (.t 9) .skip (.exit 0))) (.seq (.block 1 (.seq (.reg [⟨(some 12),none,(.build [(.str ⟨#[]⟩),.nil] [(0,(1,(.c (.str ⟨#[104]⟩))))])⟩,⟨(some 5),none,(.alloc 26 [(.str ⟨#[]⟩),.nil])⟩,⟨none,none,(.store 2 (.t 5) (.t 12))⟩]) (.seq (.seq (.reg [⟨some 6,none,.mv (.c (.int .i64 0))⟩]) (.block 2 (.loop [1,0,1,1,1,1,1,0,0,0,0,0,0,0,0,0,0,0,0,0,0,0,0,0,0,0,0,0,0,0,0,0,0,0,0,0,0,0,0,0,0,0,0,0,0,0,0,0,0,0,0,0,0,0] (.seq (.seq (.reg [⟨some 13,none,.mv (.t 6)⟩,⟨some 14,none,.bin .lss false (.t 13) (.c (.int .i64 4))⟩]) (.cond (.t 14) .skip (.exit 2))) (.seq (.block 3 (.reg [⟨some 17,none,.faddr 1 (.t 5)⟩,⟨some 18,none,.load false 1 (.t 17)⟩,⟨(some 19),none,(.build [(.str ⟨#[]⟩),.nil] [(0,(1,(.c (.str ⟨#[97]⟩))))])⟩,⟨(some 20),none,(.mkrow 26 2 [(.str ⟨#[]⟩),.nil] 1 [(0,(.t 19))])⟩,⟨(some 21),none,(.build [(.str ⟨#[]⟩),.nil] [(0,(1,(.c (.str ⟨#[102]⟩)))),(1,(1,(.t 20)))])⟩,⟨(some 22),none,(.mkrow 26 2 [(.str ⟨#[]⟩),.nil] 1 [(0,(.t 21))])⟩,⟨(some 23),none,(.append 26 2 40 [(.str ⟨#[]⟩),.nil] (.t 18) (.t 22))⟩,⟨some 24,none,.faddr 1 (.t 5)⟩,⟨none,none,(.store 1 (.t 24) (.t 23))⟩])) (.reg [⟨some 15,none,.mv (.t 6)⟩,⟨some 16,none,.bin .add false (.t 15) (.c (.int .i64 1))⟩,⟨some 6,none,.mv (.t 16)⟩])))))) (.reg [⟨some 25,none,.faddr 1 (.t 3)⟩,⟨some 26,none,.load false 1 (.t 25)⟩,⟨some 27,none,.load true 2 (.t 5)⟩,⟨(some 28),none,(.mkrow 26 2 [(.str ⟨#[]⟩),.nil] 1 [(0,(.t 27))])⟩,⟨(some 29),none,(.append 26 2 40 [(.str ⟨#[]⟩),.nil] (.t 26) (.t 28))⟩,⟨some 30,none,.faddr 1 (.t 3)⟩,⟨none,none,(.store 1 (.t 30) (.t 29))⟩])))) (.reg [⟨some 10,none,.mv (.t 4)⟩,⟨some 11,none,.bin .add false (.t 10) (.c (.int .i64 1))⟩,⟨some 4,none,.mv (.t 11)⟩])))))) (.seq (.seq (.reg [⟨some 31,none,.mv (.t 0)⟩,⟨some 32,none,.call 40 [(.t 31),(.c (.int .i64 2))]⟩]) (.cond (.t 32) (.reg [⟨some 33,none,.faddr 1 (.t 3)⟩,⟨some 34,none,.load false 1 (.t 33)⟩,⟨some 35,none,.slice false 2 (.t 34) none (some (.c (.int .i64 3)))⟩,⟨some 36,none,.faddr 1 (.t 3)⟩,⟨none,none,(.store 1 (.t 36) (.t 35))⟩]) .skip)) (.seq (.seq (.reg [⟨some 37,none,.mv (.t 0)⟩,⟨some 38,none,.call 40 [(.t 37),(.c (.int .i64 2))]⟩,⟨some 39,none,.mv (.t 38)⟩,⟨(some 40),(some (39,true)),(.faddr 1 (.t 3))⟩,⟨(some 41),(some (39,true)),(.load false 1 (.t 40))⟩,⟨(some 42),(some (39,true)),(.len false (.t 41))⟩,⟨(some 43),(some (39,true)),(.bin .eql false (.t 42) (.c (.int .i64 3)))⟩,⟨some 44,none,.pick (.t 39) (.t 43) (.c (.bool false))⟩]) (.cond (.t 44) (.reg [⟨some 45,none,.faddr 1 (.t 3)⟩,⟨some 46,none,.load false 1 (.t 45)⟩,⟨(some 47),none,(.build [(.str ⟨#[]⟩),.nil] [(0,(1,(.c (.str ⟨#[98]⟩))))])⟩,⟨(some 48),none,(.mkrow 26 2 [(.str ⟨#[]⟩),.nil] 1 [(0,(.t 47))])⟩,⟨(some 49),none,(.build [(.str ⟨#[]⟩),.nil] [(0,(1,(.c (.str ⟨#[102]⟩)))),(1,(1,(.t 48)))])⟩,⟨(some 50),none,(.mkrow 26 2 [(.str ⟨#[]⟩),.nil] 1 [(0,(.t 49))])⟩,⟨(some 51),none,(.append 26 2 40 [(.str ⟨#[]⟩),.nil] (.t 46) (.t 50))⟩,⟨some 52,none,.faddr 1 (.t 3)⟩,⟨none,none,(.store 1 (.t 52) (.t 51))⟩]) .skip)) (.seq (.reg [⟨some 53,none,.load true 2 (.t 3)⟩,⟨none,none,(.store 2 (.t 2) (.t 53))⟩]) .ret))))))
theorem LM:At Tryz.prog 164=some ⟨54,Hz,[(.cell 2 true 2)]⟩:=by kernel_rfl
theorem BJ:modes 164=⟨[],.half [none,some (26,2)],none,false⟩:=by unfold modes; rfl
def Bx:SC:=(.seq (.reg [⟨(some 2),none,(.alloc 26 [(.str ⟨#[]⟩),.nil])⟩]) (.seq (.reg [⟨some 4,none,.mv (.t 0)⟩,⟨some 5,none,.call 162 [(.t 4)]⟩,⟨(some 3),none,(.alloc 26 [(.str ⟨#[]⟩),.nil])⟩,⟨none,none,(.store 2 (.t 3) (.t 5))⟩]) (.seq (.seq (.reg [⟨some 6,none,.mv (.t 0)⟩,⟨some 7,none,.call 38 [(.t 6),(.c (.int .i64 24))]⟩]) (.block 0 (.seq (.reg [⟨some 9,none,.bin .eql false (.t 7) (.c (.int .i64 0))⟩,⟨some 8,none,.mv (.t 9)⟩]) (.cond (.t 8) (.reg [⟨some 10,none,.mv (.t 0)⟩,⟨(some 11),none,(.mkrow 9 1 [(.str ⟨#[]⟩)] 14 [(0,(.c (.str ⟨#[]⟩))),(1,(.c (.str ⟨#[116,114,117,101]⟩))),(2,(.c (.str ⟨#[116,114,117,116,104]⟩))),(3,(.c (.str ⟨#[105,102]⟩))),(4,(.c (.str ⟨#[88,121,122,57]⟩))),(5,(.c (.str ⟨#[88,121,122,57,57]⟩))),(6,(.c (.str ⟨#[120,65]⟩))),(7,(.c (.str ⟨#[97,95,98]⟩))),(8,(.c (.str ⟨#[97,98,99,100,101,102]⟩))),(9,(.c (.str ⟨#[97,98,99,100,101,102,103]⟩))),(10,(.c (.str ⟨#[95,97]⟩))),(11,(.c (.str ⟨#[57]⟩))),(12,(.c (.str ⟨#[88,95]⟩))),(13,(.c (.str ⟨#[61]⟩)))])⟩,⟨some 12,none,.call 39 [(.t 10),(.t 11)]⟩,⟨some 13,none,.faddr 0 (.t 3)⟩,⟨none,none,(.store 1 (.t 13) (.t 12))⟩]) (.seq (.reg [⟨some 15,none,.bin .eql false (.t 7) (.c (.int .i64 1))⟩,⟨some 14,none,.mv (.t 15)⟩]) (.cond (.t 14) (.seq (.reg [⟨some 16,none,.mv (.t 0)⟩,⟨some 17,none,.mv (.t 0)⟩,⟨some 18,none,.call 38 [(.t 17),(.c (.int .i64 3))]⟩,⟨some 19,none,.bin .add false (.c (.int .i64 7)) (.t 18)⟩,⟨some 20,none,.call 163 [(.t 16),(.t 19)]⟩,⟨none,none,(.store 2 (.t 2) (.t 20))⟩]) .ret) (.seq (.reg [⟨some 22,none,.bin .eql false (.t 7) (.c (.int .i64 2))⟩,⟨some 21,none,.mv (.t 22)⟩]) (.cond (.t 21) (.seq (.reg [⟨some 23,none,.mv (.t 0)⟩,⟨some 24,none,.call 164 [(.t 23)]⟩,⟨none,none,(.store 2 (.t 2) (.t 24))⟩]) .ret) (.seq (.reg [⟨some 26,none,.bin .eql false (.t 7) (.c (.int .i64 3))⟩,⟨some 25,none,.mv (.t 26)⟩]) (.cond (.t 25) (.dreg [[],[0],[],[2],[],[4,3,2],[],[6,5,4,3,2],[3,2,5,4,7,6],[1,0,8,3,2,5,4,7,6],[0,1,2,3,4,5,6,7,8,9],[10,0,1,2,3,4,5,6,7,8,9]] [⟨some 27,none,.faddr 1 (.t 3)⟩,⟨some 28,none,.load false 1 (.t 27)⟩,⟨some 29,none,.mv (.t 0)⟩,⟨some 30,none,.call 162 [(.t 29)]⟩,⟨some 31,none,.mv (.t 0)⟩,⟨some 32,none,.call 162 [(.t 31)]⟩,⟨some 33,none,.mv (.t 0)⟩,⟨some 34,none,.call 162 [(.t 33)]⟩,⟨(some 35),none,(.mkrow 26 2 [(.str ⟨#[]⟩),.nil] 3 [(0,(.t 30)),(1,(.t 32)),(2,(.t 34))])⟩,⟨(some 36),none,(.append 26 2 40 [(.str ⟨#[]⟩),.nil] (.t 28) (.t 35))⟩,⟨some 37,none,.faddr 1 (.t 3)⟩,⟨none,none,(.store 1 (.t 37) (.t 36))⟩]) (.seq (.reg [⟨some 39,none,.bin .eql false (.t 7) (.c (.int .i64 4))⟩,⟨some 38,none,.mv (.t 39)⟩]) (.cond (.t 38) (.seq (.reg [⟨some 40,none,.faddr 1 (.t 3)⟩,⟨some 41,none,.load false 1 (.t 40)⟩,⟨some 42,none,.len false (.t 41)⟩,⟨some 43,none,.bin .gtr false (.t 42) (.c (.int .i64 0))⟩]) (.cond (.t 43) (.dreg [[],[0],[],[],[2,3],[],[5],[6,5],[7,6,5],[8,7,6,5],[4,2,3,9,8,7,6,5],[1,0,2,3,4,5,6,7,8,9,10],[11,1,0,2,3,4,5,6,7,8,9,10]] [⟨some 44,none,.faddr 1 (.t 3)⟩,⟨some 45,none,.load false 1 (.t 44)⟩,⟨some 46,none,.mv (.t 0)⟩,⟨(some 47),none,(.mkrow 9 1 [(.str ⟨#[]⟩)] 4 [(0,(.c (.str ⟨#[61]⟩))),(1,(.c (.str ⟨#[]⟩))),(2,(.c (.str ⟨#[81,49]⟩))),(3,(.c (.str ⟨#[98,50]⟩)))])⟩,⟨some 48,none,.call 39 [(.t 46),(.t 47)]⟩,⟨some 49,none,.faddr 1 (.t 3)⟩,⟨some 50,none,.load false 1 (.t 49)⟩,⟨some 51,none,.iaddr 2 (.t 50) (.c (.int .i64 0))⟩,⟨some 52,none,.faddr 1 (.t 51)⟩,⟨some 53,none,.load false 1 (.t 52)⟩,⟨(some 54),none,(.build [(.str ⟨#[]⟩),.nil] [(0,(1,(.t 48))),(1,(1,(.t 53)))])⟩,⟨some 55,none,.iaddr 2 (.t 45) (.c (.int .i64 0))⟩,⟨none,none,(.store 2 (.t 55) (.t 54))⟩]) .skip)) .skip)))))))))))) (.seq (.reg [⟨some 56,none,.load true 2 (.t 3)⟩,⟨none,none,(.store 2 (.t 2) (.t 56))⟩]) .ret))))
theorem BC:At Tryz.prog 108=some ⟨57,Bx,[(.cell 2 true 2)]⟩:=by kernel_rfl
theorem AB:modes 108=⟨[],.half [none,some (26,2)],none,false⟩:=by unfold modes; rfl
def twr (x:ByteArray):Nat→Tm
 | 0=>.mk x []
 | k+1=>.mk ⟨#[102]⟩ [twr x k]
theorem Rb (x:ByteArray):∀ k,(twr x k).nodes=k+1
 | 0=>by rw [twr,Tm.nodes_eq]; rfl
 | k+1=>by
  have:(twr x (k+1)).nodes=1+((twr x k).nodes+0):=by rw [twr,Tm.nodes_eq]; rfl
  rw [this,Rb x k]; omega
theorem QaV (x:ByteArray):[[OT.str x,OT.ow []]]=[Tm.mk x []].map Tm.o:=by rw [zG,zP,Tm.o_eq]; rfl
theorem Qci (x:ByteArray) (l:List Tm):[[OT.str x,OT.ow (l.map Tm.o)]]=[Tm.mk x l].map Tm.o:=by rw [zG,zP,Tm.o_eq]; rfl
theorem Tm.Qa5 (x:Tm):OT.Jk x.o=x.osh:=by
 have:=Tm.V8 [x]
 simp only [zG,zP,OT.C3,List.cons.injEq,and_true] at this
 exact this
theorem Tm.Qa6 (x:Tm):OT.C1 x.o=true:=by
 have:=Tm.fus [x]
 simp only [zG,zP,OT.AA,z7] at this
 exact this
theorem Tm.Gl (x:Tm):x.o.length=2:=by rw [Tm.o_eq]; rfl
abbrev tZ:Ob:=.box 26 [.str ⟨#[]⟩,.nil]
theorem Qa7 (l:List Int) (hl:Bytes l) (hn:l.length≤1099511627776) (m:Int) (hm:1≤m) (hm2:m≤100) (p s:Int) (h0:0≤p) (h1:p≤1099000000000):∃ t p' s',E 163 [.ptr 0 0,.int .i64 m] [cur l p s]=some (tmH t 1,[cur l p' s',MD t])∧(p≤p'∧p'≤p+1)∧t.nodes≤150:=by
 obtain ⟨Q,hQ⟩:∃ Q:SV × List Ob→Prop,Q=fun out=>∃ t p' s',out=(tmH t 1,[cur l p' s',MD t])∧(p≤p'∧p'≤p+1)∧t.nodes≤150:=⟨_,rfl⟩
 suffices hq0:∃ out,E 163 [.ptr 0 0,.int .i64 m] [cur l p s]=some out∧Q out by
  obtain ⟨out,hq1,hq2⟩:=hq0
  rw [hQ] at hq2
  obtain ⟨t,p',s',rfl,hq3⟩:=hq2
  exact ⟨t,p',s',hq1,hq3⟩
 obtain ⟨x,p1,s1,ho,_,g1,g2⟩:=TO l hl hn [⟨#[88]⟩,⟨#[97]⟩] (by decide) (by decide) p s h0 (by omega)
 simp only [zG,zP] at ho
 refine AL Lc BB (of_decide_eq_true rfl) ?_
 simp (disch:=omega) only [GZ,go_sem,Ab,ho,A1]
 refine go_loop (α:=Nat) (fun k=>⟨slots 18 0 [(1,.int .i64 (m-(k:Nat))),(4,.ptr 1 0),(5,.ptr 2 0)],(if k=0 then [cur l p1 s1,tZ,.box 26 [.str x,.nil]] else [cur l p1 s1,tZ,.box 26 [.str ⟨#[102]⟩,.ref 3],.row 26 2 ([twr x (k-1)].map Tm.o)])⟩) (fun k=>(k:Int)≤m-1) (fun k=>(m-k).toNat) 0 (by omega) (by simp (disch:=omega) only [go_sem,Ab,eq_self,if_true,yW,Int.sub_zero]) ?_
 intro k hk
 by_cases hlt:1<m-(k:Int)
 ·have q1:(1<m-(k:Int))=True:=eq_true hlt
  have hi:dec (inK .i64 (m-(k:Int)-1))=true:=B9 (by omega) (by omega)
  have q4:m-(k:Int)-1=m-((k+1:Nat):Int):=by omega
  have q5:(k+1=0)=False:=by simp
  have q6:k+1-1=k:=by omega
  rcases zO k with hk0 | hk0
  ·subst hk0
   have hs:=QaV x
   have q7:m-((0:Nat):Int)-1=m-((0+1:Nat):Int):=by omega
   simp (disch:=omega) only [go_sem,Ab,q1,hi,eq_self,if_true]
   refine ⟨0+1,by omega,by omega,?_⟩
   simp (disch:=omega) only [go_sem,Ab,q5,if_false,q7]
   first | rfl | (rw [hs]; rfl)
  ·obtain ⟨j,rfl⟩:∃ j,k=j+1:=⟨k-1,by omega⟩
   have hs:=Qci ⟨#[102]⟩ [twr x j]
   have q8:(j+1=0)=False:=by simp
   have q9:j+1-1=j:=by omega
   simp (disch:=omega) only [go_sem,Ab,q1,hi,q8,q9,if_false]
   refine ⟨j+1+1,by omega,by omega,?_⟩
   simp (disch:=omega) only [go_sem,Ab,q5,q6,if_false,q4]
   first | rfl | (rw [hs]; rfl)
 ·have q1:(1<m-(k:Int))=False:=eq_false hlt
  have hnd:=Rb x k
  rcases zO k with hk0 | hk0
  ·subst hk0
   simp (disch:=omega) only [go_sem,Ab,q1,eq_self,if_true]
   rw [hQ]
   exact ⟨twr x 0,p1,s1,rfl,by omega,by omega⟩
  ·obtain ⟨j,rfl⟩:∃ j,k=j+1:=⟨k-1,by omega⟩
   have q8:(j+1=0)=False:=by simp
   have q9:j+1-1=j:=by omega
   have hh:=Tm.Qa5 (twr x j)
   have hf:=Tm.Qa6 (twr x j)
   simp (disch:=omega) only [go_sem,Ab,q1,q8,q9,if_false,hh,hf]
   rw [hQ]
   exact ⟨twr x (j+1),p1,s1,rfl,by omega,by omega⟩
def wdF:Tm:=.mk ⟨#[102]⟩ [.mk ⟨#[97]⟩ []]
def wdP:Tm:=.mk ⟨#[104]⟩ (zL 4 wdF)
theorem Gm:[OT.str ⟨#[102]⟩,OT.ow [[OT.str ⟨#[97]⟩,OT.ow []]]]=wdF.o:=by
 rw [wdF,Tm.o_eq]
 show _=[OT.str ⟨#[102]⟩,OT.ow ([Tm.mk ⟨#[97]⟩ []].map Tm.o)]
 rw [←QaV]
theorem Gn:[OT.str ⟨#[104]⟩,OT.ow [wdF.o,wdF.o,wdF.o,wdF.o]]=wdP.o:=by rw [wdP,Tm.o_eq]; rfl
theorem Pr {α β:Type} (f:α→β) (x:α) (n:Nat):(zL n x).map f++[f x]=(zL (n+1) x).map f:=by
 rw [List.replicate_succ',zM]; rfl
theorem X8:wdF.nodes=2:=by rw [wdF,Tm.nodes_eq]; show 1+((Tm.mk _ []).nodes+0)=2; rw [Tm.nodes_eq]; rfl
theorem MG:wdP.nodes=9:=by
 rw [wdP,Tm.nodes_eq]
 show 1+(wdF.nodes+(wdF.nodes+(wdF.nodes+(wdF.nodes+0))))=9
 rw [X8]
theorem Qb7 (l:List Int) (hl:Bytes l) (hn:l.length≤1099511627776) (p s:Int) (h0:0≤p) (h1:p≤1099000000000):∃ t p' s',E 164 [.ptr 0 0] [cur l p s]=some (tmH t 1,[cur l p' s',MD t])∧(p≤p'∧p'≤p+2)∧t.nodes≤150:=by
 obtain ⟨Q,hQ⟩:∃ Q:SV × List Ob→Prop,Q=fun out=>∃ t p' s',out=(tmH t 1,[cur l p' s',MD t])∧(p≤p'∧p'≤p+2)∧t.nodes≤150:=⟨_,rfl⟩
 suffices hq0:∃ out,E 164 [.ptr 0 0] [cur l p s]=some out∧Q out by
  obtain ⟨out,hq1,hq2⟩:=hq0
  rw [hQ] at hq2
  obtain ⟨t,p',s',rfl,hq3⟩:=hq2
  exact ⟨t,p',s',hq1,hq3⟩
 have h10:((1:Int)=0)=False:=by simp
 refine AL LM BJ (of_decide_eq_true rfl) ?_
 simp (disch:=omega) only [Hz,go_sem,Ab]
 refine go_loop (α:=Int) (fun i=>⟨slots 54 0 [(0,.ptr 0 0),(2,.ptr 1 0),(3,.ptr 2 0),(4,.int .i64 i)],(if i=0 then [cur l p s,tZ,.box 26 [.str ⟨#[103]⟩,.nil]] else [cur l p s,tZ,.box 26 [.str ⟨#[103]⟩,.ref 3],.row 26 2 ((zL i.toNat wdP).map Tm.o)])⟩) (fun i=>∃ k:Nat,i=k∧k≤4) (fun i=>(4-i).toNat) 0 ⟨0,rfl,by omega⟩ (by simp (disch:=omega) only [go_sem,Ab,eq_self,if_true]) ?_
 rintro i ⟨k,hi,hk⟩
 have hni:i.toNat=k:=by omega
 have hni1:(i+1).toNat=k+1:=by omega
 rcases zC k 4 with hlt | hge
 ·have q1:(i<4)=True:=eq_true (by omega)
  have hi1:(i+1=0)=False:=by simp; omega
  have hsP:=Pr Tm.o wdP k
  rcases zO k with hk0 | hk0
  ·subst hk0
   obtain rfl:i=0:=hi
   simp (disch:=omega) only [go_sem,Ab,q1,eq_self,if_true,Gm,Gn,zH,Tm.Gl]
   refine go_loop (α:=Int) (fun j=>⟨slots 54 0 [(0,.ptr 0 0),(2,.ptr 1 0),(3,.ptr 2 0),(4,.int .i64 0),(5,.ptr 3 0),(6,.int .i64 j)],(if (0:Int)=0 then (if j=0 then [cur l p s,tZ,.box 26 [.str ⟨#[103]⟩,.nil],.box 26 [.str ⟨#[104]⟩,.nil]] else [cur l p s,tZ,.box 26 [.str ⟨#[103]⟩,.nil],.box 26 [.str ⟨#[104]⟩,.ref 4],.row 26 2 ((zL j.toNat wdF).map Tm.o)]) else (if j=0 then [cur l p s,tZ,.box 26 [.str ⟨#[103]⟩,.ref 4],.box 26 [.str ⟨#[104]⟩,.nil],.row 26 2 ((zL (0:Int).toNat wdP).map Tm.o)] else [cur l p s,tZ,.box 26 [.str ⟨#[103]⟩,.ref 4],.box 26 [.str ⟨#[104]⟩,.ref 5],.row 26 2 ((zL (0:Int).toNat wdP).map Tm.o),.row 26 2 ((zL j.toNat wdF).map Tm.o)]))⟩) (fun j=>∃ k:Nat,j=k∧k≤4) (fun j=>(4-j).toNat) 0 ⟨0,rfl,by omega⟩ (by simp (disch:=omega) only [go_sem,Ab,eq_self,if_true,Gm,Gn,zH,Tm.Gl]) ?_
   rintro j ⟨n,hj,hn4⟩
   have hnj:j.toNat=n:=by omega
   have hnj1:(j+1).toNat=n+1:=by omega
   have hj1:(j+1=0)=False:=by simp; omega
   rcases zC n 4 with hlt2 | hge2
   ·have q2:(j<4)=True:=eq_true (by omega)
    have hsF:=Pr Tm.o wdF n
    rcases zO n with hn0 | hn0
    ·subst hn0
     obtain rfl:j=0:=hj
     simp (disch:=omega) only [go_sem,Ab,q2,eq_self,if_true,Gm,Gn,zH,Tm.Gl]
     refine ⟨1,⟨1,rfl,by omega⟩,by omega,?_⟩
     simp (disch:=omega) only [go_sem,Ab,eq_self,if_true,h10,if_false,Gm,Gn,zH,Tm.Gl]
    ·have hj0:(j=0)=False:=by simp; omega
     simp (disch:=omega) only [go_sem,Ab,q2,eq_self,if_true,hj0,if_false,hnj,Gm,Gn,zH,Tm.Gl]
     refine ⟨j+1,⟨n+1,by omega,by omega⟩,by omega,?_⟩
     simp (disch:=omega) only [go_sem,Ab,eq_self,if_true,hj1,if_false,hnj,hnj1,hsF,Gm,Gn,zH,Tm.Gl]
   ·obtain rfl:n=4:=by omega
    have hj4:j=4:=hj
    subst hj4
    have q2:((4:Int)=0)=False:=by simp
    simp (disch:=omega) only [go_sem,Ab,q2,eq_self,if_true,if_false,Gm,Gn,zH,Tm.Gl]
    refine ⟨1,⟨1,rfl,by omega⟩,by omega,?_⟩
    simp (disch:=omega) only [go_sem,Ab,h10,if_false,Gm,Gn,zH,Tm.Gl]
  ·have hi0:(i=0)=False:=by simp; omega
   simp (disch:=omega) only [go_sem,Ab,q1,hi0,if_false,Gm,Gn,zH,Tm.Gl]
   refine go_loop (α:=Int) (fun j=>⟨slots 54 0 [(0,.ptr 0 0),(2,.ptr 1 0),(3,.ptr 2 0),(4,.int .i64 i),(5,.ptr 3 0),(6,.int .i64 j)],(if i=0 then (if j=0 then [cur l p s,tZ,.box 26 [.str ⟨#[103]⟩,.nil],.box 26 [.str ⟨#[104]⟩,.nil]] else [cur l p s,tZ,.box 26 [.str ⟨#[103]⟩,.nil],.box 26 [.str ⟨#[104]⟩,.ref 4],.row 26 2 ((zL j.toNat wdF).map Tm.o)]) else (if j=0 then [cur l p s,tZ,.box 26 [.str ⟨#[103]⟩,.ref 4],.box 26 [.str ⟨#[104]⟩,.nil],.row 26 2 ((zL i.toNat wdP).map Tm.o)] else [cur l p s,tZ,.box 26 [.str ⟨#[103]⟩,.ref 4],.box 26 [.str ⟨#[104]⟩,.ref 5],.row 26 2 ((zL i.toNat wdP).map Tm.o),.row 26 2 ((zL j.toNat wdF).map Tm.o)]))⟩) (fun j=>∃ k:Nat,j=k∧k≤4) (fun j=>(4-j).toNat) 0 ⟨0,rfl,by omega⟩ (by simp (disch:=omega) only [go_sem,Ab,hi0,if_false,eq_self,if_true,Gm,Gn,zH,Tm.Gl]) ?_
   rintro j ⟨n,hj,hn4⟩
   have hnj:j.toNat=n:=by omega
   have hnj1:(j+1).toNat=n+1:=by omega
   have hj1:(j+1=0)=False:=by simp; omega
   rcases zC n 4 with hlt2 | hge2
   ·have q2:(j<4)=True:=eq_true (by omega)
    have hsF:=Pr Tm.o wdF n
    rcases zO n with hn0 | hn0
    ·subst hn0
     obtain rfl:j=0:=hj
     simp (disch:=omega) only [go_sem,Ab,q2,hi0,if_false,eq_self,if_true,Gm,Gn,zH,Tm.Gl]
     refine ⟨1,⟨1,rfl,by omega⟩,by omega,?_⟩
     simp (disch:=omega) only [go_sem,Ab,hi0,h10,if_false,Gm,Gn,zH,Tm.Gl]
    ·have hj0:(j=0)=False:=by simp; omega
     simp (disch:=omega) only [go_sem,Ab,q2,hi0,hj0,if_false,hnj,Gm,Gn,zH,Tm.Gl]
     refine ⟨j+1,⟨n+1,by omega,by omega⟩,by omega,?_⟩
     simp (disch:=omega) only [go_sem,Ab,hi0,hj1,if_false,hnj,hnj1,hsF,Gm,Gn,zH,Tm.Gl]
   ·obtain rfl:n=4:=by omega
    have hj4:j=4:=hj
    subst hj4
    have q2:((4:Int)=0)=False:=by simp
    simp (disch:=omega) only [go_sem,Ab,q2,hi0,if_false,hni,Gm,Gn,zH,Tm.Gl]
    refine ⟨i+1,⟨k+1,by omega,by omega⟩,by omega,?_⟩
    simp (disch:=omega) only [go_sem,Ab,hi1,if_false,hni1,hsP,Gm,Gn,zH,Tm.Gl]
 ·obtain rfl:k=4:=by omega
  have hi4:i=4:=hi
  subst hi4
  have q2:((4:Int)=0)=False:=by simp
  obtain ⟨b1,p1,s1,hb1,g1,g2⟩:=LK l hl hn 2 (by omega) (by omega) p s h0 (by omega)
  obtain ⟨b2,p2,s2,hb2,g3,g4⟩:=LK l hl hn 2 (by omega) (by omega) p1 s1 (by omega) (by omega)
  have n4:(Tm.mk ⟨#[103]⟩ (zL 4 wdP)).nodes=37:=by
   rw [Tm.nodes_eq]
   show 1+(wdP.nodes+(wdP.nodes+(wdP.nodes+(wdP.nodes+0))))=37
   rw [MG]
  have n3:(Tm.mk ⟨#[103]⟩ (zL 3 wdP)).nodes=28:=by
   rw [Tm.nodes_eq]
   show 1+(wdP.nodes+(wdP.nodes+(wdP.nodes+0)))=28
   rw [MG]
  have n5:(Tm.mk ⟨#[103]⟩ (zL 3 wdP++[.mk ⟨#[102]⟩ [.mk ⟨#[98]⟩ []]])).nodes=30:=by
   rw [Tm.nodes_eq]
   show 1+(wdP.nodes+(wdP.nodes+(wdP.nodes+((Tm.mk _ [.mk _ []]).nodes+0))))=30
   rw [MG,Tm.nodes_eq]
   show 1+(9+(9+(9+(1+((Tm.mk _ []).nodes+0)+0))))=30
   rw [Tm.nodes_eq]; rfl
  cases b1 <;> cases b2
  ·simp (disch:=omega) only [go_sem,Ab,q2,if_false,hb1,hb2,Az]
   rw [hQ]
   exact ⟨.mk ⟨#[103]⟩ (zL 4 wdP),p2,s2,rfl,by omega,by omega⟩
  ·simp (disch:=omega) only [go_sem,Ab,q2,if_false,hb1,hb2,Az]
   rw [hQ]
   exact ⟨.mk ⟨#[103]⟩ (zL 4 wdP),p2,s2,rfl,by omega,by omega⟩
  ·simp (disch:=omega) only [go_sem,Ab,q2,if_false,hb1,hb2,Az]
   rw [hQ]
   exact ⟨.mk ⟨#[103]⟩ (zL 3 wdP),p2,s2,rfl,by omega,by omega⟩
  ·simp (disch:=omega) only [go_sem,Ab,q2,if_false,hb1,hb2,Az]
   rw [hQ]
   exact ⟨.mk ⟨#[103]⟩ (zL 3 wdP++[.mk ⟨#[102]⟩ [.mk ⟨#[98]⟩ []]]),p2,s2,rfl,by omega,by omega⟩
theorem Tm.nodes_mk (x:ByteArray) (l:List Tm):(Tm.mk x l).nodes=1+Tm.nodeS l:=Tm.nodes_eq _
theorem Tm.nodeS_app:∀ (a b:List Tm),Tm.nodeS (a++b)=Tm.nodeS a+Tm.nodeS b
 | [],b=>by simp [Tm.nodeS]
 | x :: a,b=>by simp only [yH,Tm.nodeS,Tm.nodeS_app a b]; omega
theorem Tm.Qb8 (a b c:Tm):Tm.nodeS [a,b,c]=a.nodes+(b.nodes+(c.nodes+0)):=rfl
theorem Tm.Zq (t:Tm):t.args.length+1≤t.nodes:=by
 rw [Tm.nodes_eq]
 have:=Tm.length_le t.args
 omega
theorem X9 (l:List Int) (hl:Bytes l) (hn:l.length≤1099511627776) (p s:Int) (h0:0≤p) (h1:p≤1096000000000):∃ t p' s',E 108 [.ptr 0 0] [cur l p s]=some (tmH t 1,[cur l p' s',MD t])∧(p≤p'∧p'≤p+400)∧t.nodes≤150:=by
 obtain ⟨Q,hQ⟩:∃ Q:SV × List Ob→Prop,Q=fun out=>∃ t p' s',out=(tmH t 1,[cur l p' s',MD t])∧(p≤p'∧p'≤p+400)∧t.nodes≤150:=⟨_,rfl⟩
 suffices hq0:∃ out,E 108 [.ptr 0 0] [cur l p s]=some out∧Q out by
  obtain ⟨out,hq1,hq2⟩:=hq0
  rw [hQ] at hq2
  obtain ⟨t,p',s',rfl,hq3⟩:=hq2
  exact ⟨t,p',s',hq1,hq3⟩
 obtain ⟨t,p1,s1,ht,⟨g1,g2⟩,g3⟩:=ME l hl hn p s h0 (by omega)
 obtain ⟨v,p2,s2,hv,⟨v0,v1⟩,g4,g5⟩:=ER l hl hn 24 (by omega) (by omega) p1 s1 (by omega) (by omega)
 have hal:=Tm.Zq t
 rcases (show v=0∨v=1∨v=2∨v=3∨v=4∨(¬ v=0∧¬ v=1∧¬ v=2∧¬ v=3∧¬ v=4) by omega) with rfl | rfl | rfl | rfl | rfl | ⟨k0,k1,k2,k3,k4⟩
 ·obtain ⟨x,p3,s3,ho,_,g6,g7⟩:=TO l hl hn [⟨#[]⟩,⟨#[116,114,117,101]⟩,⟨#[116,114,117,116,104]⟩,⟨#[105,102]⟩,⟨#[88,121,122,57]⟩,⟨#[88,121,122,57,57]⟩,⟨#[120,65]⟩,⟨#[97,95,98]⟩,⟨#[97,98,99,100,101,102]⟩,⟨#[97,98,99,100,101,102,103]⟩,⟨#[95,97]⟩,⟨#[57]⟩,⟨#[88,95]⟩,⟨#[61]⟩] (by decide) (by decide) p2 s2 (by omega) (by omega)
  simp only [zG,zP] at ho
  refine AL BC AB (of_decide_eq_true rfl) ?_
  simp (disch:=omega) only [Bx,go_sem,Ab,ht,hv,ho,As,AM,A1,BB,BJ]
  rw [hQ]
  exact ⟨.mk x t.args,p3,s3,rfl,by omega,by rw [Tm.nodes_mk]; have:=Tm.nodes_eq t; omega⟩
 ·obtain ⟨u,p3,s3,hu,⟨u0,u1⟩,g6,g7⟩:=ER l hl hn 3 (by omega) (by omega) p2 s2 (by omega) (by omega)
  have hi:dec (inK .i64 (7+u))=true:=B9 (by omega) (by omega)
  obtain ⟨t2,p4,s4,ho,⟨g8,g9⟩,g10⟩:=Qa7 l hl hn (7+u) (by omega) (by omega) p3 s3 (by omega) (by omega)
  refine AL BC AB (of_decide_eq_true rfl) ?_
  simp (disch:=omega) only [Bx,go_sem,Ab,ht,hv,hu,hi,ho,As,AM,A1,BB,BJ]
  rw [hQ]
  exact ⟨t2,p4,s4,rfl,by omega,g10⟩
 ·obtain ⟨t2,p3,s3,ho,⟨g8,g9⟩,g10⟩:=Qb7 l hl hn p2 s2 (by omega) (by omega)
  refine AL BC AB (of_decide_eq_true rfl) ?_
  simp (disch:=omega) only [Bx,go_sem,Ab,ht,hv,ho,As,AM,A1,BB,BJ]
  rw [hQ]
  exact ⟨t2,p3,s3,rfl,by omega,g10⟩
 ·obtain ⟨t2,p3,s3,hu,⟨a1,a2⟩,a3⟩:=ME l hl hn p2 s2 (by omega) (by omega)
  obtain ⟨t3,p4,s4,hw,⟨b1,b2⟩,b3⟩:=ME l hl hn p3 s3 (by omega) (by omega)
  obtain ⟨t4,p5,s5,hx,⟨c1,c2⟩,c3⟩:=ME l hl hn p4 s4 (by omega) (by omega)
  refine AL BC AB (of_decide_eq_true rfl) ?_
  simp (disch:=omega) only [Bx,go_sem,Ab,ht,hv,hu,hw,hx,As,AM,A1,BB,BJ]
  rw [hQ]
  refine ⟨.mk t.name (t.args++[t2,t3,t4]),p5,s5,?_,by omega,by rw [Tm.nodes_mk,Tm.nodeS_app,Tm.Qb8]; have:=Tm.nodes_eq t; omega⟩
  show _=(tmH (.mk t.name (t.args++[t2,t3,t4])) 1,[cur l p5 s5,.row 26 2 ((t.args++[t2,t3,t4]).map Tm.osh)])
  rw [zM]
  rfl
 ·rcases hc:t.args with _ | ⟨a0,ar⟩
  ·have q0:((0:Int)<(t.args.length:Int))=False:=eq_false (by rw [hc]; simp)
   rw [←hc] at *
   refine AL BC AB (of_decide_eq_true rfl) ?_
   simp (disch:=omega) only [Bx,go_sem,Ab,ht,hv,q0,As,AM,A1,BB,BJ]
   rw [hQ]
   exact ⟨t,p2,s2,rfl,by omega,by omega⟩
  ·have q0:((0:Int)<(t.args.length:Int))=True:=eq_true (by rw [hc]; simp)
   obtain ⟨x,p3,s3,ho,_,g6,g7⟩:=TO l hl hn [⟨#[61]⟩,⟨#[]⟩,⟨#[81,49]⟩,⟨#[98,50]⟩] (by decide) (by decide) p2 s2 (by omega) (by omega)
   simp only [zG,zP] at ho
   have hm:t.args.map Tm.osh=[.str a0.name,.sh (a0.args.map Tm.d)] :: ar.map Tm.osh:=by rw [hc]; rfl
   have hgl:(t.args.map Tm.osh)[0]?=some [.str a0.name,.sh (a0.args.map Tm.d)]:=by rw [hm]; rfl
   have hst:∀ y,(t.args.map Tm.osh).set 0 y=y :: ar.map Tm.osh:=fun y=>by rw [hm]; rfl
   have q1:0<t.args.length:=by rw [hc]; simp
   have hnn:t.nodes=1+(a0.nodes+Tm.nodeS ar):=by rw [Tm.nodes_eq,hc]; rfl
   refine AL BC AB (of_decide_eq_true rfl) ?_
   simp (disch:=omega) only [Bx,go_sem,Ab,ht,hv,q0,ho,hgl,hst,q1,As,AM,A1,BB,BJ]
   rw [hQ]
   refine ⟨.mk t.name (.mk x a0.args :: ar),p3,s3,?_,by omega,?_⟩
   ·rfl
   ·rw [Tm.nodes_mk]
    show 1+((Tm.mk x a0.args).nodes+Tm.nodeS ar)≤_
    rw [Tm.nodes_mk]
    have:=Tm.nodes_eq a0
    omega
 ·have k0:=eq_false k0
  have k1:=eq_false k1
  have k2:=eq_false k2
  have k3:=eq_false k3
  have k4:=eq_false k4
  refine AL BC AB (of_decide_eq_true rfl) ?_
  simp (disch:=omega) only [Bx,go_sem,Ab,ht,hv,k0,k1,k2,k3,k4,As,AM,A1,BB,BJ]
  rw [hQ]
  exact ⟨t,p2,s2,rfl,by omega,by omega⟩
abbrev iD (n:Int):List D:=[D.int n]
abbrev iO (n:Int):List OT:=[OT.int n]
theorem Ps:∀ p:List Int,OT.erss (p.map iO)=p.map iD
 | []=>rfl
 | x :: p=>by simp only [zG,OT.erss,OT.ers,OT.er,Ps p]
theorem II:∀ p:List Int,OT.AA (p.map iO)=true
 | []=>rfl
 | x :: p=>by simp only [zG,OT.AA,OT.C1,OT.full,II p,yZ]
theorem Rc (p:List Int):(p.map iD).map (·.map D.ot)=p.map iO:=by rw [zN]; rfl
theorem MH (p:List Int):((p.map iO).all fun e=>e.length == 1)=true:=by rw [zX,zR]; intro x _; rfl
theorem MJ (p:List Int):((p.map iD).all fun e=>e.length == 1)=true:=by rw [zX,zR]; intro x _; rfl
theorem Gc {a b:Int} (h:0≤a) (k:0<b):0≤a.tmod b∧a.tmod b<b:=⟨Int.tmod_nonneg b h,Int.tmod_lt_of_pos a k⟩
theorem Zr {a:Int} (h:0≤a):0≤a.tdiv 3∧a.tdiv 3≤a:=by
 rw [Int.tdiv_eq_ediv_of_nonneg h]; omega
theorem Pt (s:ByteArray) (k:Nat):0≤Ec s k∧Ec s k≤255:=by
 unfold Ec
 have:=((s[k]?).getD 0).toNat_lt
 omega
theorem LN (s:ByteArray):∀ k,0≤Ft s k∧Ft s k<65521
 | 0=>by rw [Ft]; omega
 | k+1=>by
  have:=LN s k
  have hb:=Pt s k
  rw [Ft]
  exact Gc (by omega) (by omega)
theorem Zs {vs:List Int} (hv:∀ v∈vs,0≤v∧v≤65535) (k:Nat):0≤vs.getD k 0∧vs.getD k 0≤65535:=by
 rw [zZ]
 cases h:vs[k]? with
 | none=>exact ⟨by simp,by simp⟩
 | some v=>exact hv v (List.mem_of_getElem? h)
theorem Pu {h:Int} {vs:List Int} (hh:0≤h∧h<65521) (hv:∀ v∈vs,0≤v∧v≤65535):∀ k,0≤Ig h vs k∧Ig h vs k<65521
 | 0=>hh
 | k+1=>by
  have:=Pu hh hv k
  have hb:=Zs hv k
  rw [Ig]
  exact Gc (by omega) (by omega)
theorem Ha {l:List Int} (hl:Bytes l) {i:Int} (h:0≤i):0≤D6 l i∧D6 l i≤255:=by
 unfold D6
 by_cases hc:i<l.length
 ·rw [if_pos hc,zZ,z8 (by omega)]
  exact hl _ (zD _)
 ·rw [if_neg hc]
  have:=Gc (show 0≤i*7+(l.length:Int) by omega) (show (0:Int)<256 by omega)
  omega
theorem TR {l:List Int} (hl:Bytes l) (nm:ByteArray) {vs:List Int} (hv:∀ v∈vs,0≤v∧v≤65535):0≤RU l nm vs∧RU l nm vs≤100000:=by
 have h1:=Pu (LN nm nm.size) hv vs.length
 unfold RU
 generalize Ig (Ft nm nm.size) vs vs.length=h at *
 have a1:=Gc h1.1 (show (0:Int)<53 by omega)
 have a2:=Gc h1.1 (show (0:Int)<89 by omega)
 have b1:=Ha hl a1.1
 have b2:=Ha hl a2.1
 have c:=Zr (show 0≤h+13*D6 l (h.tmod 53)+D6 l (h.tmod 89) by omega)
 omega
abbrev Ev:=List (ByteArray × Int)
noncomputable def C0 (e:Ev):ByteArray→Int:=e.foldl (fun E p=>upE E p.1 p.2) fun _=>0
theorem ML (e:Ev) (n:ByteArray) (v:Int):C0 (e++[(n,v)])=upE (C0 e) n v:=by unfold C0; rw [List.foldl_append]; rfl
theorem Qb9 (e:Ev) (p:ByteArray × Int):C0 (e++[p])=upE (C0 e) p.1 p.2:=ML e p.1 p.2
def EnvOk (e:Ev):Prop:=∀ p∈e,0≤p.2∧p.2≤65535
theorem Pv:∀ (e:Ev),EnvOk e→∀ m,0≤C0 e m∧C0 e m≤65535:=by
 intro e h
 have key:∀ (e:Ev) (E:ByteArray→Int),EnvOk e→(∀ m,0≤E m∧E m≤65535)→∀ m,0≤(e.foldl (fun E p=>upE E p.1 p.2) E) m∧(e.foldl (fun E p=>upE E p.1 p.2) E) m≤65535:=by
  intro e
  induction e with
  | nil=>intro E _ h; exact h
  | cons p e ih =>
   intro E he h
   refine ih _ (fun q hq=>he q (by simp [hq])) fun m=>?_
   show 0≤upE E p.1 p.2 m∧upE E p.1 p.2 m≤65535
   unfold upE
   cases dec (m=p.1) with
   | true=>exact he p (by simp)
   | false=>exact h m
 exact key e _ h fun _=>by omega
theorem EnvOk.snoc {e:Ev} (h:EnvOk e) {n:ByteArray} {v:Int} (h0:0≤v) (h1:v≤65535):EnvOk (e++[(n,v)]):=by
 intro p hp
 rcases yJ.1 hp with hp | hp
 ·exact h p hp
 ·simp only [yS] at hp
  subst hp
  exact ⟨h0,h1⟩
theorem Tm.LO {l:List Int} (hl:Bytes l) {n:Int} (hn:1≤n∧n≤65535) {E:ByteArray→Int} (hE:∀ m,0≤E m∧E m≤65535) (x:Tm):0≤x.val l n E∧x.val l n E≤65535:=by
 have ih:∀ y∈x.args,0≤y.val l n E∧y.val l n E≤65535:=fun y hy=>Tm.LO hl hn hE y
 rw [Tm.ID]
 cases AS x.name with
 | true=>exact hE _
 | false =>
  have h:=TR hl x.name (vs:=x.args.map (Tm.val l n E)) fun v hv=>by
   obtain ⟨y,hy,rfl⟩:=yP.1 hv
   exact ih y hy
  have:=Gc h.1 (show 0<n by omega)
  rw [cond_false]
  omega
termination_by SizeOf.sizeOf x
decreasing_by exact Tm.lt_of_mem hy
abbrev nmD (p:ByteArray × Int):List D:=[D.str p.1]
abbrev viD (p:ByteArray × Int):List D:=[D.int p.2]
abbrev veS (e:Ev):SV:=.agg [.arr (e.map nmD),.arr (e.map viD)]
theorem Zt (e:Ev) (n:ByteArray) (v:Int):veS (e++[(n,v)])=.agg [.arr (e.map nmD++[[D.str n]]),.arr (e.map viD++[[D.int v]])]:=by
 unfold veS
 rw [zM,zM]
 rfl
theorem Qa8 (e:Ev):((e.map nmD).all fun e=>e.length == 1)=true:=by rw [zX,zR]; intro x _; rfl
theorem Zu (e:Ev):(((e.map nmD).map (·.map D.ot)).all fun e=>e.length == 1)=true:=by rw [zX,zX,zR]; intro x _; rfl
theorem QbA (e:Ev):OT.erss ((e.map nmD).map (·.map D.ot))=e.map nmD:=by
 rw [OT.FF,zN,zN]
 exact zW fun b _=>rfl
theorem Zv (e:Ev):OT.AA ((e.map nmD).map (·.map D.ot))=true:=by
 induction e with
 | nil=>rfl
 | cons x xs ih=>simp only [zG,OT.AA,ih]; rfl
theorem Qa9 (e:Ev):((e.map viD).all fun e=>e.length == 1)=true:=by rw [zX,zR]; intro x _; rfl
theorem Zw (e:Ev):(((e.map viD).map (·.map D.ot)).all fun e=>e.length == 1)=true:=by rw [zX,zX,zR]; intro x _; rfl
theorem QbB (e:Ev):OT.erss ((e.map viD).map (·.map D.ot))=e.map viD:=by
 rw [OT.FF,zN,zN]
 exact zW fun b _=>rfl
theorem Zx (e:Ev):OT.AA ((e.map viD).map (·.map D.ot))=true:=by
 induction e with
 | nil=>rfl
 | cons x xs ih=>simp only [zG,OT.AA,ih]; rfl
def IT:SC:=(.seq (.reg [⟨some 2,none,.boxv 39 2 (.t 0)⟩,⟨some 4,none,.mv (.c (.int .i64 0))⟩]) (.seq (.seq (.reg [⟨some 6,none,.faddr 0 (.t 2)⟩,⟨some 7,none,.load false 1 (.t 6)⟩,⟨some 8,none,.len false (.t 7)⟩,⟨some 9,none,.bin .sub false (.t 8) (.c (.int .i64 1))⟩,⟨some 5,none,.mv (.t 9)⟩]) (.block 0 (.loop [0,1,1,0,0,1,0,0,0,0,0,0,0,0,0,0,0,0,0,0,0,0,0,0,0,0] (.seq (.seq (.reg [⟨some 10,none,.mv (.t 5)⟩,⟨some 11,none,.bin .geq false (.t 10) (.c (.int .i64 0))⟩]) (.cond (.t 11) .skip (.exit 0))) (.seq (.block 1 (.seq (.reg [⟨some 14,none,.faddr 0 (.t 2)⟩,⟨some 15,none,.load false 1 (.t 14)⟩,⟨some 16,none,.mv (.t 5)⟩,⟨some 17,none,.iaddr 1 (.t 15) (.t 16)⟩,⟨some 18,none,.load false 1 (.t 17)⟩,⟨some 19,none,.mv (.t 1)⟩,⟨some 20,none,.bin .eql false (.t 18) (.t 19)⟩]) (.cond (.t 20) (.seq (.reg [⟨some 21,none,.faddr 1 (.t 2)⟩,⟨some 22,none,.load false 1 (.t 21)⟩,⟨some 23,none,.mv (.t 5)⟩,⟨some 24,none,.iaddr 1 (.t 22) (.t 23)⟩,⟨some 25,none,.load false 1 (.t 24)⟩,⟨some 4,none,.mv (.t 25)⟩]) .ret) .skip))) (.reg [⟨some 12,none,.mv (.t 5)⟩,⟨some 13,none,.bin .sub false (.t 12) (.c (.int .i64 1))⟩,⟨some 5,none,.mv (.t 13)⟩])))))) (.seq (.reg [⟨some 4,none,.mv (.c (.int .i64 0))⟩]) .ret)))
theorem N8:At Tryz.prog 125=some ⟨26,IT,[(.tmp 4)]⟩:=by kernel_rfl
theorem IU:modes 125=⟨[],.asis,none,false⟩:=by unfold modes; rfl
def Ip:SC:=(.seq (.reg [⟨some 3,none,.boxv 39 2 (.t 0)⟩,⟨some 6,none,.alloc 39 [.nil,.nil]⟩]) (.seq (.dreg [[],[],[1],[0,2,1],[],[4],[3,0,2,1,5,4],[],[],[8],[7,9,8,6,3,0,2,1,5,4],[],[11],[10,7,9,8,6,3,0,2,1,5,4,12,11],[6,3,0,2,1,5,4,13,10,7,9,8,12,11],[14,6,3,0,2,1,5,4,13,10,7,9,8,12,11]] [⟨(some 7),none,(.mkrow 9 1 [(.str ⟨#[]⟩)] 0 [])⟩,⟨some 8,none,.faddr 0 (.t 3)⟩,⟨some 9,none,.load false 1 (.t 8)⟩,⟨(some 10),none,(.append 9 1 16 [(.str ⟨#[]⟩)] (.t 7) (.t 9))⟩,⟨some 11,none,.mv (.t 1)⟩,⟨(some 12),none,(.mkrow 9 1 [(.str ⟨#[]⟩)] 1 [(0,(.t 11))])⟩,⟨(some 13),none,(.append 9 1 16 [(.str ⟨#[]⟩)] (.t 10) (.t 12))⟩,⟨some 14,none,.mkrow 3 1 [(.int .i64 0)] 0 []⟩,⟨some 15,none,.faddr 1 (.t 3)⟩,⟨some 16,none,.load false 1 (.t 15)⟩,⟨some 17,none,.append 3 1 8 [(.int .i64 0)] (.t 14) (.t 16)⟩,⟨some 18,none,.mv (.t 2)⟩,⟨some 19,none,.mkrow 3 1 [(.int .i64 0)] 1 [(0,(.t 18))]⟩,⟨some 20,none,.append 3 1 8 [(.int .i64 0)] (.t 17) (.t 19)⟩,⟨some 21,none,.build [.nil,.nil] [(0,(1,(.t 13))),(1,(1,(.t 20)))]⟩,⟨none,none,(.store 2 (.t 6) (.t 21))⟩]) .ret))
theorem MM:At Tryz.prog 13=some ⟨22,Ip,[(.cell 6 true 2)]⟩:=by kernel_rfl
theorem Bv:modes 13=⟨[],.frz,none,false⟩:=by unfold modes; rfl
def Ld:SC:=(.seq (.reg [⟨some 4,none,.mv (.c (.int .i64 0))⟩]) (.seq (.seq (.reg [⟨some 5,none,.mv (.t 1)⟩,⟨some 6,none,.mv (.t 0)⟩,⟨some 7,none,.len false (.t 6)⟩,⟨some 8,none,.bin .lss false (.t 5) (.t 7)⟩]) (.cond (.t 8) (.seq (.reg [⟨some 9,none,.mv (.t 0)⟩,⟨some 10,none,.mv (.t 1)⟩,⟨some 11,none,.iaddr 1 (.t 9) (.t 10)⟩,⟨some 12,none,.load false 1 (.t 11)⟩,⟨some 13,none,.conv .i64 (.t 12)⟩,⟨some 4,none,.mv (.t 13)⟩]) .ret) .skip)) (.seq (.reg [⟨some 14,none,.mv (.t 1)⟩,⟨some 15,none,.bin .mul false (.t 14) (.c (.int .i64 7))⟩,⟨some 16,none,.mv (.t 0)⟩,⟨some 17,none,.len false (.t 16)⟩,⟨some 18,none,.bin .add false (.t 15) (.t 17)⟩,⟨some 19,none,.bin .rem false (.t 18) (.c (.int .i64 256))⟩,⟨some 4,none,.mv (.t 19)⟩]) .ret)))
theorem Pw:At Tryz.prog 14=some ⟨20,Ld,[(.tmp 4)]⟩:=by kernel_rfl
theorem Do:modes 14=⟨[],.asis,none,false⟩:=by unfold modes; rfl
def Ns:SC:=(.seq (.reg [⟨some 6,none,.mv (.c (.int .i64 0))⟩]) (.seq (.reg [⟨some 7,none,.mv (.c (.int .i64 17))⟩]) (.seq (.seq (.reg [⟨some 8,none,.mv (.c (.int .i64 0))⟩]) (.block 0 (.loop [1,1,1,0,0,0,0,1,1,0,0,0,0,0,0,0,0,0,0,0,0,0,0,0,0,0,0,0,0,0,0,0,0,0,0,0,0,0,0,0,0,0,0,0,0,0,0,0,0,0,0,0] (.seq (.seq (.reg [⟨some 10,none,.mv (.t 8)⟩,⟨some 11,none,.mv (.t 1)⟩,⟨some 12,none,.len true (.t 11)⟩,⟨some 13,none,.bin .lss false (.t 10) (.t 12)⟩]) (.cond (.t 13) .skip (.exit 0))) (.seq (.block 1 (.reg [⟨some 16,none,.mv (.t 7)⟩,⟨some 17,none,.bin .mul false (.c (.int .i64 31)) (.t 16)⟩,⟨some 18,none,.mv (.t 1)⟩,⟨some 19,none,.mv (.t 8)⟩,⟨some 20,none,.idx (.t 18) (.t 19)⟩,⟨some 21,none,.conv .i64 (.t 20)⟩,⟨some 22,none,.bin .add false (.t 17) (.t 21)⟩,⟨some 23,none,.bin .rem false (.t 22) (.c (.int .i64 65521))⟩,⟨some 7,none,.mv (.t 23)⟩])) (.reg [⟨some 14,none,.mv (.t 8)⟩,⟨some 15,none,.bin .add false (.t 14) (.c (.int .i64 1))⟩,⟨some 8,none,.mv (.t 15)⟩])))))) (.seq (.seq (.reg [⟨some 9,none,.mv (.c (.int .i64 0))⟩]) (.block 2 (.loop [1,0,1,0,0,0,0,1,0,1,0,0,0,0,0,0,0,0,0,0,0,0,0,0,0,0,0,0,0,0,0,0,0,0,0,0,0,0,0,0,0,0,0,0,0,0,0,0,0,0,0,0] (.seq (.seq (.reg [⟨some 24,none,.mv (.t 9)⟩,⟨some 25,none,.mv (.t 2)⟩,⟨some 26,none,.len false (.t 25)⟩,⟨some 27,none,.bin .lss false (.t 24) (.t 26)⟩]) (.cond (.t 27) .skip (.exit 2))) (.seq (.block 3 (.reg [⟨some 30,none,.mv (.t 7)⟩,⟨some 31,none,.bin .mul false (.c (.int .i64 37)) (.t 30)⟩,⟨some 32,none,.mv (.t 2)⟩,⟨some 33,none,.mv (.t 9)⟩,⟨some 34,none,.iaddr 1 (.t 32) (.t 33)⟩,⟨some 35,none,.load false 1 (.t 34)⟩,⟨some 36,none,.bin .add false (.t 31) (.t 35)⟩,⟨some 37,none,.bin .add false (.t 36) (.c (.int .i64 1))⟩,⟨some 38,none,.bin .rem false (.t 37) (.c (.int .i64 65521))⟩,⟨some 7,none,.mv (.t 38)⟩])) (.reg [⟨some 28,none,.mv (.t 9)⟩,⟨some 29,none,.bin .add false (.t 28) (.c (.int .i64 1))⟩,⟨some 9,none,.mv (.t 29)⟩])))))) (.seq (.reg [⟨some 39,none,.mv (.t 7)⟩,⟨some 40,none,.mv (.t 0)⟩,⟨some 41,none,.mv (.t 7)⟩,⟨some 42,none,.bin .rem false (.t 41) (.c (.int .i64 53))⟩,⟨some 43,none,.call 14 [(.t 40),(.t 42)]⟩,⟨some 44,none,.bin .mul false (.c (.int .i64 13)) (.t 43)⟩,⟨some 45,none,.bin .add false (.t 39) (.t 44)⟩,⟨some 46,none,.mv (.t 0)⟩,⟨some 47,none,.mv (.t 7)⟩,⟨some 48,none,.bin .rem false (.t 47) (.c (.int .i64 89))⟩,⟨some 49,none,.call 14 [(.t 46),(.t 48)]⟩,⟨some 50,none,.bin .add false (.t 45) (.t 49)⟩,⟨some 51,none,.bin .quo false (.t 50) (.c (.int .i64 3))⟩,⟨some 6,none,.mv (.t 51)⟩]) .ret)))))
theorem TS:At Tryz.prog 75=some ⟨52,Ns,[(.tmp 6)]⟩:=by kernel_rfl
theorem E7:modes 75=⟨[],.asis,none,false⟩:=by unfold modes; rfl
def El:SC:=(.seq (.reg [⟨some 6,none,.boxv 39 2 (.t 2)⟩,⟨some 7,none,.boxv 26 2 (.t 3)⟩,⟨some 8,none,.mv (.c (.int .i64 0))⟩]) (.seq (.seq (.reg [⟨some 11,none,.faddr 1 (.t 7)⟩,⟨some 12,none,.load false 1 (.t 11)⟩,⟨some 13,none,.len false (.t 12)⟩,⟨some 14,none,.bin .eql false (.t 13) (.c (.int .i64 0))⟩,⟨some 15,none,.mv (.t 14)⟩,⟨(some 16),(some (15,true)),(.faddr 0 (.t 7))⟩,⟨(some 17),(some (15,true)),(.load false 1 (.t 16))⟩,⟨(some 18),(some (15,true)),(.len true (.t 17))⟩,⟨(some 19),(some (15,true)),(.bin .gtr false (.t 18) (.c (.int .i64 0)))⟩,⟨some 20,none,.pick (.t 15) (.t 19) (.c (.bool false))⟩,⟨some 21,none,.mv (.t 20)⟩,⟨(some 22),(some (21,true)),(.faddr 0 (.t 7))⟩,⟨(some 23),(some (21,true)),(.load false 1 (.t 22))⟩,⟨(some 24),(some (21,true)),(.idx (.t 23) (.c (.int .i64 0)))⟩,⟨(some 25),(some (21,true)),(.bin .geq false (.t 24) (.c (.int .u8 65)))⟩,⟨some 26,none,.pick (.t 21) (.t 25) (.c (.bool false))⟩,⟨some 27,none,.mv (.t 26)⟩,⟨(some 28),(some (27,true)),(.faddr 0 (.t 7))⟩,⟨(some 29),(some (27,true)),(.load false 1 (.t 28))⟩,⟨(some 30),(some (27,true)),(.idx (.t 29) (.c (.int .i64 0)))⟩,⟨(some 31),(some (27,true)),(.bin .leq false (.t 30) (.c (.int .u8 90)))⟩,⟨some 32,none,.pick (.t 27) (.t 31) (.c (.bool false))⟩]) (.cond (.t 32) (.seq (.reg [⟨some 33,none,.load true 2 (.t 6)⟩,⟨some 34,none,.faddr 0 (.t 7)⟩,⟨some 35,none,.load false 1 (.t 34)⟩,⟨some 36,none,.call 125 [(.t 33),(.t 35)]⟩,⟨some 8,none,.mv (.t 36)⟩]) .ret) .skip)) (.seq (.reg [⟨some 37,none,.mkrow 3 1 [(.int .i64 0)] 0 []⟩,⟨some 9,none,.mv (.t 37)⟩]) (.seq (.seq (.reg [⟨some 10,none,.mv (.c (.int .i64 0))⟩]) (.block 0 (.loop [1,1,0,0,0,0,1,1,0,1,1,0,0,0,0,0,0,0,0,0,0,0,0,0,0,0,0,0,0,0,0,0,0,0,0,0,0,0,0,0,0,0,0,0,0,0,0,0,0,0,0,0,0,0,0,0,0,0,0,0,0,0,0,0] (.seq (.seq (.reg [⟨some 38,none,.mv (.t 10)⟩,⟨some 39,none,.faddr 1 (.t 7)⟩,⟨some 40,none,.load false 1 (.t 39)⟩,⟨some 41,none,.len false (.t 40)⟩,⟨some 42,none,.bin .lss false (.t 38) (.t 41)⟩]) (.cond (.t 42) .skip (.exit 0))) (.seq (.block 1 (.dreg [[],[],[],[],[],[4],[],[5,4,6],[7,5,4,6],[1,2,3,8,7,5,4,6],[9,1,2,3,8,7,5,4,6],[0,10,9,1,2,3,8,7,5,4,6],[11,0,10,9,1,2,3,8,7,5,4,6]] [⟨some 45,none,.mv (.t 9)⟩,⟨some 46,none,.mv (.t 0)⟩,⟨some 47,none,.mv (.t 1)⟩,⟨some 48,none,.load true 2 (.t 6)⟩,⟨some 49,none,.faddr 1 (.t 7)⟩,⟨some 50,none,.load false 1 (.t 49)⟩,⟨some 51,none,.mv (.t 10)⟩,⟨some 52,none,.iaddr 2 (.t 50) (.t 51)⟩,⟨some 53,none,.load true 2 (.t 52)⟩,⟨some 54,none,.call 74 [(.t 46),(.t 47),(.t 48),(.t 53)]⟩,⟨some 55,none,.mkrow 3 1 [(.int .i64 0)] 1 [(0,(.t 54))]⟩,⟨some 56,none,.append 3 1 8 [(.int .i64 0)] (.t 45) (.t 55)⟩,⟨some 9,none,.mv (.t 56)⟩])) (.reg [⟨some 43,none,.mv (.t 10)⟩,⟨some 44,none,.bin .add false (.t 43) (.c (.int .i64 1))⟩,⟨some 10,none,.mv (.t 44)⟩])))))) (.seq (.reg [⟨some 57,none,.mv (.t 0)⟩,⟨some 58,none,.faddr 0 (.t 7)⟩,⟨some 59,none,.load false 1 (.t 58)⟩,⟨some 60,none,.mv (.t 9)⟩,⟨some 61,none,.call 75 [(.t 57),(.t 59),(.t 60)]⟩,⟨some 62,none,.mv (.t 1)⟩,⟨some 63,none,.bin .rem false (.t 61) (.t 62)⟩,⟨some 8,none,.mv (.t 63)⟩]) .ret)))))
theorem FA:At Tryz.prog 74=some ⟨64,El,[(.tmp 8)]⟩:=by kernel_rfl
theorem C9:modes 74=⟨[],.asis,none,false⟩:=by unfold modes; rfl
theorem Px (e:Ev) (he:e.length≤1099511627776) (n:ByteArray) (v:Int):E 13 [veS e,.str n,.int .i64 v] []=some (veS (e++[(n,v)]),[]):=by
 rw [Zt]
 refine Ai MM Bv (of_decide_eq_true rfl) ?_
 simp (disch:=omega) only [Ip,go_sem,Ab,Qa8,Zu,QbA,Zv,Qa9,Zw,QbB,Zx]
theorem Qcj (e:Ev) (hl:e.length≤1099511627776) (s:ByteArray):E 125 [veS e,.str s] []=some (.int .i64 (C0 e s),[]):=by
 refine Ai N8 IU (of_decide_eq_true rfl) ?_
 simp (disch:=omega) only [IT,go_sem,Ab]
 refine go_loop (α:=Int) (fun i=>⟨slots 26 0 [(1,.str s),(2,.ptr 0 0),(5,.int .i64 i)],[.box 39 [.arr (e.map nmD),.arr (e.map viD)]]⟩) (fun i=>∃ k:Nat,i=(k:Int)-1∧k≤e.length∧C0 (e.take k) s=C0 e s) (fun i=>(i+1).toNat) ((e.length:Int)-1) ⟨e.length,rfl,yC _,by rw [yV]⟩ (by simp (disch:=omega) only [go_sem,Ab]) ?_
 rintro i ⟨k0,hi,hk,hR⟩
 rcases zO k0 with h0 | h0
 ·subst h0
  obtain rfl:i=-1:=by omega
  have hR:(0:Int)=C0 e s:=hR
  rw [←hR]
  simp (disch:=omega) only [go_sem,Ab]
 ·obtain ⟨k,rfl⟩:∃ k,k0=k+1:=⟨k0-1,by omega⟩
  have hlt:k<e.length:=by omega
  have hni:i.toNat=k:=by omega
  have hg:=get_at nmD hlt
  have hgv:=get_at viD hlt
  rw [zU hlt,Qb9] at hR
  cases hd:dec (e[k].1=s) with
  | true =>
   have hds:=Aw.1 hd
   have hdv:C0 e s=e[k].2:=by
    rw [←hR,← hds,T1]
   rw [hdv]
   simp (disch:=omega) only [go_sem,Ab,hni,hg,hgv,hd]
  | false =>
   have hds:=F2.1 hd
   rw [JT (fun h=>hds h.symm)] at hR
   simp (disch:=omega) only [go_sem,Ab,hni,hg,hgv,hd]
   exact ⟨i-1,⟨k,by omega,by omega,hR⟩,by omega,by first | trivial | rfl | exact ⟨rfl,rfl⟩⟩
theorem TT (l:List Int) (hl:Bytes l) (hn:l.length≤1099511627776) (i:Int) (h0:0≤i) (h1:i≤100):E 14 [.arr (l.map by_),.int .i64 i] []=some (.int .i64 (D6 l i),[]):=by
 by_cases hlt:i<l.length
 ·have hg:=get_at by_ (show i.toNat<l.length by omega)
  have hb:=hl _ (zD (show i.toNat<l.length by omega))
  have hi:dec (inK .i64 l[i.toNat])=true:=B9 (by omega) (by omega)
  have q1:(i<(l.length:Int))=True:=eq_true (by omega)
  have hz:D6 l i=l[i.toNat]:=by
   unfold D6
   rw [if_pos hlt,zZ,z8 (by omega)]; rfl
  rw [hz]
  refine Ai Pw Do (of_decide_eq_true rfl) ?_
  simp (disch:=omega) only [Ld,go_sem,Ab,q1,hg,hi]
 ·have q1:(i<(l.length:Int))=False:=eq_false (by omega)
  have q2:((256:Int)=0)=False:=eq_false (by omega)
  have hz:D6 l i=(i*7+l.length).tmod 256:=by
   unfold D6
   rw [if_neg hlt]
  have hi:dec (inK .i64 (i*7))=true:=B9 (by omega) (by omega)
  have hi2:dec (inK .i64 (i*7+l.length))=true:=B9 (by omega) (by omega)
  rw [hz]
  refine Ai Pw Do (of_decide_eq_true rfl) ?_
  simp (disch:=omega) only [Ld,go_sem,Ab,q1,q2,hi,hi2]
theorem Zy (l:List Int) (hl:Bytes l) (hn:l.length≤1099511627776) (nm:ByteArray) (hm:nm.size≤1048576) (vs:List Int) (hvl:vs.length≤1048576) (hv:∀ v∈vs,0≤v∧v≤65535):E 75 [.arr (l.map by_),.str nm,.arr (vs.map iD)] []=some (.int .i64 (RU l nm vs),[]):=by
 have m0:Ft nm 0=17:=rfl
 have z1:((65521:Int)=0)=False:=eq_false (by omega)
 refine Ai TS E7 (of_decide_eq_true rfl) ?_
 simp (disch:=omega) only [Ns,go_sem,Ab]
 refine go_loop (α:=Nat) (fun k=>⟨slots 52 0 [(0,.arr (l.map by_)),(1,.str nm),(2,.arr (vs.map iD)),(7,.int .i64 (Ft nm k)),(8,.int .i64 ((k:Nat):Int))],[]⟩) (fun k=>k≤nm.size) (fun k=>nm.size-k) 0 (zK _) (by simp (disch:=omega) only [go_sem,Ab,m0,yW]) ?_
 intro k hk
 rcases zC k nm.size with hlt | hge
 ·have q1:((k:Int)<(nm.size:Int))=True:=eq_true (by omega)
  have hr:=LN nm k
  have hb:=Pt nm k
  have e1:Ft nm (k+1)=(31*Ft nm k+Ec nm k).tmod 65521:=rfl
  have i1:dec (inK .i64 (31*Ft nm k))=true:=B9 (by omega) (by omega)
  have i2:dec (inK .i64 (31*Ft nm k+Ec nm k))=true:=B9 (by omega) (by omega)
  have i3:dec (inK .i64 (Ec nm k))=true:=B9 (by omega) (by omega)
  simp (disch:=omega) only [go_sem,Ab,q1,z1,i1,i2,i3]
  refine ⟨k+1,hlt,by omega,?_⟩
  rw [e1]
  first | rfl | exact ⟨rfl,rfl⟩
 ·obtain rfl:k=nm.size:=by omega
  have q1:((nm.size:Int)<(nm.size:Int))=False:=eq_false (by omega)
  have v0:Ig (Ft nm nm.size) vs 0=Ft nm nm.size:=rfl
  have hh:=LN nm nm.size
  simp (disch:=omega) only [go_sem,Ab,q1]
  refine go_loop (α:=Nat) (fun k=>⟨slots 52 0 [(0,.arr (l.map by_)),(2,.arr (vs.map iD)),(7,.int .i64 (Ig (Ft nm nm.size) vs k)),(9,.int .i64 ((k:Nat):Int))],[]⟩) (fun k=>k≤vs.length) (fun k=>vs.length-k) 0 (zK _) (by simp (disch:=omega) only [go_sem,Ab,v0,yW]) ?_
  intro k hk
  have hr:=Pu hh hv k
  rcases zC k vs.length with hlt | hge
  ·have q1:((k:Int)<(vs.length:Int))=True:=eq_true (by omega)
   have hg:=get_at iD hlt
   have hb:=hv _ (zD hlt)
   have e1:Ig (Ft nm nm.size) vs (k+1)=(37*Ig (Ft nm nm.size) vs k+vs[k]+1).tmod 65521:=by
    rw [Ig,zZ,z8 hlt]; rfl
   have i1:dec (inK .i64 (37*Ig (Ft nm nm.size) vs k))=true:=B9 (by omega) (by omega)
   have i2:dec (inK .i64 (37*Ig (Ft nm nm.size) vs k+vs[k]))=true:=B9 (by omega) (by omega)
   have i3:dec (inK .i64 (37*Ig (Ft nm nm.size) vs k+vs[k]+1))=true:=B9 (by omega) (by omega)
   simp (disch:=omega) only [go_sem,Ab,q1,z1,hg,i1,i2,i3]
   refine ⟨k+1,hlt,by omega,?_⟩
   rw [e1]
   first | rfl | exact ⟨rfl,rfl⟩
  ·obtain rfl:k=vs.length:=by omega
   have q1:((vs.length:Int)<(vs.length:Int))=False:=eq_false (by omega)
   have hz:RU l nm vs=(Ig (Ft nm nm.size) vs vs.length+13*D6 l ((Ig (Ft nm nm.size) vs vs.length).tmod 53)+D6 l ((Ig (Ft nm nm.size) vs vs.length).tmod 89)).tdiv 3:=rfl
   rw [hz]
   generalize Ig (Ft nm nm.size) vs vs.length=h at *
   have a1:=Gc hr.1 (show (0:Int)<53 by omega)
   have a2:=Gc hr.1 (show (0:Int)<89 by omega)
   have b1:=Ha hl a1.1
   have b2:=Ha hl a2.1
   have c1:=TT l hl hn (h.tmod 53) (by omega) (by omega)
   have c2:=TT l hl hn (h.tmod 89) (by omega) (by omega)
   have c:=Zr (show 0≤h+13*D6 l (h.tmod 53)+D6 l (h.tmod 89) by omega)
   have z2:((53:Int)=0)=False:=eq_false (by omega)
   have z3:((89:Int)=0)=False:=eq_false (by omega)
   have z4:((3:Int)=0)=False:=eq_false (by omega)
   have i1:dec (inK .i64 (13*D6 l (h.tmod 53)))=true:=B9 (by omega) (by omega)
   have i2:dec (inK .i64 (h+13*D6 l (h.tmod 53)))=true:=B9 (by omega) (by omega)
   have i3:dec (inK .i64 (h+13*D6 l (h.tmod 53)+D6 l (h.tmod 89)))=true:=B9 (by omega) (by omega)
   have i4:dec (inK .i64 ((h+13*D6 l (h.tmod 53)+D6 l (h.tmod 89)).tdiv 3))=true:=B9 (by omega) (by omega)
   simp (disch:=omega) only [go_sem,Ab,q1,z2,z3,z4,c1,c2,i1,i2,i3,i4,Do]
theorem XA (l:List Int) (hl:Bytes l) (hn:l.length≤1099511627776) (n:Int) (hn0:1≤n∧n≤65535) (e:Ev) (he:e.length≤1099511627776) (hE:EnvOk e) (x:Tm) (hx:x.names=true) (hxn:x.nodes≤1048576) (ih:∀ y∈x.args,E 74 [.arr (l.map by_),.int .i64 n,veS e,y.sv] []=some (.int .i64 (y.val l n (C0 e)),[])):E 74 [.arr (l.map by_),.int .i64 n,veS e,x.sv] []=some (.int .i64 (x.val l n (C0 e)),[]):=by
 have hlen:=Tm.length_le x.args
 have hne:=Tm.nodes_eq x
 have hck:=Tm.JR x hx
 rw [Tm.R1,zQ] at hck
 obtain ⟨hsz,hup⟩:=QC hck.1
 have hgt:=Qcj e he x.name
 have s1:((0:Int)<(x.name.size:Int))=True:=eq_true (by omega)
 have z0:(n=0)=False:=eq_false (by omega)
 have hs6:x.name.size≤6:=by
  rw [Tm.Id] at hx
  split at hx
  ·rename_i hv; exact Xq hv
  ·rw [zQ,zQ] at hx; exact Q9 hx.1.1
 have hmx:=Zy l hl hn x.name (by omega) (x.args.map (Tm.val l n (C0 e))) (by rw [zV]; omega) fun v hv=>by
  obtain ⟨y,hy,rfl⟩:=yP.1 hv
  exact Tm.LO hl hn0 (Pv e hE) y
 rw [Tm.ID]
 cases hv:AS x.name with
 | true =>
  have hx0:=Tm.G2 hx hv
  rw [hv,zQ] at hup
  obtain ⟨u1,u2⟩:=hup
  have q0:((x.args.length:Int)=0)=True:=eq_true (by rw [hx0]; rfl)
  rw [cond_true]
  refine Ai FA C9 (of_decide_eq_true rfl) ?_
  simp (disch:=omega) only [El,go_sem,Ab,q0,s1,u1,u2,hgt,IU]
 | false =>
  rw [cond_false]
  rw [hv] at hup
  by_cases hx0:x.args.length=0
  ·have q0:((x.args.length:Int)=0)=True:=eq_true (by omega)
   cases u1:dec (65≤Ec x.name 0) with
   | false =>
    refine Ai FA C9 (of_decide_eq_true rfl) ?_
    simp (disch:=omega) only [El,go_sem,Ab,q0,s1,u1]
    refine go_loop (α:=Int × (List Int)) (fun a=>⟨slots 64 0 [(0,.arr (l.map by_)),(1,.int .i64 n),(6,.ptr 0 0),(7,.ptr 1 0),(9,.ref 2),(10,.int .i64 (a.1))],[.box 39 [.arr (e.map nmD),.arr (e.map viD)],.box 26 [.str x.name,.arr (x.args.map Tm.d)],.row 3 1 ((a.2).map iO)]⟩) (fun a=>∃ k:Nat,a.1=k∧k≤(x.args).length∧(a.2)=(x.args.take k).map (Tm.val l n (C0 e))) (fun a=>(x.args).length-(a.1).toNat) (0,[]) ⟨0,rfl,zK _,by rw [yK]; rfl⟩ (by simp (disch:=omega) only [go_sem,Ab]) ?_
    rintro ⟨i,acc⟩ ⟨k,hi,hk,hR⟩
    dsimp only at hi hR
    have hni:i.toNat=k:=by omega
    have hni1:(i+1).toNat=k+1:=by omega
    rcases zC k (x.args).length with hlt | hge
    ·have hg:=get_at Tm.d hlt
     rw [Tm.d_eq] at hg
     have hc:=ih x.args[k] (zD hlt)
     have hal:acc.length=k:=by rw [hR,zV,yA]; omega
     simp (disch:=omega) only [go_sem,Ab,hni,hg,hc,C9]
     refine ⟨(i+1,acc++[x.args[k].val l n (C0 e)]),⟨k+1,by dsimp only; omega,hlt,?_⟩,by dsimp only; omega,?_⟩
     ·dsimp only
      rw [zU hlt,zM,← hR]; rfl
     ·simp (disch:=omega) only [go_sem,Ab,zM]
    ·have hR:acc=x.args.map (Tm.val l n (C0 e)):=by rw [hR,yD hge]
     rw [←hR] at hmx ⊢
     simp (disch:=omega) only [go_sem,Ab,hni,Ps,II,MH,MJ,Rc,E7,hmx,z0]
   | true =>
    rw [u1,zF] at hup
    refine Ai FA C9 (of_decide_eq_true rfl) ?_
    simp (disch:=omega) only [El,go_sem,Ab,q0,s1,u1,hup]
    refine go_loop (α:=Int × (List Int)) (fun a=>⟨slots 64 0 [(0,.arr (l.map by_)),(1,.int .i64 n),(6,.ptr 0 0),(7,.ptr 1 0),(9,.ref 2),(10,.int .i64 (a.1))],[.box 39 [.arr (e.map nmD),.arr (e.map viD)],.box 26 [.str x.name,.arr (x.args.map Tm.d)],.row 3 1 ((a.2).map iO)]⟩) (fun a=>∃ k:Nat,a.1=k∧k≤(x.args).length∧(a.2)=(x.args.take k).map (Tm.val l n (C0 e))) (fun a=>(x.args).length-(a.1).toNat) (0,[]) ⟨0,rfl,zK _,by rw [yK]; rfl⟩ (by simp (disch:=omega) only [go_sem,Ab]) ?_
    rintro ⟨i,acc⟩ ⟨k,hi,hk,hR⟩
    dsimp only at hi hR
    have hni:i.toNat=k:=by omega
    have hni1:(i+1).toNat=k+1:=by omega
    rcases zC k (x.args).length with hlt | hge
    ·have hg:=get_at Tm.d hlt
     rw [Tm.d_eq] at hg
     have hc:=ih x.args[k] (zD hlt)
     have hal:acc.length=k:=by rw [hR,zV,yA]; omega
     simp (disch:=omega) only [go_sem,Ab,hni,hg,hc,C9]
     refine ⟨(i+1,acc++[x.args[k].val l n (C0 e)]),⟨k+1,by dsimp only; omega,hlt,?_⟩,by dsimp only; omega,?_⟩
     ·dsimp only
      rw [zU hlt,zM,← hR]; rfl
     ·simp (disch:=omega) only [go_sem,Ab,zM]
    ·have hR:acc=x.args.map (Tm.val l n (C0 e)):=by rw [hR,yD hge]
     rw [←hR] at hmx ⊢
     simp (disch:=omega) only [go_sem,Ab,hni,Ps,II,MH,MJ,Rc,E7,hmx,z0]
  ·have q0:((x.args.length:Int)=0)=False:=eq_false (by omega)
   refine Ai FA C9 (of_decide_eq_true rfl) ?_
   simp (disch:=omega) only [El,go_sem,Ab,q0,s1]
   refine go_loop (α:=Int × (List Int)) (fun a=>⟨slots 64 0 [(0,.arr (l.map by_)),(1,.int .i64 n),(6,.ptr 0 0),(7,.ptr 1 0),(9,.ref 2),(10,.int .i64 (a.1))],[.box 39 [.arr (e.map nmD),.arr (e.map viD)],.box 26 [.str x.name,.arr (x.args.map Tm.d)],.row 3 1 ((a.2).map iO)]⟩) (fun a=>∃ k:Nat,a.1=k∧k≤(x.args).length∧(a.2)=(x.args.take k).map (Tm.val l n (C0 e))) (fun a=>(x.args).length-(a.1).toNat) (0,[]) ⟨0,rfl,zK _,by rw [yK]; rfl⟩ (by simp (disch:=omega) only [go_sem,Ab]) ?_
   rintro ⟨i,acc⟩ ⟨k,hi,hk,hR⟩
   dsimp only at hi hR
   have hni:i.toNat=k:=by omega
   have hni1:(i+1).toNat=k+1:=by omega
   rcases zC k (x.args).length with hlt | hge
   ·have hg:=get_at Tm.d hlt
    rw [Tm.d_eq] at hg
    have hc:=ih x.args[k] (zD hlt)
    have hal:acc.length=k:=by rw [hR,zV,yA]; omega
    simp (disch:=omega) only [go_sem,Ab,hni,hg,hc,C9]
    refine ⟨(i+1,acc++[x.args[k].val l n (C0 e)]),⟨k+1,by dsimp only; omega,hlt,?_⟩,by dsimp only; omega,?_⟩
    ·dsimp only
     rw [zU hlt,zM,← hR]; rfl
    ·simp (disch:=omega) only [go_sem,Ab,zM]
   ·have hR:acc=x.args.map (Tm.val l n (C0 e)):=by rw [hR,yD hge]
    rw [←hR] at hmx ⊢
    simp (disch:=omega) only [go_sem,Ab,hni,Ps,II,MH,MJ,Rc,E7,hmx,z0]
theorem TU (l:List Int) (hl:Bytes l) (hn:l.length≤1099511627776) (n:Int) (hn0:1≤n∧n≤65535) (e:Ev) (he:e.length≤1099511627776) (hE:EnvOk e) (x:Tm) (hx:x.names=true) (hxn:x.nodes≤1048576):E 74 [.arr (l.map by_),.int .i64 n,veS e,x.sv] []=some (.int .i64 (x.val l n (C0 e)),[]) :=
 XA l hl hn n hn0 e he hE x hx hxn fun y hy=>TU l hl hn n hn0 e he hE y (Tm.DS hx hy) (by have:=Tm.nodes_mem hy; have:=Tm.nodes_eq x; omega)
termination_by SizeOf.sizeOf x
decreasing_by exact Tm.lt_of_mem hy
end Go.Proofs.YtkmenhhapfombaaGreatDoor
