/-
  Texts of this claim, one behind the other, each built on those ahead of it. No condition.
-/
import Derived.Test.YtjkcamgfimpggaaK23a
import Derived.Test.YtjkcamgfimpggaaK23b
import Derived.Laws.IdiomStrings
import Derived.Shelf.GgSortFunc.InsertionK
import Derived.Shelf.Sort.Plain
import Derived.Sort.EncStr
import Derived.Shelf.SlLaysF0
import Derived.Test.YtjkcamgfimpggaaChecked
import Derived.Shelf.SlSortCmp.NoneTotal
set_option maxHeartbeats 16000000
open Bool renaming and_eq_true → zA, and_self → zI, and_true → zT, and_false → zU, or_eq_false_iff → z6, false_or → yL, or_eq_true → yM, false_and → yP, true_and → yX
open List renaming map_cons → zB, length_replicate → zC, replicate → zE, eq_nil_of_length_eq_zero → zF, getElem_mem → zH, map_nil → zL, getElem?_eq_getElem → zM, drop_eq_getElem_cons → zO, drop_eq_nil_of_le → zQ, mem_cons → zV, length_map → zX, drop_zero → zY, all_eq_true → zZ, map_append → z2, length_cons → z7, cons_append → z8, length_nil → yA, set_cons_zero → yC, set_cons_succ → yD, getElem_cons_succ → yF, take_succ_eq_append_getElem → yH, getElem?_eq_none → yI, getElem_map → yJ, finRange → yK, nil_append → yU, take_zero → yV, any_cons → yW
open Nat renaming lt_or_ge → zD, eq_zero_or_pos → zJ, zero_le → zN, le_max_right → zS, le_max_left → zW, le_refl → z1, lt_of_lt_of_le → yB, le_succ → yR
open Option.some renaming injEq → zG, inj → zK
open Prod.mk renaming injEq → zP, inj → yE
open List.cons renaming injEq → zR
open Int renaming toNat_natCast → yG
open Array renaming getD_eq_getD_getElem? → yN, getElem?_eq_some_iff → yO, getElem?_eq_getElem → yQ
open Option renaming getD_some → yS, getD_none → yT
set_option maxRecDepth 100000
set_option linter.unusedSimpArgs false
set_option linter.unusedVariables false
set_option linter.unusedSectionVars false
namespace Go.Proofs.Ytjkcamgfimpggaa
open Go.RowKit
variable [Flag]
def ELe (E E':FEnv):Prop:=∀ f xs ob r,E f xs ob=some r→E' f xs ob=some r
def CLe (C C':CallF):Prop:=∀ f xs ob r,C f xs ob=some r→C' f xs ob=some r
theorem LD {hd:List Bool} {E E':FEnv} (h:ELe E E') {f:FuncId} {xs:List SV} {ob:List Ob} {sel:List Nat} {r:R3} (hr:CJ hd E f xs ob sel=some r):CJ hd E' f xs ob sel=some r:=by
 unfold CJ at hr ⊢
 split at hr
 ·obtain ⟨h1,h2⟩:=Al hr
  rw [h1]
  split at h2
  ·rename_i r0 fob' he
   rw [cond_true,h _ _ _ _ he]
   exact h2
  ·cases h2
 ·cases hr
theorem Pi {m:RM} {a b:Option R3} (h:∀ r,a=some r→b=some r) {r:R3} (hr:EO m a=some r):EO m b=some r:=by
 cases m with
 | asis=>exact h r hr
 | frz=>exact h r hr
 | own l=>exact h r hr
 | tr l=>exact h r hr
 | half l=>exact h r hr
 | halfg d n l=>exact h r hr
 | frzg d n=>exact h r hr
 | frl l=>exact h r hr
 | late =>
  cases a with
  | none=>cases hr
  | some q=>rw [h q rfl]; exact hr
theorem DT {M:FuncId→FM} {E E':FEnv} (h:ELe E E'):CLe (CB M E) (CB M E'):=fun f xs ob r hr=>Pi (fun r hr=>LD h hr) hr
section
variable {P:Program} {C C':CallF}
theorem Ss (h:CLe C C') {so:SOp} {sl:List SV} {ob:List Ob} {r:R3} (hr:fOp P C so sl ob=some r):fOp P C' so sl ob=some r:=by
 cases so
 case call f args=>exact h _ _ _ _ hr
 case callv x args =>
  simp only [fOp] at hr ⊢
  split at hr
  ·obtain ⟨h1,h2⟩:=Al hr
   rw [h1]
   exact h _ _ _ _ h2
  ·cases hr
 all_goals exact hr
theorem Gm (h:CLe C C') {o:SOper} {st:St} {r:Ent × St} (hr:EN P C o st=some r):EN P C' o st=some r:=by
 have one:∀ r,Gi o.dst st (fOp P C o.op st.sl st.ob)=some r→Gi o.dst st (fOp P C' o.op st.sl st.ob)=some r:=fun r hr=>by
  cases he:fOp P C o.op st.sl st.ob with
  | none=>rw [he] at hr; cases hr
  | some q=>rw [Ss h he]; rw [he] at hr; exact hr
 unfold EN at hr ⊢
 split at hr
 ·exact one _ hr
 ·split at hr
  ·cases hb:OZ _ _ with
   | true=>rw [hb] at hr; exact one _ hr
   | false=>rw [hb] at hr; exact hr
  ·exact hr
  ·cases hr
theorem Ja (h:CLe C C'):∀ {l:List SOper} {st st':St},KA P C l st=some st'→KA P C' l st=some st'
 | [],st,st',hr=>hr
 | o :: r,st,st',hr=>by
  simp only [KA] at hr ⊢
  split at hr
  ·rename_i e st1 h1
   rw [Gm h h1]
   exact Ja h hr
  ·cases hr
theorem Jb (h:CLe C C'):∀ {l:List SOper} {acc:List Ent} {st:St} {r:List Ent × St},D2 P C l acc st=some r→D2 P C' l acc st=some r
 | [],acc,st,r,hr=>hr
 | o :: l,acc,st,r,hr=>by
  simp only [D2] at hr ⊢
  split at hr
  ·rename_i e st1 h1
   rw [Gm h h1]
   exact Jb h hr
  ·cases hr
def LLe (L L':LoopF):Prop:=∀ mi keep (step step':St→Option (X × St)) st o,(∀ st o,step st=some o→step' st=some o)→L mi keep step st=some o→L' mi keep step' st=some o
theorem Gn {r r':Option (X × St)} {k k':St→Option (X × St)} {o:X × St} (h1:∀ o,r=some o→r'=some o) (h2:∀ st o,k st=some o→k' st=some o) (h:C5 r k=some o):C5 r' k'=some o:=by
 unfold C5 at h
 split at h
 ·rw [h1 _ rfl]; exact h2 _ _ h
 ·rw [h1 _ rfl]; exact h
 ·rw [h1 _ rfl]; exact h
 ·cases h
theorem NZ {id:Nat} {r r':Option (X × St)} {o:X × St} (h1:∀ o,r=some o→r'=some o) (h:Gl id r=some o):Gl id r'=some o:=by
 cases r with
 | none=>cases h
 | some q=>rw [h1 _ rfl]; exact h
theorem Ef (h:CLe C C') {L L':LoopF} (hL:LLe L L'):∀ (sc:SC) (st:St) (o:X × St),fr P C L sc st=some o→fr P C' L' sc st=some o
 | .skip,st,o,hr=>hr
 | .reg ops,st,o,hr=>by
  simp only [fr] at hr ⊢
  split at hr
  ·rename_i st' hs
   rw [Ja h hs]; exact hr
  ·cases hr
 | .dreg anc ops,st,o,hr=>by
  simp only [fr] at hr ⊢
  split at hr
  ·rename_i es st' hs
   rw [Jb h hs]; exact hr
  ·cases hr
 | .seq a b,st,o,hr=>Gn (fun o=>Ef h hL a st o) (fun st o=>Ef h hL b st o) hr
 | .cond q a b,st,o,hr=>by
  simp only [fr] at hr ⊢
  split at hr
  ·rename_i t ht
   cases t with
   | true=>exact Ef h hL a st o hr
   | false=>exact Ef h hL b st o hr
  ·cases hr
 | .block id b,st,o,hr=>NZ (fun o=>Ef h hL b st o) hr
 | .loop keep b,st,o,hr=>hL none keep _ _ st o (fun st o=>Ef h hL b st o) hr
 | .next _ _ _,st,o,hr=>by cases hr
 | .mloop keep keepO it nx more b,st,o,hr=>hL (some ⟨keepO,it,nx,more⟩) keep _ _ st o (fun st o=>Ef h hL b st o) hr
 | .ghost n b,st,o,hr=>Ef h hL b (NY n st) o hr
 | .exit id,st,o,hr=>hr
 | .ret,st,o,hr=>hr
end
theorem DU {n0:Nat} {keep:List Nat} {step step':St→Option (X × St)} (h:∀ st o,step st=some o→step' st=some o):∀ {n m:Nat} {st:St} {o:X × St},n≤m→D3 n0 keep step n st=some o→D3 n0 keep step' m st=some o
 | 0,m,st,o,_,hr=>by cases hr
 | n+1,0,st,o,hn,hr=>absurd hn (by omega)
 | n+1,m+1,st,o,hn,hr=>Gn (fun o ho=>h _ o ho) (fun st o ho=>DU h (by omega) ho) hr
theorem QO {r r':Option (X × St)} {o:X × St} (h:∀ o,r=some o→r'=some o) (hr:Pd r=some o):Pd r'=some o:=by
 cases r with
 | none=>cases hr
 | some q=>rw [h q rfl]; exact hr
theorem Mo {n0:Nat} {keepO:List Nat} {r r':Option (X × St)} {o:X × St} (h:∀ o,r=some o→r'=some o) (hr:LC n0 keepO r=some o):LC n0 keepO r'=some o:=by
 cases r with
 | none=>cases hr
 | some q=>rw [h q rfl]; exact hr
theorem Ht {n0:Nat} {mi:MI} {keep:List Nat} {step step':St→Option (X × St)} {f:MF} (h:∀ st o,step st=some o→step' st=some o):∀ {l:EL} {seen:List MK} {st:St} {o:X × St},ER n0 mi keep step f l seen st=some o→ER n0 mi keep step' f l seen st=some o
 | [],seen,st,o,hr=>by
  unfold ER at hr ⊢
  split at hr
  ·obtain ⟨h1,h2⟩:=Al hr
   rw [h1,cond_true]
   exact QO (fun o=>h _ o) h2
  ·cases hr
 | (k,x) :: l,seen,st,o,hr=>by
  unfold ER at hr ⊢
  split at hr
  ·obtain ⟨h1,h2⟩:=Al hr
   rw [h1,cond_true]
   exact Gn (fun o=>h _ o) (fun st o=>Ht h) h2
  ·cases hr
theorem KN {n0:Nat} {mi:MI} {keep:List Nat} {step step':St→Option (X × St)} (h:∀ st o,step st=some o→step' st=some o) {st:St} {o:X × St} (hr:GJ n0 mi keep step st=some o):GJ n0 mi keep step' st=some o:=by
 unfold GJ at hr ⊢
 split at hr
 ·obtain ⟨h1,h2⟩:=EQ.1 hr
  exact EQ.2 ⟨h1,fun l hl=>Mo (fun o=>Ht h) (h2 l hl)⟩
 ·cases hr
theorem J8 {n0:Nat} {mi:Option MI} {keep:List Nat} {step step':St→Option (X × St)} (h:∀ st o,step st=some o→step' st=some o) {n m:Nat} {st:St} {o:X × St} (hn:n≤m) (hr:GK n0 mi keep step n st=some o):GK n0 mi keep step' m st=some o:=by
 cases mi with
 | none=>exact DU h hn hr
 | some mi=>exact KN h hr
theorem Mp {res:RM} {n0:Nat} {rs:List RX} {r:Option (X × St)} {o:SV × List Ob} (h:V6 res n0 rs r=some o):∃ q,r=some q∧fin res n0 rs q.1 q.2=some o:=by
 cases r with
 | none=>cases h
 | some q=>exact ⟨q,rfl,h⟩
theorem KO {P:Program} {M:FuncId→FM} {E E':FEnv} (h:ELe E E') {L L':Nat→LoopF} (hL:∀ n0,LLe (L n0) (L' n0)):ELe (Fu P M E L) (Fu P M E' L'):=by
 intro f xs ob r hr
 unfold Fu at hr ⊢
 split at hr
 ·exact hr
 split at hr
 ·obtain ⟨h1,h2⟩:=Al hr
  rw [h1]
  obtain ⟨q,h3,h4⟩:=Mp h2
  rw [cond_true,Ef (DT h) (hL _) _ _ _ h3]
  exact h4
 ·cases hr
theorem Oa {P:Program} {M:FuncId→FM}:∀ n,ELe (evN P M n) (evN P M (n+1))
 | 0=>fun f xs ob r h=>by cases h
 | n+1=>KO (Oa n) fun n0 mi keep step step' st o hs h=>J8 hs (yR n) h
theorem ES {P:Program} {M:FuncId→FM} {n m:Nat} (h:n≤m):ELe (evN P M n) (evN P M m):=by
 induction h with
 | refl=>exact fun f xs ob r h=>h
 | step _ ih=>exact fun f xs ob r h=>Oa _ _ _ _ _ (ih f xs ob r h)
noncomputable def Mq (n0:Nat):List Nat→(St→Option (X × St))→St→Option (X × St):=fun keep step st =>
 match Classical.propDecidable (∃ n o,D3 n0 keep step n st=some o) with
 | .isTrue h=>D3 n0 keep step (Classical.choose h) st
 | .isFalse _=>none
theorem FX {n0:Nat} {keep:List Nat} {step:St→Option (X × St)} {st:St} {o:X × St}:Mq n0 keep step st=some o ↔ ∃ n,D3 n0 keep step n st=some o:=by
 unfold Mq
 split
 ·rename_i h _
  constructor
  ·intro e; exact ⟨_,e⟩
  ·rintro ⟨n,hn⟩
   obtain ⟨o',ho'⟩:=Classical.choose_spec h
   have h1:=DU (fun _ _ h=>h) (zW n (Classical.choose h)) hn
   have h2:=DU (fun _ _ h=>h) (zS n (Classical.choose h)) ho'
   rw [h1] at h2
   rw [ho',← h2]
 ·rename_i h _
  exact ⟨fun e=>(by cases e),fun ⟨n,hn⟩=>absurd ⟨n,o,hn⟩ h⟩
theorem GM {n0:Nat} {keep:List Nat} {step:St→Option (X × St)} {st:St}:Mq n0 keep step st=C5 (step (canon n0 keep st)) (Mq n0 keep step):=by
 refine Option.ext fun o=>?_
 rw [FX]
 constructor
 ·rintro ⟨n,hn⟩
  cases n with
  | zero=>cases hn
  | succ n=>exact Gn (fun o h=>h) (fun st o ho=>FX.2 ⟨n,ho⟩) hn
 ·intro h
  unfold C5 at h
  split at h
  ·rename_i st' hs
   obtain ⟨n,hn⟩:=FX.1 h
   exact ⟨n+1,by simp only [D3,C5,hs]; exact hn⟩
  ·rename_i i st' hs
   exact ⟨1,by simp only [D3,C5,hs]; exact h⟩
  ·rename_i st' hs
   exact ⟨1,by simp only [D3,C5,hs]; exact h⟩
  ·cases h
noncomputable def HT (n0:Nat):LoopF:=fun mi keep step st =>
 match mi with
 | none=>Mq n0 keep step st
 | some mi=>GJ n0 mi keep step st
theorem W7 {α:Type} (A:List α):∀ (k:Nat) (Q:Nat→List α→Prop),(∀ n m l,n≤m→Q n l→Q m l)→(∀ l:List α,l.length=k→(∀ a,a∈l→a∈A)→∃ n,Q n l)→∃ n,∀ l:List α,l.length=k→(∀ a,a∈l→a∈A)→Q n l
 | 0,Q,_,h=>by
  obtain ⟨n,hn⟩:=h [] rfl (fun a ha=>by cases ha)
  exact ⟨n,fun l hl _=>by rw [zF hl]; exact hn⟩
 | k+1,Q,hQ,h=>by
  have one:∀ a,a∈A→∃ n,∀ l:List α,l.length=k→(∀ b,b∈l→b∈A)→Q n (a :: l):=fun a ha =>
   W7 A k (fun n l=>Q n (a :: l)) (fun n m l hn hq=>hQ n m _ hn hq) fun l hl hm=>h (a :: l) (by simp [hl]) fun b hb=>by
    rcases zV.1 hb with rfl | hb
    ·exact ha
    ·exact hm b hb
  have many:∀ B:List α,(∀ a,a∈B→a∈A)→∃ n,∀ a,a∈B→∀ l:List α,l.length=k→(∀ b,b∈l→b∈A)→Q n (a :: l):=by
   intro B
   induction B with
   | nil=>intro _; exact ⟨0,fun a ha=>by cases ha⟩
   | cons a B ih =>
    intro hB
    obtain ⟨n1,h1⟩:=one a (hB a (by simp))
    obtain ⟨n2,h2⟩:=ih fun b hb=>hB b (by simp [hb])
    refine ⟨max n1 n2,fun b hb l hl hm=>?_⟩
    rcases zV.1 hb with rfl | hb
    ·exact hQ _ _ _ (zW _ _) (h1 l hl hm)
    ·exact hQ _ _ _ (zS _ _) (h2 b hb l hl hm)
  obtain ⟨n,hn⟩:=many A fun _ h=>h
  refine ⟨n,fun l hl hm=>?_⟩
  cases l with
  | nil=>cases hl
  | cons a l=>exact hn a (hm a (by simp)) l (by simpa using hl) fun b hb=>hm b (by simp [hb])
theorem Eo {α:Type}:∀ {l A:List α},l.Nodup→(∀ a,a∈l→a∈A)→l.length≤A.length
 | [],A,_,_=>zN _
 | a :: l,A,hn,hm=>by
  classical
  obtain ⟨h1,h2⟩:=List.nodup_cons.1 hn
  have ha:=hm a (by simp)
  have:=Eo (l:=l) (A:=A.erase a) h2 fun b hb=>by
   have hb':=hm b (by simp [hb])
   exact (List.mem_erase_of_ne (fun e=>h1 (by rw [←e]; exact hb))).2 hb'
  rw [List.length_erase_of_mem ha] at this
  have hp:0<A.length:=List.length_pos_of_mem ha
  simp only [z7]; omega
theorem Enum.nodup {f:MF} {l:EL} (h:Enum f l):l.Nodup:=List.Pairwise.of_map (fun x:MK × MV=>x.1) (fun a b hab e=>hab (by rw [e])) h.nd
theorem Enum.len {f:MF} {l l':EL} (h:Enum f l) (h':Enum f l'):l.length=l'.length :=
 Nat.le_antisymm (Eo h.nodup fun a ha=>(h'.mem a.1 a.2).2 ((h.mem a.1 a.2).1 ha)) (Eo h'.nodup fun a ha=>(h.mem a.1 a.2).2 ((h'.mem a.1 a.2).1 ha))
noncomputable def ev (P:Program) (M:FuncId→FM):FEnv:=fun f xs ob =>
 match Classical.propDecidable (∃ n o,evN P M n f xs ob=some o) with
 | .isTrue h=>evN P M (Classical.choose h) f xs ob
 | .isFalse _=>none
section
variable {P:Program} {M:FuncId→FM}
theorem Na {f:FuncId} {xs:List SV} {ob:List Ob} {o:SV × List Ob}:ev P M f xs ob=some o ↔ ∃ n,evN P M n f xs ob=some o:=by
 unfold ev
 split
 ·rename_i h _
  constructor
  ·intro e; exact ⟨_,e⟩
  ·rintro ⟨n,hn⟩
   obtain ⟨o',ho'⟩:=Classical.choose_spec h
   have h1:=ES (zW n (Classical.choose h)) _ _ _ _ hn
   have h2:=ES (zS n (Classical.choose h)) _ _ _ _ ho'
   rw [h1] at h2
   rw [ho',← h2]
 ·rename_i h _
  exact ⟨fun e=>(by cases e),fun ⟨n,hn⟩=>absurd ⟨n,o,hn⟩ h⟩
theorem Ug (hm:P.follows .mixedOrders=true) (hX:JW P M):Hr P (ev P M):=fun f xs ob r ob' h=>by
 obtain ⟨n,hn⟩:=Na.1 h
 exact KM hm hX n f xs ob r ob' hn
theorem W8 (n:Nat):ELe (evN P M n) (ev P M):=fun f xs ob r h=>Na.2 ⟨n,h⟩
theorem LE {hd:List Bool} {f:FuncId} {xs:List SV} {ob:List Ob} {sel:List Nat} {r:R3} (h:CJ hd (ev P M) f xs ob sel=some r):∃ n,CJ hd (evN P M n) f xs ob sel=some r:=by
 unfold CJ at h
 split at h
 ·rename_i fob hfob
  obtain ⟨h1,h2⟩:=Al h
  split at h2
  ·rename_i r0 fob' he
   obtain ⟨n,hn⟩:=Na.1 he
   refine ⟨n,?_⟩
   unfold CJ
   rw [hfob]
   simp only
   rw [h1,cond_true,hn]
   exact h2
  ·cases h2
 ·cases h
theorem KP {f:FuncId} {xs:List SV} {ob:List Ob} {r:R3} (h:CB M (ev P M) f xs ob=some r):∃ n,CB M (evN P M n) f xs ob=some r:=by
 unfold CB at h ⊢
 cases hq:CJ (M f).hand (ev P M) f xs ob (reach ob 64 (FW (M f).hand xs) []) with
 | none =>
  rw [hq] at h
  cases hm:(M f).res <;> rw [hm] at h <;> cases h
 | some q =>
  obtain ⟨n,hn⟩:=LE hq
  exact ⟨n,by rw [hn,← hq]; exact h⟩
theorem Su {so:SOp} {sl:List SV} {ob:List Ob} {r:R3} (hr:fOp P (CB M (ev P M)) so sl ob=some r):∃ n,fOp P (CB M (evN P M n)) so sl ob=some r:=by
 cases so
 case call f args=>exact KP hr
 case callv x args =>
  simp only [fOp] at hr ⊢
  split at hr
  ·obtain ⟨h1,h2⟩:=Al hr
   rw [h1]
   exact KP h2
  ·cases hr
 all_goals exact ⟨0,hr⟩
theorem KQ {o:SOper} {st:St} {r:Ent × St} (hr:EN P (CB M (ev P M)) o st=some r):∃ n,EN P (CB M (evN P M n)) o st=some r:=by
 have one:∀ r,Gi o.dst st (fOp P (CB M (ev P M)) o.op st.sl st.ob)=some r→∃ n,Gi o.dst st (fOp P (CB M (evN P M n)) o.op st.sl st.ob)=some r:=fun r hr=>by
  cases he:fOp P (CB M (ev P M)) o.op st.sl st.ob with
  | none=>rw [he] at hr; cases hr
  | some q =>
   obtain ⟨n,hn⟩:=Su he
   exact ⟨n,by rw [hn]; rw [he] at hr; exact hr⟩
 unfold EN at hr ⊢
 split at hr
 ·exact one _ hr
 ·split at hr
  ·cases hb:OZ _ _ with
   | true=>rw [hb] at hr; exact one _ hr
   | false=>rw [hb] at hr; exact ⟨0,hr⟩
  ·exact ⟨0,hr⟩
  ·cases hr
theorem Mr:∀ {l:List SOper} {st st':St},KA P (CB M (ev P M)) l st=some st'→∃ n,KA P (CB M (evN P M n)) l st=some st'
 | [],st,st',hr=>⟨0,hr⟩
 | o :: r,st,st',hr=>by
  simp only [KA] at hr ⊢
  split at hr
  ·rename_i e st1 h1
   obtain ⟨n1,g1⟩:=KQ h1
   obtain ⟨n2,g2⟩:=Mr hr
   refine ⟨max n1 n2,?_⟩
   rw [Gm (DT (ES (zW n1 n2))) g1]
   exact Ja (DT (ES (zS n1 n2))) g2
  ·cases hr
theorem Ms:∀ {l:List SOper} {acc:List Ent} {st:St} {r:List Ent × St},D2 P (CB M (ev P M)) l acc st=some r→∃ n,D2 P (CB M (evN P M n)) l acc st=some r
 | [],acc,st,r,hr=>⟨0,hr⟩
 | o :: l,acc,st,r,hr=>by
  simp only [D2] at hr ⊢
  split at hr
  ·rename_i e st1 h1
   obtain ⟨n1,g1⟩:=KQ h1
   obtain ⟨n2,g2⟩:=Ms hr
   refine ⟨max n1 n2,?_⟩
   rw [Gm (DT (ES (zW n1 n2))) g1]
   exact Jb (DT (ES (zS n1 n2))) g2
  ·cases hr
noncomputable abbrev frN (P:Program) (M:FuncId→FM) (n0 n:Nat):SC→St→Option (X × St):=fr P (CB M (evN P M n)) fun mi keep step st=>GK n0 mi keep step n st
theorem ET {n0 n m:Nat} (h:n≤m) (sc:SC) (st:St) (o:X × St) (hr:frN P M n0 n sc st=some o):frN P M n0 m sc st=some o :=
 Ef (L:=fun mi keep step st=>GK n0 mi keep step n st) (L':=fun mi keep step st=>GK n0 mi keep step m st) (DT (ES h)) (fun mi keep step step' st o hs h'=>J8 hs h h') sc st o hr
theorem Pj {r:Option (X × St)} {o:X × St} (h:Pd r=some o):r=some o∧Pd (some o)=some o:=by
 obtain ⟨h1,_⟩:=Ml h
 exact ⟨h1,by rw [h1] at h; exact h⟩
theorem Mt {n0:Nat} {mi:MI} {keep:List Nat} {step:St→Option (X × St)} {stepN:Nat→St→Option (X × St)} {f:MF} (hm:∀ n m st o,n≤m→stepN n st=some o→stepN m st=some o) (h:∀ st o,step st=some o→∃ n,stepN n st=some o):∀ {l:EL} {seen:List MK} {st:St} {o:X × St},ER n0 mi keep step f l seen st=some o→∃ n,ER n0 mi keep (stepN n) f l seen st=some o
 | [],seen,st,o,hr=>by
  unfold ER at hr
  split at hr
  ·rename_i g ks f' seen' he
   obtain ⟨h1,h2⟩:=Al hr
   obtain ⟨h3,h4⟩:=Pj h2
   obtain ⟨n,hn⟩:=h _ _ h3
   refine ⟨n,?_⟩
   unfold ER
   rw [he]
   simp only
   rw [h1,cond_true,hn]
   exact h4
  ·cases hr
 | (k,x) :: l,seen,st,o,hr=>by
  unfold ER at hr
  split at hr
  ·rename_i g ks f' seen' he
   obtain ⟨h1,h2⟩:=Al hr
   unfold C5 at h2
   split at h2
   ·rename_i st' hs
    obtain ⟨n1,g1⟩:=h _ _ hs
    obtain ⟨n2,g2⟩:=Mt hm h h2
    refine ⟨max n1 n2,?_⟩
    unfold ER
    rw [he]
    simp only
    rw [h1,cond_true,hm _ _ _ _ (zW n1 n2) g1]
    exact Ht (fun st o=>hm _ _ st o (zS n1 n2)) g2
   ·rename_i i st' hs
    obtain ⟨n1,g1⟩:=h _ _ hs
    refine ⟨n1,?_⟩
    unfold ER
    rw [he]
    simp only
    rw [h1,cond_true,g1]
    exact h2
   ·rename_i st' hs
    obtain ⟨n1,g1⟩:=h _ _ hs
    refine ⟨n1,?_⟩
    unfold ER
    rw [he]
    simp only
    rw [h1,cond_true,g1]
    exact h2
   ·cases h2
  ·cases hr
theorem QP {n0:Nat} {keepO:List Nat} {r:Option (X × St)} {rN:Nat→Option (X × St)} {o:X × St} (h:∀ o,r=some o→∃ n,rN n=some o) (hr:LC n0 keepO r=some o):∃ n,LC n0 keepO (rN n)=some o:=by
 cases r with
 | none=>cases hr
 | some q =>
  obtain ⟨n,hn⟩:=h q rfl
  exact ⟨n,by rw [hn]; exact hr⟩
theorem Pk {n0:Nat} {mi:MI} {keep:List Nat} {step:St→Option (X × St)} {stepN:Nat→St→Option (X × St)} (hm:∀ n m st o,n≤m→stepN n st=some o→stepN m st=some o) (h:∀ st o,step st=some o→∃ n,stepN n st=some o) {st:St} {o:X × St} (hr:GJ n0 mi keep step st=some o):∃ n,GJ n0 mi keep (stepN n) st=some o:=by
 unfold GJ at hr
 split at hr
 ·rename_i g ks f he
  obtain ⟨⟨L0,h1⟩,h2⟩:=EQ.1 hr
  obtain ⟨n,hn⟩:=W7 L0 L0.length (fun n l=>Enum f l→LC n0 mi.keepO (ER n0 mi keep (stepN n) f l [] st)=some o) (fun n m l hn hq hl=>Mo (fun o=>Ht fun st o=>hm _ _ st o hn) (hq hl)) fun l _ _=>by
   by_cases hl:Enum f l
   ·obtain ⟨n,hn⟩:=QP (rN:=fun n=>ER n0 mi keep (stepN n) f l [] st) (fun o ho=>Mt hm h ho) (h2 l hl)
    exact ⟨n,fun _=>hn⟩
   ·exact ⟨0,fun hl'=>absurd hl' hl⟩
  refine ⟨n,?_⟩
  unfold GJ
  rw [he]
  exact EQ.2 ⟨⟨L0,h1⟩,fun l hl=>hn l (hl.len h1) (fun a ha=>(h1.mem a.1 a.2).2 ((hl.mem a.1 a.2).1 ha)) hl⟩
 ·cases hr
theorem CP {n0:Nat}:∀ (sc:SC) (st:St) (o:X × St),fr P (CB M (ev P M)) (HT n0) sc st=some o→∃ n,frN P M n0 n sc st=some o
 | .skip,st,o,hr=>⟨0,hr⟩
 | .reg ops,st,o,hr=>by
  simp only [fr] at hr
  split at hr
  ·rename_i st' hs
   obtain ⟨n,hn⟩:=Mr hs
   exact ⟨n,by simp only [frN,fr,hn]; exact hr⟩
  ·cases hr
 | .dreg anc ops,st,o,hr=>by
  simp only [fr] at hr
  split at hr
  ·rename_i es st' hs
   obtain ⟨n,hn⟩:=Ms hs
   exact ⟨n,by simp only [frN,fr,hn]; exact hr⟩
  ·cases hr
 | .seq a b,st,o,hr=>by
  simp only [fr,C5] at hr
  split at hr
  ·rename_i st' hs
   obtain ⟨n1,g1⟩:=CP a st _ hs
   obtain ⟨n2,g2⟩:=CP b st' _ hr
   refine ⟨max n1 n2,?_⟩
   have h1:=ET (zW n1 n2) _ _ _ g1
   have h2:=ET (zS n1 n2) _ _ _ g2
   simp only [frN] at h1 h2
   simp only [frN,fr,C5,h1,h2]
  ·rename_i i st' hs
   obtain ⟨n1,g1⟩:=CP a st _ hs
   simp only [frN] at g1
   exact ⟨n1,by simp only [frN,fr,C5,g1]; exact hr⟩
  ·rename_i st' hs
   obtain ⟨n1,g1⟩:=CP a st _ hs
   simp only [frN] at g1
   exact ⟨n1,by simp only [frN,fr,C5,g1]; exact hr⟩
  ·cases hr
 | .cond q a b,st,o,hr=>by
  simp only [fr] at hr
  split at hr
  ·rename_i t ht
   cases t with
   | true =>
    obtain ⟨n,hn⟩:=CP a st o hr
    exact ⟨n,by simp only [frN,fr,ht]; exact hn⟩
   | false =>
    obtain ⟨n,hn⟩:=CP b st o hr
    exact ⟨n,by simp only [frN,fr,ht]; exact hn⟩
  ·cases hr
 | .block id b,st,o,hr=>by
  simp only [fr] at hr
  cases he:fr P (CB M (ev P M)) (HT n0) b st with
  | none=>rw [he] at hr; cases hr
  | some q =>
   obtain ⟨n,hn⟩:=CP b st q he
   rw [he] at hr
   simp only [frN] at hn
   exact ⟨n,by simp only [frN,fr,hn]; exact hr⟩
 | .loop keep b,st,o,hr=>by
  simp only [fr] at hr
  obtain ⟨m,hm⟩:=FX.1 hr
  clear hr
  have key:∀ (m:Nat) (st:St),D3 n0 keep (fr P (CB M (ev P M)) (HT n0) b) m st=some o→∃ n,D3 n0 keep (frN P M n0 n b) n st=some o:=by
   intro m
   induction m with
   | zero=>intro st h; cases h
   | succ m ih =>
    intro st h
    simp only [D3,C5] at h
    split at h
    ·rename_i st' hs
     obtain ⟨n1,g1⟩:=CP b _ _ hs
     obtain ⟨n2,g2⟩:=ih st' h
     refine ⟨max n1 n2+1,?_⟩
     have h1:=ET (Nat.le_trans (zW n1 n2) (yR _)) _ _ _ g1
     have h2:=DU (step':=frN P M n0 (max n1 n2+1) b) (fun st o h=>ET (Nat.le_trans (zS n1 n2) (yR _)) _ _ _ h) (zS n1 n2) g2
     simp only [D3,C5,h1]
     exact h2
    ·rename_i i st' hs
     obtain ⟨n1,g1⟩:=CP b _ _ hs
     refine ⟨n1+1,?_⟩
     have h1:=ET (yR n1) _ _ _ g1
     simp only [D3,C5,h1]; exact h
    ·rename_i st' hs
     obtain ⟨n1,g1⟩:=CP b _ _ hs
     refine ⟨n1+1,?_⟩
     have h1:=ET (yR n1) _ _ _ g1
     simp only [D3,C5,h1]; exact h
    ·cases h
  obtain ⟨n,hn⟩:=key m st hm
  exact ⟨n,hn⟩
 | .next _ _ _,st,o,hr=>by cases hr
 | .mloop keep keepO it nx more b,st,o,hr=>by
  simp only [fr] at hr
  obtain ⟨n,hn⟩:=Pk (stepN:=fun n=>frN P M n0 n b) (fun n m st o hn=>ET hn b st o) (fun st o=>CP b st o) hr
  exact ⟨n,hn⟩
 | .ghost n b,st,o,hr=>CP b (NY n st) o hr
 | .exit id,st,o,hr=>⟨0,hr⟩
 | .ret,st,o,hr=>⟨0,hr⟩
theorem UX {f:FuncId} {xs:List SV} {ob:List Ob}:ev P M f xs ob=Fu P M (ev P M) HT f xs ob:=by
 refine Option.ext fun o=>?_
 rw [Na]
 constructor
 ·rintro ⟨n,hn⟩
  cases n with
  | zero=>cases hn
  | succ n =>
   refine KO (L:=fun n0 mi keep step st=>GK n0 mi keep step n st) (L':=HT) (W8 n) (fun n0 mi keep step step' st o hs h=>?_) _ _ _ _ hn
   cases mi with
   | none=>exact FX.2 ⟨n,DU hs (z1 n) h⟩
   | some mi=>exact KN hs h
 ·intro h
  unfold Fu at h
  cases hg:(M f).ext with
  | some g =>
   rw [hg] at h
   refine ⟨1,?_⟩
   show Fu P M (evN P M 0) _ f xs ob=some o
   unfold Fu
   rw [hg]; exact h
  | none =>
  rw [hg] at h
  simp only at h
  cases hc:Ar P f with
  | none=>rw [hc] at h; cases h
  | some fc =>
   rw [hc] at h
   simp only at h
   obtain ⟨h1,h2⟩:=Al h
   obtain ⟨q,h3,h4⟩:=Mp h2
   obtain ⟨n,hn⟩:=CP _ _ _ h3
   refine ⟨n+1,?_⟩
   show Fu P M (evN P M n) _ f xs ob=some o
   unfold Fu
   rw [hg,hc]
   simp only
   rw [h1,cond_true]
   show V6 (M f).res ob.length fc.rs (frN P M ob.length n (E2 (M f).res fc.sc) ⟨xs++FT (fc.nt-xs.length),entry (M f).tree ob⟩)=some o
   rw [hn]
   exact h4
end
end Go.Proofs.Ytjkcamgfimpggaa
set_option maxRecDepth 100000
set_option linter.unusedSimpArgs false
set_option linter.unusedVariables false
set_option linter.unusedSectionVars false
namespace Go.Proofs.Ytjkcamgfimpggaa
open Go.RowKit
structure Tb where
 name:ByteArray
 arity:Int
 pred:Bool
 vals:List Int
inductive Tm where
 |mk (name:ByteArray) (args:List Tm)
def Tm.name:Tm→ByteArray
 | .mk a _=>a
def Tm.args:Tm→List Tm
 | .mk _ a=>a
mutual
def Tm.d:Tm→List D
 | .mk name args=>[.str name,.arr (Tm.ds args)]
def Tm.ds:List Tm→List (List D)
 | []=>[]
 | x :: xs=>Tm.d x :: Tm.ds xs
end
theorem Tm.UY:∀ xs:List Tm,Tm.ds xs=xs.map Tm.d
 | []=>rfl
 | x :: xs=>by rw [Tm.ds,Tm.UY xs]; rfl
theorem Tm.d_eq (x:Tm):Tm.d x=[.str x.name,.arr (x.args.map Tm.d)]:=by
 obtain ⟨name,args⟩:=x
 rw [Tm.d,Tm.UY]; rfl
theorem Tm.A8 {x y:Tm} (h:y∈x.args):SizeOf.sizeOf y<SizeOf.sizeOf x:=by
 obtain ⟨name,args⟩:=x
 have:=List.sizeOf_lt_of_mem h
 simp only [Tm.args] at this
 simp only [Tm.mk.sizeOf_spec]
 omega
def Tm.zero:Tm:=.mk ⟨#[]⟩ []
inductive Fm where
 |mk (op:Int) (atom:Tm) (var:ByteArray) (parts:List Fm)
def Fm.zero:Fm:=.mk 0 Tm.zero ⟨#[]⟩ []
structure Lt where
 pos:Bool
 atom:Tm
structure Cl where
 lits:List Lt
structure Ag where
 var:ByteArray
 elem:Int
structure Bd where
 var:ByteArray
 term:Tm
def Bd.d (x:Bd):List D:=[.str x.var,.str x.term.name,.arr (x.term.args.map Tm.d)]
theorem Bd.d_eq (x:Bd):Bd.d x=[.str x.var,.str x.term.name,.arr (x.term.args.map Tm.d)]:=rfl
structure Sb where
 binds:List Bd
def Sb.d (x:Sb):List D:=[.arr (x.binds.map Bd.d)]
structure Df where
 name:ByteArray
 vars:List ByteArray
 form:Fm
instance flagNo:Flag:=⟨False⟩
theorem Fun.Sv {f:FuncId} {args:List SV} {r:SV} {rv:Value} (hr:∀ (w:World) (I:Nat→Prop) (V:Nat→Option Value),RepV w I V r rv)
  (h:∀ (w:World) (I:Nat→Prop) (V:Nat→Option Value) (vs:List Value),RepVs w I V args vs→Calls Try.prog f vs.toArray w (Ret w rv)):Fun Try.prog f args [] r []:=by
 intro w I V B vs hwf hvs
 refine (h w I V vs hvs).mono ?_
 rintro e w' ⟨rfl,hb⟩
 refine ⟨rv,I,V,B,rfl,hr _ _ _,⟨⟨hb.os,⟨hb.tape,fun h=>False.elim h⟩,hb.output,hb.size,fun b hlt _=>hb.block b hlt⟩,fun _ h=>h,fun _ h=>.inl h,VLe.refl _,?_,fun g b hl=>by simp [Ad,Ob.live] at hl⟩⟩
 exact ⟨fun b hb'=>yB (hwf.ilt b hb') hb.size,fun g hl=>by simp [Ad,Ob.live] at hl,fun g b hl=>by simp [Ad,Ob.live] at hl,fun g b hl=>by simp [Ad,Ob.live] at hl,fun g g' b hl=>by simp [Ad,Ob.live] at hl,fun g hf=>hwf.fr g rfl,hwf.gl.keep ⟨hb.size,fun b _ hlt=>hb.block b hlt⟩ fun _ h=>h⟩
theorem Fun.of_same {f:FuncId} {args:List SV} {r:SV} {rv:Value} (hr:∀ (w:World) (I:Nat→Prop) (V:Nat→Option Value),RepV w I V r rv)
  (h:∀ (w:World) (I:Nat→Prop) (V:Nat→Option Value) (vs:List Value),RepVs w I V args vs→Calls Try.prog f vs.toArray w (Same w rv)):Fun Try.prog f args [] r [] :=
 Fun.Sv hr fun w I V vs hvs=>Same.ret (h w I V vs hvs)
section
variable {w:World} {I:Nat→Prop} {V:Nat→Option Value} {vs:List Value}
theorem J9 (h:RepVs w I V [] vs):vs=[]:=by simpa [RepVs] using h
theorem Cb {x:SV} {xs:List SV} (h:RepVs w I V (x :: xs) vs):∃ v r,vs=v :: r∧RepV w I V x v∧RepVs w I V xs r:=by simpa only [RepVs] using h
theorem JX {s:ByteArray} {v:Value} (h:RepV w I V (.str s) v):v=.string s∧s.size≤9223372036854775807:=by simpa only [RepV] using h
end
section
variable {w:World} {I:Nat→Prop} {V:Nat→Option Value}
end
theorem Uh (xs:List ByteArray):OT.erss (xs.map fun s=>[OT.str s])=xs.map fun s=>[D.str s]:=by
 induction xs with
 | nil=>rfl
 | cons x r ih=>simp only [zB,OT.erss,OT.ers,OT.er,ih]
theorem Ui (xs:List Int):OT.erss (xs.map fun s=>[OT.int s])=xs.map fun s=>[D.int s]:=by
 induction xs with
 | nil=>rfl
 | cons x r ih=>simp only [zB,OT.erss,OT.ers,OT.er,ih]
theorem Uj (xs:List ByteArray):OT.BN (xs.map fun s=>[OT.str s])=true:=by
 induction xs with
 | nil=>rfl
 | cons x r ih=>simp only [zB,OT.BN,OT.E1,OT.noSh,ih,zI]
theorem Uk (xs:List Int):OT.BN (xs.map fun s=>[OT.int s])=true:=by
 induction xs with
 | nil=>rfl
 | cons x r ih=>simp only [zB,OT.BN,OT.E1,OT.noSh,ih,zI]
def mkT (k:Nat) (acc:List UInt8):List UInt8:=if h:k=0 then acc else mkT (k / 10) (UInt8.ofNat (48+k % 10) :: acc)
termination_by k
decreasing_by omega
def W9 (k:Int):ByteArray:=⟨(109 :: mkT k.toNat []).toArray⟩
def Oc (b:Int):Bool:=decide (97≤b)&&decide (b≤122)
def Ul (b:Int):Bool:=decide (48≤b)&&decide (b≤57)
def Nb (b:Int):Bool:=decide (65≤b)&&decide (b≤90)
def inB (n lo hi:Int):Bool:=decide (lo≤n)&&decide (n≤hi)
theorem HU (n lo hi:Int) (w:World) :
  Calls Try.prog 50 #[.int .i64 n,.int .i64 lo,.int .i64 hi] w (Same w (.bool (inB n lo hi))):=by
 by_cases h1:lo≤n <;> by_cases h2:n≤hi
 all_goals
  go_enter Try.func50,Try.ntmps50
  go_wp2
  go_ret
  exact Same.mk' _ (by simp [inB,h1,h2])
theorem GN (n lo hi:Int) (w:World) :
  Calls Try.prog 59 #[.int .i64 n,.int .i64 lo,.int .i64 hi] w (Same w (.bool (inB n lo hi))):=by
 by_cases h1:lo≤n <;> by_cases h2:n≤hi
 all_goals
  go_enter Try.func59,Try.ntmps59
  go_wp2
  go_ret
  exact Same.mk' _ (by simp [inB,h1,h2])
theorem JA (n:Int) (w:World):Calls Try.prog 48 #[.int .u8 n] w (Same w (.bool (Oc n))):=by
 by_cases h1:97≤n <;> by_cases h2:n≤122
 all_goals
  go_enter Try.func48,Try.ntmps48
  go_wp2
  go_ret
  exact Same.mk' _ (by simp [Oc,h1,h2])
theorem JB (n:Int) (w:World):Calls Try.prog 49 #[.int .u8 n] w (Same w (.bool (Ul n))):=by
 by_cases h1:48≤n <;> by_cases h2:n≤57
 all_goals
  go_enter Try.func49,Try.ntmps49
  go_wp2
  go_ret
  exact Same.mk' _ (by simp [Ul,h1,h2])
theorem Od (n:Int) (w:World):Calls Try.prog 47 #[.int .u8 n] w (Same w (.bool (Nb n))):=by
 by_cases h1:65≤n <;> by_cases h2:n≤90
 all_goals
  go_enter Try.func47,Try.ntmps47
  go_wp2
  go_ret
  exact Same.mk' _ (by simp [Nb,h1,h2])
def Gp (n:Int):Bool:=Oc n || Ul n
theorem JC (n:Int) (w:World):Calls Try.prog 60 #[.int .u8 n] w (Same w (.bool (Gp n))):=by
 by_cases h1:97≤n <;> by_cases h2:n≤122 <;> by_cases h3:48≤n <;> by_cases h4:n≤57 <;> first | (exfalso; omega) | skip
 all_goals
  go_enter Try.func60,Try.ntmps60
  go_wp2
  go_ret
  exact Same.mk' _ (by simp [Gp,Oc,Ul,h1,h2,h3,h4])
def H5 (s:ByteArray) (k:Nat):Int:=((s.toList.getD k 0).toNat:Int)
theorem DV {s:ByteArray} {k:Nat} (h:k<s.size):(s[k].toNat:Int)=H5 s k:=by
 have h':k<s.data.toList.length:=h
 unfold H5
 rw [ByteArray.toList_eq,List.getD_eq_getElem?_getD,zM h']
 rfl
def DL (p:Nat→Int→Bool) (s:ByteArray) (k:Nat):Bool:=(List.range k).all fun j=>p j (H5 s j)
theorem EU {p:Nat→Int→Bool} {s:ByteArray} {k:Nat}:DL p s (k+1)=(DL p s k&&p k (H5 s k)):=by
 unfold DL
 rw [List.range_succ,List.all_append]
 simp
theorem Gq {p:Nat→Int→Bool} {s:ByteArray} {k:Nat} (h:DL p s k=true) (hk:p k (H5 s k)=true):DL p s (k+1)=true:=by
 rw [EU,h,hk]; rfl
theorem Pl {p:Nat→Int→Bool} {s:ByteArray} {k n:Nat} (h:DL p s k=false) (hn:k≤n):DL p s n=false:=by
 induction n with
 | zero =>
      have:k=0:=by omega
      subst this; exact h
 | succ n ih =>
  by_cases hk:k=n+1
  ·subst hk; exact h
  ·rw [EU,ih (by omega)]; rfl
theorem DW {p:Nat→Int→Bool} {s:ByteArray} {k:Nat} (hk:k<s.size) (h:p k (H5 s k)=false):DL p s s.size=false :=
 Pl (k:=k+1) (by rw [EU,h]; simp) (by omega)
def H6 (k:Nat) (b:Int):Bool:=(k != 0 || Oc b)&&(Gp b || b == 95)
def GO (k:Nat) (b:Int):Bool:=(k != 0 || Nb b)&&(k == 0 || Gp b)
def words:List (List UInt8):=[[116,114,117,101],[102,97,108,115,101],[116,114,117,116,104],[98,111,116,104],[101,105,116,104,101,114],[105,102],[97,108,108],[115,111,109,101]]
def Sw (s:ByteArray):Bool:=RE (fun k=>s.toList == words.getD k []) 8
def Ep (s:ByteArray):Bool:=DL H6 s s.size&&inB s.size 1 6&&!Sw s
def Bh (s:ByteArray):Bool:=DL GO s s.size&&inB s.size 1 4
theorem KR (s:ByteArray) (w:World) (hs:s.size≤9223372036854775807):Calls Try.prog 27 #[.string s] w (Same w (.bool (Bh s))):=by
  go_enter Try.func27,Try.ntmps27
  go_wp2
  go_loopw [6] (fun i wr=>Cnt w s.size (fun k=>DL GO s k=true) i wr) (fun i _=>s.size-(intOf i).toNat)
  case atStart=>exact ⟨0,zN _,rfl,rfl,rfl⟩
  case round =>
    obtain ⟨k,hk,rfl,hok,rfl⟩:=hrel
    have Hok:=Lib.hid hok
    clear hok
    by_cases hlt:k<s.size
    · have Hb:=Lib.hid (DV hlt)
      rcases zJ k with rfl | hpos
      all_goals
        go_wp2_with (first
          | (go_at_call 48; refine (JA _ _).mono ?_; rintro e w' ⟨rfl,rfl⟩)
          | (go_at_call 47; refine (Od _ _).mono ?_; rintro e w' ⟨rfl,rfl⟩)
          | (go_at_call 49; refine (JB _ _).mono ?_; rintro e w' ⟨rfl,rfl⟩))
        all_goals first
          | (go_ret
             refine Same.mk' _ ?_
             unfold Bh
             rw [DW hlt (by rw [←Hb.out]; simp_all [GO,Gp] <;> omega)]
             rfl)
          | (go_roundw
             case rel=>exact ⟨_,hlt,by go_num,Gq Hok.out (by rw [←Hb.out]; simp_all [GO,Gp] <;> omega),rfl⟩
             case measure=>first | exact G5 hlt | (simp [intOf]; omega))
    · obtain rfl:k=s.size:=by omega
      go_wp2_with (first
        | (go_at_call 50; refine (HU _ _ _ _).mono ?_; rintro e w' ⟨rfl,rfl⟩))
      go_ret
      exact Same.mk' _ (by unfold Bh; rw [Hok.out]; rfl)
theorem Pm (b n c:Nat) (f:Nat→ByteArray) (x:ByteArray) (w:World) (hn:n≤9223372036854775807)
  (hc:∀ k,k<n→w.cell? ⟨b,k,none⟩=some (.string (f k))):Calls Try.prog 86 #[.slice (some ⟨b,0,none⟩) n c,.string x] w (Same w (.int .i64 (N3 (fun k=>x.toList == (f k).toList) n))):=by
 go_enter Try.func86,Try.ntmps86
 go_wp2
 go_loopw [8] (fun i wr=>Cnt w n (fun k=>∀ j,j<k→(x.toList == (f j).toList)=false) i wr) (fun i _=>n-(intOf i).toNat)
 case atStart=>exact ⟨0,zN _,rfl,fun j hj=>absurd hj (by omega),rfl⟩
 case round =>
  obtain ⟨k,hk,rfl,hok,rfl⟩:=hrel
  have Hok:=Lib.hid hok
  clear hok
  by_cases hlt:k<n
  ·have hck:=hc k (by omega)
   go_wp2_with fail
   ·go_ret
    exact Same.mk' _ (by rw [N4 hlt Hok.out (by assumption)]; rfl)
   ·go_roundw
    case rel=>exact ⟨_,hlt,by go_num,N5 Hok.out (by assumption),rfl⟩
    case measure=>exact G5 hlt
  ·obtain rfl:k=n:=by omega
   go_wp2_with fail
   go_ret
   exact Same.mk' _ (by rw [LO Hok.out]; rfl)
theorem LF (b n c:Nat) (f:Nat→ByteArray) (x:ByteArray) (w:World) (hn:n≤9223372036854775807)
  (hc:∀ k,k<n→w.cell? ⟨b,k,none⟩=some (.string (f k))):Calls Try.prog 75 #[.slice (some ⟨b,0,none⟩) n c,.string x] w (Same w (.bool (RE (fun k=>x.toList == (f k).toList) n))):=by
 have Hc:=Lib.hid hc
 clear hc
 go_enter Try.func75,Try.ntmps75
 go_wp2_with (first
  |(go_at_call 86; refine (Pm _ _ _ f _ _ hn Hc.out).mono ?_; rintro e w' ⟨rfl,rfl⟩))
 go_ret
 exact Same.mk' _ (by rw [←T1]; rfl)
theorem Nc (w:World):Calls Try.prog 76 #[] w fun e w'=>e=.returned (.slice (some ⟨w.heap.size,0,none⟩) 8 8)∧w'=w.alloc (.cells ((words.map fun l=>Value.string ⟨l.toArray⟩).toArray) 9):=by
 go_enter Try.func76,Try.ntmps76
 go_wp2
 go_ret
 exact ⟨rfl,rfl⟩
theorem Oe (w:World):∀ k,k<8→(w.alloc (.cells ((words.map fun l=>Value.string ⟨l.toArray⟩).toArray) 9)).cell? ⟨w.heap.size,k,none⟩=some (.string ⟨(words.getD k []).toArray⟩):=by
 intro k hk
 have hh:(w.alloc (.cells ((words.map fun l=>Value.string ⟨l.toArray⟩).toArray) 9)).heap[w.heap.size]?=some (.cells ((words.map fun l=>Value.string ⟨l.toArray⟩).toArray) 9):=heap_alloc_new w _
 unfold World.cell?
 rw [hh]
 match k,hk with
 | 0,_=>rfl
 | 1,_=>rfl
 | 2,_=>rfl
 | 3,_=>rfl
 | 4,_=>rfl
 | 5,_=>rfl
 | 6,_=>rfl
 | 7,_=>rfl
theorem Nd (s:ByteArray) (w:World) (hs:s.size≤9223372036854775807):Calls Try.prog 61 #[.string s] w (Ret w (.bool (Ep s))):=by
  go_enter Try.func61,Try.ntmps61
  go_wp2
  go_loopw [6] (fun i wr=>Cnt w s.size (fun k=>DL H6 s k=true) i wr) (fun i _=>s.size-(intOf i).toNat)
  case atStart=>exact ⟨0,zN _,rfl,rfl,rfl⟩
  case round =>
    obtain ⟨k,hk,rfl,hok,rfl⟩:=hrel
    have Hok:=Lib.hid hok
    clear hok
    by_cases hlt:k<s.size
    · have Hb:=Lib.hid (DV hlt)
      rcases zJ k with rfl | hpos
      all_goals
        go_wp2_with (first
          | (go_at_call 48; refine (JA _ _).mono ?_; rintro e w' ⟨rfl,rfl⟩)
          | (go_at_call 49; refine (JB _ _).mono ?_; rintro e w' ⟨rfl,rfl⟩))
        all_goals first
          | (go_ret
             refine Ret.same _ ?_
             unfold Ep
             rw [DW hlt (by rw [←Hb.out]; simp_all [H6,Gp] <;> omega)]
             rfl)
          | (go_roundw
             case rel=>exact ⟨_,hlt,by go_num,Gq Hok.out (by rw [←Hb.out]; simp_all [H6,Gp] <;> omega),rfl⟩
             case measure=>first | exact G5 hlt | (simp [intOf]; omega))
    · obtain rfl:k=s.size:=by omega
      cases hin:inB s.size 1 6
      · go_wp2_with (first
          | (go_at_call 50; refine (HU _ _ _ _).mono ?_; rintro e w' ⟨rfl,rfl⟩))
        go_ret
        exact Ret.same _ (by unfold Ep; rw [hin]; simp)
      · go_wp2_with (first
          | (go_at_call 50; refine (HU _ _ _ _).mono ?_; rintro e w' ⟨rfl,rfl⟩)
          | (go_at_call 76; refine (Nc _).mono ?_; rintro e w' ⟨rfl,rfl⟩)
          | (go_at_call 75; refine (LF _ _ _ (fun k=>⟨(words.getD k []).toArray⟩) _ _ (by omega) (Oe w)).mono ?_; rintro e w' ⟨rfl,rfl⟩))
        go_ret
        refine Ret.bel ?_ ((Below.refl _ _).alloc (z1 _) _)
        unfold Ep Sw
        rw [hin,Hok.out]
        simp
theorem QQ (s:ByteArray) (w:World) (hs:s.size≤9223372036854775807):Calls Try.prog 34 #[.string s] w (Same w (.bool (Bh s))):=by
  cases hin:inB s.size 1 4
  · go_enter Try.func34,Try.ntmps34
    go_wp2_with (first
      | (go_at_call 59; refine (GN _ _ _ _).mono ?_; rintro e w' ⟨rfl,rfl⟩))
    go_ret
    exact Same.mk' _ (by unfold Bh; rw [hin]; simp)
  · have hpos:0<s.size:=by simp [inB] at hin; omega
    have Hb:=Lib.hid (DV hpos)
    go_enter Try.func34,Try.ntmps34
    go_wp2_with (first
      | (go_at_call 59; refine (GN _ _ _ _).mono ?_; rintro e w' ⟨rfl,rfl⟩))
    all_goals first
      | (go_ret
         refine Same.mk' _ ?_
         unfold Bh
         rw [DW hpos (by rw [←Hb.out]; simp [GO,Nb]; omega)]
         rfl)
      | skip
    · go_loopw [3] (fun i wr=>Cnt w s.size (fun k=>1≤k∧DL GO s k=true) i wr) (fun i _=>s.size-(intOf i).toNat)
      case atStart=>exact ⟨1,hpos,rfl,⟨z1 _,by rw [EU,← Hb.out]; simp [DL,GO,Nb]; omega⟩,rfl⟩
      case round =>
        obtain ⟨k,hk,rfl,⟨hk1,hok⟩,rfl⟩:=hrel
        have Hok:=Lib.hid hok
        clear hok
        by_cases hlt:k<s.size
        · have Hbk:=Lib.hid (DV hlt)
          have hk0:k≠0:=by omega
          go_wp2_with (first
            | (go_at_call 60; refine (JC _ _).mono ?_; rintro e w' ⟨rfl,rfl⟩))
          all_goals first
            | (go_ret
               refine Same.mk' _ ?_
               unfold Bh
               rw [DW hlt (by rw [←Hbk.out]; simp_all [GO] <;> omega)]
               rfl)
            | (go_roundw
               case rel=>exact ⟨_,hlt,by go_num,⟨by omega,Gq Hok.out (by rw [←Hbk.out]; simp_all [GO] <;> omega)⟩,rfl⟩
               case measure=>first | exact G5 hlt | (simp [intOf]; omega))
        · obtain rfl:k=s.size:=by omega
          go_wp2_with fail
          go_ret
          exact Same.mk' _ (by unfold Bh; rw [Hok.out,hin]; rfl)
theorem Qd (s:ByteArray):Sw s=(s.toList == [116,114,117,101] || s.toList == [102,97,108,115,101] || s.toList == [116,114,117,116,104] || s.toList == [98,111,116,104] || s.toList == [101,105,116,104,101,114] || s.toList == [105,102] || s.toList == [97,108,108] || s.toList == [115,111,109,101]):=by
 unfold Sw RE words
 simp [List.range,List.range.loop,Bool.or_assoc]
theorem Nf (s:ByteArray) (w:World) (hs:s.size≤9223372036854775807):Calls Try.prog 58 #[.string s] w (Same w (.bool (Ep s))):=by
  cases hin:inB s.size 1 6
  · go_enter Try.func58,Try.ntmps58
    go_wp2_with (first
      | (go_at_call 59; refine (GN _ _ _ _).mono ?_; rintro e w' ⟨rfl,rfl⟩))
    go_ret
    exact Same.mk' _ (by unfold Ep; rw [hin]; simp)
  · have hpos:0<s.size:=by simp [inB] at hin; omega
    have Hb:=Lib.hid (DV hpos)
    cases hres:Sw s
    case true =>
      have Hres:=Lib.hid hres
      rw [Qd] at hres
      go_enter Try.func58,Try.ntmps58
      go_wp2_with (first
        | (go_at_call 59; refine (GN _ _ _ _).mono ?_; rintro e w' ⟨rfl,rfl⟩))
      all_goals first
        | (go_ret
           refine Same.mk' _ ?_
           unfold Ep
           rw [Hres.out]; simp)
        | (exfalso; simp_all; done)
    have Hres:=Lib.hid hres
    rw [Qd] at hres
    simp only [z6] at hres
    obtain ⟨⟨⟨⟨⟨⟨⟨e1,e2⟩,e3⟩,e4⟩,e5⟩,e6⟩,e7⟩,e8⟩:=hres
    go_enter Try.func58,Try.ntmps58
    go_wp2_with (first
      | (go_at_call 59; refine (GN _ _ _ _).mono ?_; rintro e w' ⟨rfl,rfl⟩))
    all_goals first
      | (go_ret
         refine Same.mk' _ ?_
         unfold Ep
         rw [DW hpos (by rw [←Hb.out]; simp [H6,Oc]; omega)]; rfl)
      | skip
    go_loopw [3] (fun i wr=>Cnt w s.size (fun k=>1≤k∧DL H6 s k=true) i wr) (fun i _=>s.size-(intOf i).toNat)
    case atStart=>exact ⟨1,hpos,rfl,⟨z1 _,by rw [EU,← Hb.out]; simp [DL,H6,Gp,Oc]; omega⟩,rfl⟩
    case round =>
      obtain ⟨k,hk,rfl,⟨hk1,hok⟩,rfl⟩:=hrel
      have Hok:=Lib.hid hok
      clear hok
      by_cases hlt:k<s.size
      · have Hbk:=Lib.hid (DV hlt)
        have hk0:k≠0:=by omega
        go_wp2_with (first
          | (go_at_call 60; refine (JC _ _).mono ?_; rintro e w' ⟨rfl,rfl⟩))
        all_goals first
          | (go_ret
             refine Same.mk' _ ?_
             unfold Ep
             rw [DW hlt (by rw [←Hbk.out]; simp_all [H6] <;> omega)]
             rfl)
          | (go_roundw
             case rel=>exact ⟨_,hlt,by go_num,⟨by omega,Gq Hok.out (by rw [←Hbk.out]; simp_all [H6] <;> omega)⟩,rfl⟩
             case measure=>first | exact G5 hlt | (simp [intOf]; omega))
      · obtain rfl:k=s.size:=by omega
        go_wp2_with fail
        go_ret
        exact Same.mk' _ (by unfold Ep; rw [Hok.out,hin,Hres.out]; rfl)
end Go.Proofs.Ytjkcamgfimpggaa
set_option maxRecDepth 100000
set_option linter.unusedSimpArgs false
set_option linter.unusedVariables false
set_option linter.unusedSectionVars false
namespace Go.Proofs.Ytjkcamgfimpggaa
open Go.RowKit Go.Shelf Go.Lib Go.Sort
theorem Um {w w':World} {I:Nat→Prop} {V:Nat→Option Value} {B:Nat→Nat→Prop} {t:TypeId} {sz:Nat} {es es':List (List OT)} {b cap:Nat} {cur cur':Array Value} (Sub:Nat→Nat→Nat→Prop)
  (hwf:Wf w I V B (Ad [.row t sz es])) (hv:V 0=some (.slice (some ⟨b,0,none⟩) es.length cap)) (hn:es'.length=es.length) (hs:B 0 b) (hb:w.heap[b]?=some (.cells cur t (0,0)))
  (h1:es.length≤cap) (h2:cap≤9223372036854775807) (h3:cur.size=cap*sz) (h4:∀ i (h:i<es'.length),es'[i].length=sz) (h5:∀ i j x,Sub i j x→B 0 x∧x≠b)
  (h6:∀ i j i' j' x,Sub i j x→Sub i' j' x→i=i'∧j=j')
  (hos:w'.os=w.os) (htape:TapeOk w w') (hout:w'.output=w.output) (hsz:w.heap.size≤w'.heap.size) (hblk:∀ x,x<w.heap.size→x≠b→w'.heap[x]?=w.heap[x]?)
  (hb':w'.heap[b]?=some (.cells cur' t (0,0))) (hcs:cur'.size=cur.size)
  (h7:∀ i j (h:i<es'.length) (h':j<es'[i].length),ORep w' I (Sub i j) (es'[i][j]) (cur'.getD (i*sz+j) undef)) :
  FunPost w I V B [.row t sz es] [.row t sz es'] w' I V B:=by
 have g0:∀ (e:List (List OT)),Ad [Ob.row t sz e] 0=.row t sz e:=fun _=>rfl
 have gS:∀ (e:List (List OT)) (g:Nat),Ad [Ob.row t sz e] (g+1)=.free:=fun _ _=>rfl
 have lv:∀ (e e':List (List OT)) (g:Nat),(Ad [Ob.row t sz e] g).live→(Ad [Ob.row t sz e'] g).live:=fun e e' g h=>by
  cases g with
  | zero=>trivial
  | succ g=>rw [gS] at h; exact h.elim
 have hbS:∀ x,B 0 x→HB B [Ob.row t sz es] x:=fun x hx=>⟨0,trivial,hx⟩
 refine ⟨⟨hos,htape,hout,hsz,fun x hx hn=>hblk x hx fun e=>hn (hbS x (e▸hs))⟩,fun _ h=>h,fun _ h=>.inl h,VLe.refl _,?_,fun g x hl hx=>.inl ⟨g,lv _ _ g hl,hx⟩⟩
 refine ⟨fun x hx=>yB (hwf.ilt x hx) hsz,fun g hl=>?_,fun g x hl hx=>yB (hwf.lt g x (lv _ _ g hl) hx) hsz,fun g x hl hx=>hwf.dI g x (lv _ _ g hl) hx,fun g g' x hl hl' hx hx'=>hwf.dO g g' x (lv _ _ g hl) (lv _ _ g' hl') hx hx',fun g hf=>?_,hwf.gl.keep ⟨hsz,fun x hx hlt=>hblk x hlt fun e=>hwf.dI 0 x trivial (e▸hs) hx⟩ fun _ h=>h⟩
 ·cases g with
  | zero =>
   refine ⟨_,hv,.inr ⟨b,cap,cur',Sub,by rw [hn],hs,hb',by rw [hn]; exact h1,h2,by rw [hcs]; exact h3,h4,h5,h6,h7⟩⟩
  | succ g=>rw [gS] at hl; exact hl.elim
 ·cases g with
  | zero=>cases hf
  | succ g=>exact hwf.fr (g+1) rfl
theorem Of {w:World} {I:Nat→Prop} {V:Nat→Option Value} {B:Nat→Nat→Prop} {ob:List Ob} (hwf:Wf w I V B (Ad ob)):FunPost w I V B ob ob w I V B :=
 ⟨⟨rfl,TapeOk.mk' rfl rfl,rfl,z1 _,fun _ _ _=>rfl⟩,fun _ h=>h,fun _ h=>.inl h,VLe.refl _,hwf,fun g b hl hb=>.inl ⟨g,hl,hb⟩⟩
theorem Mu:∀ x:List UInt8,Op.bytesLess x x=false
 | []=>rfl
 | a :: x=>by simp [Op.bytesLess,Mu x]
theorem KS:∀ x y z:List UInt8,Op.bytesLess x y=true→Op.bytesLess y z=true→Op.bytesLess x z=true
 | [],_,[],_,h=>by cases ‹List UInt8› <;> simp [Op.bytesLess] at *
 | [],_,_ :: _,_,_=>rfl
 | _ :: _,[],_,h,_=>by simp [Op.bytesLess] at h
 | _ :: _,_ :: _,[],_,h=>by simp [Op.bytesLess] at h
 | a :: x,b :: y,c :: z,h,k=>by
  simp only [Op.bytesLess,yM,decide_eq_true_eq,zA,beq_iff_eq] at h k ⊢
  rcases h with h | ⟨rfl,h⟩
  ·rcases k with k | ⟨rfl,k⟩
   ·exact .inl (UInt8.lt_trans h k)
   ·exact .inl h
  ·rcases k with k | ⟨rfl,k⟩
   ·exact .inl k
   ·exact .inr ⟨rfl,KS x y z h k⟩
theorem Pn:∀ x y:List UInt8,Op.bytesLess x y=false→Op.bytesLess y x=false→x=y
 | [],[],_,_=>rfl
 | [],_ :: _,h,_=>by simp [Op.bytesLess] at h
 | _ :: _,[],_,h=>by simp [Op.bytesLess] at h
 | a :: x,b :: y,h,k=>by
  simp only [Op.bytesLess,z6,decide_eq_false_iff_not] at h k
  have hab:a=b:=by
   have h1:=h.1; have h2:=k.1
   rw [UInt8.lt_iff_toNat_lt] at h1 h2
   exact UInt8.toNat_inj.1 (by omega)
  subst hab
  have h1:Op.bytesLess x y=false:=by simpa using h.2
  have h2:Op.bytesLess y x=false:=by simpa using k.2
  rw [Pn x y h1 h2]
theorem QR (x y z:List UInt8) (h:Op.bytesLess x y=false) (k:Op.bytesLess y z=false):Op.bytesLess x z=false:=by
 cases hz:Op.bytesLess x z with
 | false=>rfl
 | true =>
  cases hyx:Op.bytesLess y x with
  | true=>rw [KS y x z hyx hz] at k; cases k
  | false=>rw [Pn x y h hyx] at hz; rw [hz] at k; cases k
def HV (x y:List UInt8):Int:=if Op.bytesLess x y then -1 else if x == y then 0 else 1
def Og:List OT→ByteArray
 | .str s :: _=>s
 | _=>⟨#[]⟩
def rowLe (x y:List OT):Bool:=!Op.bytesLess (Og y).toList (Og x).toList
theorem ORep.strV {w:World} {I S:Nat→Prop} {s:ByteArray} {v:Value} (h:ORep w I S (.str s) v):v=.string s:=by cases h; rfl
theorem ORep.owV {w:World} {I S:Nat→Prop} {es:List (List OT)} {v:Value} (h:ORep w I S (.ow es) v):∃ a n c,v=.slice a n c:=by
 cases h with
 | nil=>exact ⟨_,_,_,rfl⟩
 | row=>exact ⟨_,_,_,rfl⟩
theorem KT {α:Type} [Inhabited α] (enc:α→List Value) (k:Nat) (w:World) (b m:Nat) (dk:Array α) (os:Array Obj) (x:Nat) (hx:x<w.heap.size) :
  (sortWorldK enc k w b 0 m dk os).heap[x]?=if b=x then (w.heap[x]?).map (onCells (putCells id 0 (flatK enc k dk))) else w.heap[x]?:=by
 unfold sortWorldK grow putRowK putRow mapBlock Sort.ahead
 have hx':x<(w.heap.modify b (onCells (putCells id 0 (flatK enc k dk)))).size:=by simpa using hx
 simp only [Array.getElem?_append,Array.size_modify,hx,if_true,Array.getElem?_modify]
theorem Oh {α:Type} [Inhabited α] (enc:α→List Value) (k:Nat) (w:World) (b m:Nat) (dk:Array α) (os:Array Obj) {cur:Array Value} {t:TypeId} {fr:Nat × Nat} (hb:w.heap[b]?=some (.cells cur t fr)) :
  (sortWorldK enc k w b 0 m dk os).heap[b]?=some (.cells (putCells id 0 (flatK enc k dk) cur) t fr):=by
 rw [KT enc k w b m dk os b (yO.1 hb).1,if_pos rfl,hb]
 rfl
theorem Oi {α:Type} [Inhabited α] (enc:α→List Value) (k:Nat) (dk:Array α) (cur:Array Value) {i j:Nat} (hi:i<dk.size) (hj:j<k) (hc:dk.size*k≤cur.size) :
  (putCells id 0 (flatK enc k dk) cur).getD (i*k+j) undef=(enc dk[i]!)[j]!:=by
 have hlt:i*k+j<dk.size*k:=mul_lt hi hj
 have e1:(i*k+j) / k=i:=by rw [Nat.mul_comm,Nat.mul_add_div (by omega),Nat.div_eq_of_lt hj,Nat.add_zero]
 have e2:(i*k+j) % k=j:=by rw [Nat.mul_comm,Nat.mul_add_mod,Nat.mod_eq_of_lt hj]
 have h:=get_flatK enc k dk (i*k+j) hlt
 rw [e1,e2] at h
 have hlt2:i*k+j<cur.size:=yB hlt hc
 simp only [putCells,yN,Array.getElem?_mapIdx,yQ hlt2,Option.map_some,yS,zN,true_and,size_flatK,Nat.zero_add,hlt,if_true,Nat.sub_zero,id]
 exact h
end Go.Proofs.Ytjkcamgfimpggaa
set_option maxRecDepth 100000
namespace Go.Proofs.Ytjkcamgfimpggaa
open Go.Shelf
def so_SortB_ren:Go.Shelf.Ren:=⟨fun | 6=>65 | 15=>80 | 14=>79 | 28=>95 | 29=>96 | 20=>87 | 21=>88 | 22=>89 | 23=>90 | 24=>91 | 25=>92 | 26=>93 | 27=>94 | 46=>97 | 47=>98 | 48=>99 | 49=>100 | 50=>101 | 57=>102 | n=>n,fun | 22=>29 | 24=>58 | 25=>78 | 3=>3 | 39=>75 | 0=>0 | 53=>103 | 55=>43 | 4=>4 | 46=>97 | 45=>96 | 50=>89 | 5=>5 | 9=>9 | 66=>105 | 70=>109 | 76=>111 | 77=>112 | n=>n,fun | n=>n⟩
theorem KU:Go.Proofs.SlLaysF0.n6 Try.prog so_SortB_ren:={
 mixed:=by kernel_rfl,
 f6:=⟨Try.f65.name,by decide,Try.func65.trans (congrArg some (by kernel_rfl))⟩,
 f14:=⟨Try.f79.name,by decide,Try.func79.trans (congrArg some (by kernel_rfl))⟩,
 f15:=Try.func80.trans (congrArg some (by kernel_rfl)),
 f20:=⟨Try.f87.name,by decide,Try.func87.trans (congrArg some (by kernel_rfl))⟩,
 f21:=⟨Try.f88.name,by decide,Try.func88.trans (congrArg some (by kernel_rfl))⟩,
 f22:=⟨Try.f89.name,by decide,Try.func89.trans (congrArg some (by kernel_rfl))⟩,
 f23:=⟨Try.f90.name,by decide,Try.func90.trans (congrArg some (by kernel_rfl))⟩,
 f24:=⟨Try.f91.name,by decide,Try.func91.trans (congrArg some (by kernel_rfl))⟩,
 f25:=⟨Try.f92.name,by decide,Try.func92.trans (congrArg some (by kernel_rfl))⟩,
 f26:=⟨Try.f93.name,by decide,Try.func93.trans (congrArg some (by kernel_rfl))⟩,
 f27:=⟨Try.f94.name,by decide,Try.func94.trans (congrArg some (by kernel_rfl))⟩,
 f28:=Try.func95.trans (congrArg some (by kernel_rfl)),
 f29:=Try.func96.trans (congrArg some (by kernel_rfl)),
 f46:=⟨Try.f97.name,by decide,Try.func97.trans (congrArg some (by kernel_rfl))⟩,
 f47:=Try.func98.trans (congrArg some (by kernel_rfl)),
 f48:=Try.func99.trans (congrArg some (by kernel_rfl)),
 f49:=⟨Try.f100.name,by decide,Try.func100.trans (congrArg some (by kernel_rfl))⟩,
 f50:=⟨Try.f101.name,by decide,Try.func101.trans (congrArg some (by kernel_rfl))⟩,
 f57:=⟨Try.f102.name,by decide,Try.func102.trans (congrArg some (by kernel_rfl))⟩,
 t0:=Try.underlying0,
 a0:=Try.isAgg0,
 z0:=Try.sizeOf0,
 v0:=Try.zeroValue0,
 t3:=Try.underlying3,
 a3:=Try.isAgg3,
 z3:=Try.sizeOf3,
 v3:=Try.zeroValue3,
 t4:=Try.underlying4,
 a4:=Try.isAgg4,
 z4:=Try.sizeOf4,
 v4:=Try.zeroValue4,
 t5:=Try.underlying5,
 a5:=Try.isAgg5,
 z5:=Try.sizeOf5,
 v5:=Try.zeroValue5,
 t9:=Try.underlying9,
 a9:=Try.isAgg9,
 z9:=Try.sizeOf9,
 v9:=Try.zeroValue9,
 t22:=Try.underlying29,
 a22:=Try.isAgg29,
 z22:=Try.sizeOf29,
 v22:=Try.zeroValue29,
 t25:=Try.underlying78,
 a25:=Try.isAgg78,
 z25:=Try.sizeOf78,
 v25:=Try.zeroValue78,
 t39:=Try.underlying75,
 a39:=Try.isAgg75,
 z39:=Try.sizeOf75,
 v39:=Try.zeroValue75,
 t45:=Try.underlying96,
 a45:=Try.isAgg96,
 z45:=Try.sizeOf96,
 v45:=Try.zeroValue96,
 t46:=Try.underlying97,
 a46:=Try.isAgg97,
 z46:=Try.sizeOf97,
 v46:=Try.zeroValue97,
 t50:=Try.underlying89,
 a50:=Try.isAgg89,
 z50:=Try.sizeOf89,
 v50:=Try.zeroValue89,
 t53:=Try.underlying103,
 a53:=Try.isAgg103,
 z53:=Try.sizeOf103,
 v53:=Try.zeroValue103,
 t55:=Try.underlying43,
 a55:=Try.isAgg43,
 z55:=Try.sizeOf43,
 v55:=Try.zeroValue43,
 t66:=Try.underlying105,
 a66:=Try.isAgg105,
 z66:=Try.sizeOf105,
 v66:=Try.zeroValue105,
 t70:=Try.underlying109,
 a70:=Try.isAgg109,
 z70:=Try.sizeOf109,
 v70:=Try.zeroValue109,
 t76:=Try.underlying111,
 a76:=Try.isAgg111,
 z76:=Try.sizeOf111,
 v76:=Try.zeroValue111,
 t77:=Try.underlying112,
 a77:=Try.isAgg112,
 z77:=Try.sizeOf112,
 v77:=Try.zeroValue112 }
end Go.Proofs.Ytjkcamgfimpggaa
set_option maxRecDepth 100000
set_option linter.unusedSimpArgs false
set_option linter.unusedVariables false
set_option linter.unusedSectionVars false
namespace Go.Proofs.Ytjkcamgfimpggaa
open Go.RowKit Go.Shelf Go.Lib Go.Sort
theorem Oj (x:ByteArray) (w:World):Calls Try.prog 81 #[.string x] w (Same w (.bool false)):=by
 go_enter Try.func81,Try.ntmps81
 go_wp2
 go_ret
 exact Same.mk' _ (by simp)
theorem Po (x y:ByteArray) (w:World):Calls Try.prog 67 #[.string x,.string y] w (Same w (.int .i64 (HV x.toList y.toList))):=by
 cases h1:Op.bytesLess x.toList y.toList
 ·cases h2:(x.toList == y.toList)
  all_goals
   go_enter Try.func67,Try.ntmps67
   go_wp2_with (first
    |(go_at_call 81; refine (Oj _ _).mono ?_; rintro e w' ⟨rfl,rfl⟩))
   go_ret
   exact Same.mk' _ (by unfold HV; rw [h1,h2]; rfl)
 ·go_enter Try.func67,Try.ntmps67
  go_wp2_with (first
   |(go_at_call 81; refine (Oj _ _).mono ?_; rintro e w' ⟨rfl,rfl⟩))
  go_ret
  exact Same.mk' _ (by unfold HV; rw [h1]; rfl)
theorem LG (s n s' n':ByteArray) (a a':Option Addr) (l c l' c':Nat) (W:World):Calls Try.prog 66 #[.agg #[.string s,.string n,.slice a l c],.agg #[.string s',.string n',.slice a' l' c']] W
  fun e w'=>e=.returned (.int .i64 (HV s.toList s'.toList))∧∃ q os',w'=Sort.grow (W.drewN q) os':=by
 generalize hr:HV s.toList s'.toList=r
 have hcon:∀ W',Calls Try.prog 67 #[.string s,.string s'] W' fun e w'=>e=.returned (.int .i64 r)∧w'=W':=fun W'=>(Po s s' W').mono fun e w' h=>⟨by rw [←hr]; exact h.1,h.2.symm⟩
 clear hr
 go_enter Try.func66,Try.ntmps66
 go_wp2_with (go_at_call 67; refine (hcon _).mono ?_; rintro e w' ⟨rfl,rfl⟩)
 go_ret
 exact ⟨rfl,0,_,by rw [alloc_eq_grow,alloc_eq_grow,grow_grow]; rfl⟩
def keyed (es:List (List OT)):Prop:=(∀ e∈es,∃ s n us,e=[.str s,.str n,.ow us])∧(es.map Og).Nodup∧es.length≤1099511627776
noncomputable def CE (xs:List SV) (ob:List Ob):Option (SV × List Ob) :=
 match xs,ob with
 | [.ref 0,.fn f []],[.row t sz es]=>bif dec (f=66∧sz=3∧keyed es) then some (.tup [],[.row t sz (es.mergeSort rowLe)]) else none
 | [.nil,.fn f []],[]=>bif dec (f=66) then some (.tup [],[]) else none
 | _,_=>none
theorem Sx (a b:List UInt8):decide (HV a b<0)=Op.bytesLess a b:=by
 unfold HV
 cases h:Op.bytesLess a b with
 | true=>rfl
 | false =>
  simp only [Bool.false_eq_true,if_false]
  split <;> rfl
theorem Ix (n:Nat) (key:_root_.Fin n→List UInt8) (x y:_root_.Fin n):ltOf (fun x y=>HV (key x) (key y)) x y=Op.bytesLess (key x) (key y):=Sx _ _
theorem WW (n:Nat) (key:_root_.Fin n→List UInt8):SWO (ltOf fun x y=>HV (key x) (key y)):=by
 refine ⟨fun x=>by rw [Ix]; exact Mu _,fun x y z h k=>?_,fun x y z h k=>?_⟩
 ·rw [Ix] at *; exact KS _ _ _ h k
 ·rw [Ix] at *; exact QR _ _ _ h k
theorem Jc {xs:List SV} {ob:List Ob} {r:SV} {ob':List Ob} (h:CE xs ob=some (r,ob')):Fun Try.prog 65 xs ob r ob':=by
 unfold CE at h
 split at h
 ·rename_i f t sz es
  obtain ⟨h1,h2⟩:=Al h
  obtain ⟨rfl,rfl,hk1,hk2,hk3⟩:=At.1 h1
  simp only [zG,zP] at h2
  obtain ⟨rfl,rfl⟩:=h2
  intro w I V B vs hwf hvs
  obtain ⟨v,q,rfl,hv,hvs⟩:=Cb hvs
  obtain ⟨v2,q,rfl,hv2,hvs⟩:=Cb hvs
  obtain rfl:=J9 hvs
  simp only [RepV] at hv hv2
  obtain ⟨vs2,rfl,hv2⟩:=hv2
  simp only [RepVs] at hv2
  subst hv2
  obtain ⟨val,hval,hrow⟩:=hwf.obj 0 trivial
  rw [hv.1] at hval
  obtain rfl:=zK hval
  have hv0:=hv.1
  have hrow:RowR w I (B 0) t 3 es v:=hrow
  rcases zJ es.length with h0 | h0
  ·have he:es=[]:=zF h0
   subst he
   obtain ⟨a,c,rfl,_⟩:=hrow.form
   have hcon:=AnyF.slices_SortFunc_none KU a c (.func (.func 66) #[] #[]) w
   change Calls Try.prog 65 _ _ _ at hcon
   refine hcon.mono ?_
   rintro e w' ⟨rfl,rfl⟩
   rw [List.mergeSort_nil]
   exact ⟨_,I,V,B,rfl,by simp only [RepV,RepVs]; exact ⟨[],rfl,rfl⟩,Of hwf⟩
  ·rcases hrow with ⟨he,_⟩ | ⟨b,cap,cur,Sub,rfl,hs,hb,g1,g2,g3,g4,g5,g6,g7⟩
   ·subst he; simp at h0
   have hblt:=(yO.1 hb).1
   haveI:Inhabited (_root_.Fin es.length):=⟨⟨0,h0⟩⟩
   let cell:Nat→Nat→Value:=fun i j=>cur.getD (i*3+j) undef
   let enc:_root_.Fin es.length→List Value:=fun i=>[cell i 0,cell i 1,cell i 2]
   let key:_root_.Fin es.length→List UInt8:=fun i=>(Og es[i]).toList
   let d:Array (_root_.Fin es.length):=(yK es.length).toArray
   have hdsz:d.size=es.length:=by simp [d]
   have hdget:∀ i (hi:i<es.length),d[i]! = ⟨i,hi⟩:=fun i hi=>by
    rw [getElem!_pos d i (by rw [hdsz]; exact hi)]
    simp [d]
   have lp:∀ i (hi:i<es.length) j (hj:j<3),ORep w I (Sub i j) (es[i][j]'(by rw [g4 i hi]; exact hj)) (cell i j):=fun i hi j hj=>g7 i j hi (by rw [g4 i hi]; exact hj)
   have forms:∀ i:_root_.Fin es.length,∃ (n:ByteArray) (a:Option Addr) (l c:Nat),enc i=[.string (Og es[i]),.string n,.slice a l c]:=fun i=>by
    obtain ⟨s,n,us,he⟩:=hk1 es[i] (zH _)
    have l0:=lp i i.2 0 (by omega)
    have l1:=lp i i.2 1 (by omega)
    have l2:=lp i i.2 2 (by omega)
    have he':es[i.val]'i.2=[.str s,.str n,.ow us]:=he
    simp only [he',List.getElem_cons_zero,yF] at l0 l1 l2
    obtain ⟨a,l,c,e2⟩:=l2.owV
    refine ⟨n,a,l,c,?_⟩
    show [cell i 0,cell i 1,cell i 2]=_
    rw [l0.strV,l1.strV,e2,he]
    rfl
   have hlen:∀ x,(enc x).length=3:=fun _=>rfl
   have hone:∀ x,∀ v∈enc x,v.oneCell'=true:=fun x v hv=>by
    obtain ⟨n,a,l,c,e⟩:=forms x
    rw [e] at hv
    simp only [zV,List.not_mem_nil,or_false] at hv
    rcases hv with rfl | rfl | rfl <;> rfl
   have hH:HoldsK enc 3 w b 0 d:=by
    intro j hj
    rw [size_flatK] at hj
    have hq:j / 3<d.size:=by omega
    have hq':j / 3<es.length:=by rw [←hdsz]; exact hq
    have hlt:j<cur.size:=by rw [g3]; have:=Nat.mul_le_mul_right 3 g1; omega
    refine ⟨?_,?_⟩
    ·rw [Nat.zero_add,cell_of_row w b _ _ _ _ hb,get_flatK enc 3 d j hj,hdget _ hq']
     show cur[j]?=some ([cell (j / 3) 0,cell (j / 3) 1,cell (j / 3) 2][j % 3]!)
     have hm:j % 3=0∨j % 3=1∨j % 3=2:=by omega
     have e:cur[j]?=some (cell (j / 3) (j % 3)):=by
      show cur[j]?=some (cur.getD (j / 3*3+j % 3) undef)
      rw [show j / 3*3+j % 3=j by omega,yQ hlt]
      simp [yN,hlt]
     rw [e]
     rcases hm with hm | hm | hm <;> rw [hm] <;> rfl
    ·unfold World.frozen?
     rw [hb]
     simp
   have hcmp:CmpLays Try.prog 66 #[] enc 3 (fun x y=>HV (key x) (key y)) b 0 d.size w:=by
    intro m os dk _ x y
    obtain ⟨n,a,l,c,e⟩:=forms x
    obtain ⟨n',a',l',c',e'⟩:=forms y
    rw [e,e']
    exact LG _ n _ n' a a' l c l' c' _
   have eg:∀ args w,(callFunc 66 args).run Try.prog w=.ok (.enter 66 args) w:=enters_of Try.func66 (by kernel_rfl) rfl
   have hT:∀ x y,ltOf (fun x y=>HV (key x) (key y)) x y=false→ltOf (fun x y=>HV (key x) (key y)) y x=false→x=y:=fun x y h h'=>by
    rw [Ix] at h h'
    have e:=IV (Pn _ _ h h')
    have hi:x.val<(es.map Og).length:=by simp
    have hi':y.val<(es.map Og).length:=by simp
    have:=(List.getElem_inj (h₀:=hi) (h₁:=hi') hk2).1 (by simpa using e)
    exact _root_.Fin.ext this
   have hcon:=AnyQ.slices_SortFunc_total KU 3 Try.isAgg58 Try.sizeOf58 enc hlen hone (fun x y=>HV (key x) (key y)) (WW _ key) 66 #[] b 0 cap d w eg hcmp hH hblt (by rw [hdsz]; omega) hT
   change Calls Try.prog 65 _ _ _ at hcon
   rw [hdsz] at hcon
   refine hcon.mono ?_
   rintro e w' ⟨rfl,m,os,rfl⟩
   refine ⟨_,I,V,B,rfl,by simp only [RepV,RepVs]; exact ⟨[],rfl,rfl⟩,?_⟩
   let L:List (_root_.Fin es.length):=d.toList.mergeSort fun x y=>!(ltOf fun x y=>HV (key x) (key y)) y x
   have hdl:d.toList=yK es.length:=rfl
   have hLp:L.Perm (yK es.length):=by rw [←hdl]; exact List.mergeSort_perm _ _
   have hLl:L.length=es.length:=by rw [hLp.length_eq]; simp
   have hLn:L.Nodup:=hLp.nodup_iff.2 (List.nodup_finRange _)
   have hes:es.mergeSort rowLe=L.map fun i=>es[i]:=by
    have e:es=(yK es.length).map fun i=>es[i]:=by
     apply List.ext_getElem
     ·simp
     ·intro i h1 h2; simp
    have k:=List.map_mergeSort (r:=fun x y=>!(ltOf fun x y=>HV (key x) (key y)) y x) (s:=rowLe) (f:=fun i:_root_.Fin es.length=>es[i]) (l:=yK es.length) (fun a _ b _=>by
     rw [Ix]; rfl)
    rw [←e] at k
    exact k.symm
   rw [hes]
   have hg:∀ i (hi:i<L.length) (j:Nat),j<3→(putCells id 0 (flatK enc 3 L.toArray) cur).getD (i*3+j) undef=cell L[i] j:=fun i hi j hj=>by
    have:=Oi enc 3 L.toArray cur (i:=i) (j:=j) (by simpa using hi) hj (by rw [g3]; simp only [List.size_toArray,hLl]; exact Nat.mul_le_mul_right 3 g1)
    rw [this,getElem!_pos L.toArray i (by simpa using hi)]
    simp only [List.getElem_toArray]
    show [cell L[i] 0,cell L[i] 1,cell L[i] 2][j]! = _
    have hm:j=0∨j=1∨j=2:=by omega
    rcases hm with rfl | rfl | rfl <;> rfl
   have hgrow:∀ x,x<w.heap.size→x≠b→(sortWorldK enc 3 w b 0 m L.toArray os).heap[x]?=w.heap[x]?:=fun x hx hne=>by
    rw [KT enc 3 w b m _ os x hx,if_neg (fun e=>hne e.symm)]
   refine Um (fun i j x=>∃ h:i<L.length,Sub (L[i]).val j x) hwf hv0 (by rw [zX,hLl]) hs hb g1 g2 g3 (fun i hi=>by rw [yJ]; exact g4 _ _) (fun i j x h=>g5 _ _ _ h.2) (fun i j i' j' x h h'=>?_) rfl ⟨rfl,fun h=>False.elim h⟩ rfl (size_sortWorldK_c enc 3 w b 0 m _ os) hgrow (Oh enc 3 w b m _ os hb) (by simp [putCells]) (fun i j hi hj=>?_)
   ·obtain ⟨a1,a2⟩:=h
    obtain ⟨b1,b2⟩:=h'
    obtain ⟨c1,c2⟩:=g6 _ _ _ _ _ a2 b2
    exact ⟨(List.getElem_inj hLn).1 (_root_.Fin.ext c1),c2⟩
   ·have hi':i<L.length:=by simpa using hi
    have hj':j<3:=by simpa [g4] using hj
    rw [hg i hi' j hj']
    have:=lp L[i] (L[i]).2 j hj'
    have hk:KeepS I w (sortWorldK enc 3 w b 0 m L.toArray os):=⟨size_sortWorldK_c enc 3 w b 0 m _ os,fun x hx hlt=>hgrow x hlt fun e=>hwf.dI 0 x trivial (e▸hs) hx⟩
    have h2:=(this.keep hk (fun _ h=>h) (fun x hx hlt=>hgrow x hlt (g5 _ _ _ hx).2)).up (S':=fun x=>∃ h:i<L.length,Sub (L[i]).val j x) (fun x hx=>⟨hi',hx⟩)
    simp only [yJ]
    exact h2
 ·rename_i f
  obtain ⟨h1,h2⟩:=Al h
  obtain rfl:=At.1 h1
  simp only [zG,zP] at h2
  obtain ⟨rfl,rfl⟩:=h2
  intro w I V B vs hwf hvs
  obtain ⟨v,q,rfl,hv,hvs⟩:=Cb hvs
  obtain ⟨v2,q,rfl,hv2,hvs⟩:=Cb hvs
  obtain rfl:=J9 hvs
  simp only [RepV] at hv hv2
  obtain ⟨vs2,rfl,hv2⟩:=hv2
  simp only [RepVs] at hv2
  subst hv2
  subst hv
  have hcon:=AnyF.slices_SortFunc_none KU none 0 (.func (.func 66) #[] #[]) w
  change Calls Try.prog 65 _ _ _ at hcon
  refine hcon.mono ?_
  rintro e w' ⟨rfl,rfl⟩
  exact ⟨_,I,V,B,rfl,by simp only [RepV,RepVs]; exact ⟨[],rfl,rfl⟩,Of hwf⟩
 ·cases h
end Go.Proofs.Ytjkcamgfimpggaa
set_option maxRecDepth 100000
set_option linter.unusedSimpArgs false
set_option linter.unusedVariables false
set_option linter.unusedSectionVars false
namespace Go.Proofs.Ytjkcamgfimpggaa
open Go.RowKit
abbrev Tm.sv (x:Tm):SV:=.agg [.str x.name,.arr (x.args.map Tm.d)]
mutual
def Tm.o:Tm→List OT
 | .mk name args=>[.str name,.ow (Tm.os args)]
def Tm.os:List Tm→List (List OT)
 | []=>[]
 | x :: xs=>Tm.o x :: Tm.os xs
end
theorem Tm.UZ:∀ xs:List Tm,Tm.os xs=xs.map Tm.o
 | []=>rfl
 | x :: xs=>by rw [Tm.os,Tm.UZ xs]; rfl
theorem Tm.Hz (x:Tm):Tm.o x=[.str x.name,.ow (x.args.map Tm.o)]:=by
 obtain ⟨name,args⟩:=x
 rw [Tm.o,Tm.UZ]; rfl
theorem Tm.Pp:∀ xs:List Tm,(∀ x∈xs,OT.ers (Tm.o x)=Tm.d x)→OT.erss (xs.map Tm.o)=xs.map Tm.d
 | [],_=>rfl
 | x :: xs,h=>by
  simp only [zB,OT.erss]
  rw [h x (by simp),Tm.Pp xs fun y hy=>h y (by simp [hy])]
theorem Tm.er (x:Tm):OT.ers (Tm.o x)=Tm.d x:=by
 have h:=Tm.Pp x.args fun y hy=>Tm.er y
 rw [Tm.Hz,Tm.d_eq]
 simp only [OT.ers,OT.er,h]
termination_by SizeOf.sizeOf x
decreasing_by exact Tm.A8 hy
theorem Tm.erss (xs:List Tm):OT.erss (xs.map Tm.o)=xs.map Tm.d:=Tm.Pp xs fun x _=>Tm.er x
theorem Tm.Pq:∀ xs:List Tm,(∀ x∈xs,OT.E1 (Tm.o x)=true)→OT.BN (xs.map Tm.o)=true
 | [],_=>rfl
 | x :: xs,h=>by
  simp only [zB,OT.BN]
  rw [h x (by simp),Tm.Pq xs fun y hy=>h y (by simp [hy])]; rfl
theorem Tm.no (x:Tm):OT.E1 (Tm.o x)=true:=by
 have h:=Tm.Pq x.args fun y hy=>Tm.no y
 rw [Tm.Hz]
 simp only [OT.E1,OT.noSh,h,zI,zT]
termination_by SizeOf.sizeOf x
decreasing_by exact Tm.A8 hy
theorem Tm.noss (xs:List Tm):OT.BN (xs.map Tm.o)=true:=Tm.Pq xs fun x _=>Tm.no x
abbrev Tm.osv (x:Tm):SV:=.agg [.str x.name,.ref 0]
abbrev Tm.obs (x:Tm):List Ob:=[.row 26 2 (x.args.map Tm.o)]
abbrev Bd.sv (x:Bd):SV:=.agg [.str x.var,.str x.term.name,.arr (x.term.args.map Tm.d)]
def Bd.o (x:Bd):List OT:=[.str x.var,.str x.term.name,.ow (x.term.args.map Tm.o)]
theorem Bd.er (x:Bd):OT.ers (Bd.o x)=Bd.d x:=by
 simp only [Bd.o,Bd.d,OT.ers,OT.er,Tm.erss]
theorem Bd.erss:∀ xs:List Bd,OT.erss (xs.map Bd.o)=xs.map Bd.d
 | []=>rfl
 | x :: xs=>by simp only [zB,OT.erss,Bd.er,Bd.erss xs]
theorem Bd.no (x:Bd):OT.E1 (Bd.o x)=true:=by
 simp only [Bd.o,OT.E1,OT.noSh,Tm.noss,zI,zT]
theorem Bd.noss:∀ xs:List Bd,OT.BN (xs.map Bd.o)=true
 | []=>rfl
 | x :: xs=>by simp only [zB,OT.BN,Bd.no,Bd.noss xs,zI]
abbrev Sb.sv (x:Sb):SV:=.agg [.arr (x.binds.map Bd.d)]
def Sb.o (x:Sb):List OT:=[.ow (x.binds.map Bd.o)]
theorem Sb.er (x:Sb):OT.ers (Sb.o x)=Sb.d x:=by
 simp only [Sb.o,Sb.d,OT.ers,OT.er,Bd.erss]
theorem Sb.erss:∀ xs:List Sb,OT.erss (xs.map Sb.o)=xs.map Sb.d
 | []=>rfl
 | x :: xs=>by simp only [zB,OT.erss,Sb.er,Sb.erss xs]
theorem Sb.no (x:Sb):OT.E1 (Sb.o x)=true:=by
 simp only [Sb.o,OT.E1,OT.noSh,Bd.noss,zI,zT]
theorem Sb.noss:∀ xs:List Sb,OT.BN (xs.map Sb.o)=true
 | []=>rfl
 | x :: xs=>by simp only [zB,OT.BN,Sb.no,Sb.noss xs,zI]
abbrev Sb.osv (x:Sb):SV:=.agg [.ref 0]
abbrev Sb.obs (x:Sb):List Ob:=[.row 58 3 (x.binds.map Bd.o)]
mutual
def Tm.nodes:Tm→Nat
 | .mk _ args=>1+Tm.AK args
def Tm.AK:List Tm→Nat
 | []=>0
 | x :: xs=>Tm.nodes x+Tm.AK xs
end
mutual
def Tm.deep:Tm→Nat
 | .mk _ args=>Tm.Fv args+1
def Tm.Fv:List Tm→Nat
 | []=>0
 | x :: xs=>max (Tm.deep x) (Tm.Fv xs)
end
mutual
def Tm.names:Tm→Bool
 | .mk name args=>if Bh name then args.length == 0 else Ep name&&decide (args.length≤4)&&Tm.Dm args
def Tm.Dm:List Tm→Bool
 | []=>true
 | x :: xs=>Tm.names x&&Tm.Dm xs
end
def Tm.small (x:Tm):Bool:=decide (x.nodes≤30)&&decide (x.deep≤8)
def Tm.valid (x:Tm):Bool:=x.small&&x.names
noncomputable def Tm.eqn (x:Tm):Bool:=dec (x.name=⟨#[61]⟩)
noncomputable def Tm.atom (x:Tm):Bool:=if x.eqn then x.args.length == 2&&x.small&&Tm.Dm x.args else Ep x.name&&x.valid
noncomputable def Tm.expr (x:Tm):Bool:=x.valid || x.atom
abbrev TEnv:=ByteArray→Option Tm
noncomputable def JN (e:TEnv) (s:ByteArray) (t:Tm):TEnv:=fun q=>bif dec (q=s) then some t else e q
mutual
theorem Tm.Va:∀ x y:Tm,Tm.d x=Tm.d y→x=y
 | .mk n xs,.mk m ys,h=>by
  rw [Tm.d_eq,Tm.d_eq] at h
  simp only [zR,D.str.injEq,D.arr.injEq,and_true] at h
  have h1:n=m:=h.1
  rw [h1,Tm.Sy xs ys h.2]
theorem Tm.Sy:∀ xs ys:List Tm,xs.map Tm.d=ys.map Tm.d→xs=ys
 | [],[],_=>rfl
 | [],y :: ys,h=>by simp at h
 | x :: xs,[],h=>by simp at h
 | x :: xs,y :: ys,h=>by
  simp only [zB,zR] at h
  rw [Tm.Va x y h.1,Tm.Sy xs ys h.2]
end
noncomputable def Cm (e:TEnv):MF
 | .str s=>match e s with
  | some t=>some (true,[.str t.name,.arr (t.args.map Tm.d)])
  | none=>none
 | .int _=>none
theorem Cv (e:TEnv) (s:ByteArray):Cm e (.str s)=match e s with | some t=>some (true,[.str t.name,.arr (t.args.map Tm.d)]) | none=>none:=rfl
theorem Tm.Un (xs ys:List Tm) (h:xs.map Tm.d=ys.map Tm.d):xs=ys:=by
 have:Tm.mk ⟨#[]⟩ xs=Tm.mk ⟨#[]⟩ ys:=Tm.Va _ _ (by rw [Tm.d_eq,Tm.d_eq]; simp only [Tm.name,Tm.args,h])
 injection this
theorem Tm.eta (x:Tm):Tm.mk x.name x.args=x:=by cases x; rfl
theorem Tm.KV {x y:Tm} (h1:x.name=y.name) (h2:x.args.map Tm.d=y.args.map Tm.d):x=y:=by
 rw [←Tm.eta x,← Tm.eta y,h1,Tm.Un _ _ h2]
theorem QS {e e':TEnv} (h:Cm e=Cm e'):e=e':=by
 funext s
 have h1:=congrFun h (.str s)
 rw [Cv,Cv] at h1
 cases ha:e s with
 | none =>
  rw [ha] at h1
  cases hb:e' s with
  | none=>rfl
  | some u=>rw [hb] at h1; cases h1
 | some t =>
  rw [ha] at h1
  cases hb:e' s with
  | none=>rw [hb] at h1; cases h1
  | some u =>
   rw [hb] at h1
   simp only [zG,zP,true_and,zR,D.str.injEq,D.arr.injEq,and_true] at h1
   rw [Tm.KV h1.1 h1.2]
def MbS (e:TEnv) (L:List Bd):Prop:=L.Pairwise (fun a b=>strLt a.var b.var=true)∧∀ b:Bd,b∈L ↔ e b.var=some b.term∧b.term.name≠b.var
noncomputable def mbs (e:TEnv):List Bd:=open Classical in if h:∃ L,MbS e L then h.choose else []
noncomputable def Ng (L:List Bd):Bool:=decide (L.length≤12)&&L.all fun b=>Bh b.var&&b.term.valid
noncomputable def mbA (e:TEnv):List Bd:=bif Ng (mbs e) then mbs e else []
noncomputable abbrev Ps (e:TEnv):SV:=.tup [.agg [.ref 0],.bool (Ng (mbs e))]
noncomputable abbrev Pt (e:TEnv):List Ob:=[.row 58 3 ((mbA e).map Bd.o)]
def Sz (e:TEnv):Prop:=Fun Try.prog 43 [.mp true (Cm e)] [] (Ps e) (Pt e)
noncomputable def Pu (xs:List SV) (ob:List Ob):Option (SV × List Ob) :=
 match ob with
 | []=>open Classical in if h:∃ e:TEnv,xs=[.mp true (Cm e)]∧Sz e then some (Ps h.choose,Pt h.choose) else none
 | _=>none
theorem Uo {e:TEnv} (h:Sz e):Pu [.mp true (Cm e)] []=some (Ps e,Pt e):=by
 have h0:∃ q:TEnv,[SV.mp true (Cm e)]=[.mp true (Cm q)]∧Sz q:=⟨e,rfl,h⟩
 have e1:e=h0.choose:=by
  have h1:=(List.cons.inj h0.choose_spec.1).1
  rw [SV.mp.injEq] at h1
  exact QS h1.2
 unfold Pu
 simp only
 rw [dif_pos h0,← e1]
theorem QT {xs:List SV} {ob:List Ob} {r:SV} {ob':List Ob} (h:Pu xs ob=some (r,ob')):Fun Try.prog 43 xs ob r ob':=by
 unfold Pu at h
 split at h
 ·split at h
  ·rename_i h0
   have hs:=h0.choose_spec
   generalize h0.choose=y at hs h
   obtain ⟨h1,h2⟩:=hs
   simp only [zG,zP] at h
   obtain ⟨rfl,rfl⟩:=h
   rw [h1]
   exact h2
  ·cases h
 ·cases h
structure Pr where
 name:ByteArray
 term:Tm
def Pr.o (x:Pr):List OT:=[.str x.name,.str x.term.name,.sh (x.term.args.map Tm.d)]
def Pr.d (x:Pr):List D:=[.str x.name,.str x.term.name,.arr (x.term.args.map Tm.d)]
theorem Pr.WA (x y:Pr) (h:Pr.o x=Pr.o y):x=y:=by
 obtain ⟨a,t⟩:=x
 obtain ⟨b,u⟩:=y
 simp only [Pr.o,zR,OT.str.injEq,OT.sh.injEq,and_true] at h
 obtain ⟨h1,h2,h3⟩:=h
 rw [h1,Tm.KV h2 h3]
theorem Pr.S1:∀ xs ys:List Pr,xs.map Pr.o=ys.map Pr.o→xs=ys
 | [],[],_=>rfl
 | [],y :: ys,h=>by simp at h
 | x :: xs,[],h=>by simp at h
 | x :: xs,y :: ys,h=>by
  simp only [zB,zR] at h
  rw [Pr.WA x y h.1,Pr.S1 xs ys h.2]
noncomputable def prF (n:ByteArray) (ps:List Pr):Option Pr:=ps.find? fun q=>dec (q.name=n)
mutual
noncomputable def mt:Tm→Tm→List Pr→List Pr × Bool
 | .mk n args,t,ps=>bif Bh n then (match prF n ps with
   | some q=>(ps,dec (q.term=t))
   | none=>(ps++[⟨n,t⟩],true))
  else bif dec (n=t.name)&&dec (args.length=t.args.length) then mtL args t.args ps else (ps,false)
noncomputable def mtL:List Tm→List Tm→List Pr→List Pr × Bool
 | [],_,ps=>(ps,true)
 | _ :: _,[],ps=>(ps,true)
 | x :: xs,y :: ys,ps=>bif (mt x y ps).2 then mtL xs ys (mt x y ps).1 else (ps,false)
end
noncomputable abbrev QU (p t:Tm):List SV:=[p.sv,t.sv,.ref 0]
noncomputable abbrev prR (p t:Tm) (ps:List Pr):SV:=.tup [.ref 1,.bool (mt p t ps).2]
noncomputable abbrev prO (p t:Tm) (ps:List Pr):List Ob:=[.gone,.row 70 3 ((mt p t ps).1.map Pr.o)]
def Up (p t:Tm) (ps:List Pr):Prop:=Fun Try.prog 23 (QU p t) [.row 70 3 (ps.map Pr.o)] (prR p t ps) (prO p t ps)
noncomputable def Pv (xs:List SV) (ob:List Ob):Option (SV × List Ob) :=
 open Classical in if h:∃ q:Tm × Tm × List Pr,xs=QU q.1 q.2.1∧ob=[.row 70 3 (q.2.2.map Pr.o)]∧Up q.1 q.2.1 q.2.2 then some (prR h.choose.1 h.choose.2.1 h.choose.2.2,prO h.choose.1 h.choose.2.1 h.choose.2.2) else none
theorem Tm.Qe {x y:Tm} (h:x.sv=y.sv):x=y:=by
 simp only [Tm.sv,SV.agg.injEq,zR,SV.str.injEq,SV.arr.injEq,and_true] at h
 exact Tm.KV h.1 h.2
theorem Uq {p t:Tm} {ps:List Pr} (h:Up p t ps):Pv (QU p t) [.row 70 3 (ps.map Pr.o)]=some (prR p t ps,prO p t ps):=by
 have h0:∃ q:Tm × Tm × List Pr,QU p t=QU q.1 q.2.1∧[Ob.row 70 3 (ps.map Pr.o)]=[.row 70 3 (q.2.2.map Pr.o)]∧Up q.1 q.2.1 q.2.2:=⟨(p,t,ps),rfl,rfl,h⟩
 have e:(p,t,ps)=h0.choose:=by
  have hs:=h0.choose_spec
  generalize h0.choose=q at hs ⊢
  obtain ⟨h1,h2,_⟩:=hs
  obtain ⟨q1,q2,q3⟩:=q
  simp only [QU,zR,and_true] at h1
  simp only [zR,Ob.row.injEq,true_and,and_true] at h2
  rw [Tm.Qe h1.1,Tm.Qe h1.2,Pr.S1 _ _ h2]
 unfold Pv
 rw [dif_pos h0,← e]
theorem QV {xs:List SV} {ob:List Ob} {r:SV} {ob':List Ob} (h:Pv xs ob=some (r,ob')):Fun Try.prog 23 xs ob r ob':=by
 unfold Pv at h
 split at h
 ·rename_i h0
  have hs:=h0.choose_spec
  generalize h0.choose=y at hs h
  obtain ⟨h1,h2,h3⟩:=hs
  simp only [zG,zP] at h
  obtain ⟨rfl,rfl⟩:=h
  rw [h1,h2]
  exact h3
 ·cases h
def Qf:List (Nat × FM)→Nat→FM
 | [],_=>⟨[],.asis,none,false⟩
 | (f,m) :: r,g=>bif f == g then m else Qf r g
theorem QW {l:List (Nat × FM)} {f:Nat} {g:List SV→List Ob→Option (SV × List Ob)} (h:(Qf l f).ext=some g):∃ m,(f,m)∈l∧m.ext=some g:=by
 induction l with
 | nil=>cases h
 | cons x r ih =>
  obtain ⟨f',m⟩:=x
  simp only [Qf] at h
  cases e:f' == f with
  | true =>
   rw [e] at h
   obtain rfl:f'=f:=by simpa using e
   exact ⟨m,by simp,h⟩
  | false =>
   rw [e] at h
   obtain ⟨m',h1,h2⟩:=ih h
   exact ⟨m',by simp [h1],h2⟩
noncomputable def WY:List SV→Option SV
 | [.int .i64 k]=>bif dec (1≤k)&&dec (k≤1099511627776) then some (.str (W9 k)) else none
 | _=>none
def S2:List SV→Option SV
 | [.str s]=>some (.bool (Bh s))
 | _=>none
theorem QX {xs:List SV} {r:SV} (h:S2 xs=some r):Fun Try.prog 27 xs [] r []:=by
 unfold S2 at h
 split at h
 ·rename_i s
  obtain rfl:=zK h
  refine Fun.of_same (rv:=.bool (Bh s)) (fun w I V=>by simp only [RepV]) fun w I V vs h=>?_
  obtain ⟨v,r,rfl,h3,h⟩:=Cb h
  obtain rfl:=J9 h
  obtain ⟨rfl,h4⟩:=JX h3
  exact KR s w h4
 ·cases h
def S3:List SV→Option SV
 | [.str s]=>some (.bool (Bh s))
 | _=>none
theorem QY {xs:List SV} {r:SV} (h:S3 xs=some r):Fun Try.prog 34 xs [] r []:=by
 unfold S3 at h
 split at h
 ·rename_i s
  obtain rfl:=zK h
  refine Fun.of_same (rv:=.bool (Bh s)) (fun w I V=>by simp only [RepV]) fun w I V vs h=>?_
  obtain ⟨v,r,rfl,h3,h⟩:=Cb h
  obtain rfl:=J9 h
  obtain ⟨rfl,h4⟩:=JX h3
  exact QQ s w h4
 ·cases h
def S4:List SV→Option SV
 | [.str s]=>some (.bool (Ep s))
 | _=>none
theorem QZ {xs:List SV} {r:SV} (h:S4 xs=some r):Fun Try.prog 61 xs [] r []:=by
 unfold S4 at h
 split at h
 ·rename_i s
  obtain rfl:=zK h
  refine Fun.Sv (rv:=.bool (Ep s)) (fun w I V=>by simp only [RepV]) fun w I V vs h=>?_
  obtain ⟨v,r,rfl,h3,h⟩:=Cb h
  obtain rfl:=J9 h
  obtain ⟨rfl,h4⟩:=JX h3
  exact Nd s w h4
 ·cases h
def S5:List SV→Option SV
 | [.str s]=>some (.bool (Ep s))
 | _=>none
theorem Ra {xs:List SV} {r:SV} (h:S5 xs=some r):Fun Try.prog 58 xs [] r []:=by
 unfold S5 at h
 split at h
 ·rename_i s
  obtain rfl:=zK h
  refine Fun.of_same (rv:=.bool (Ep s)) (fun w I V=>by simp only [RepV]) fun w I V vs h=>?_
  obtain ⟨v,r,rfl,h3,h⟩:=Cb h
  obtain rfl:=J9 h
  obtain ⟨rfl,h4⟩:=JX h3
  exact Nf s w h4
 ·cases h
noncomputable def modes:FuncId→FM:=Qf [(27,⟨[],.asis,some (JM S2),false⟩),(34,⟨[],.asis,some (JM S3),false⟩),(61,⟨[],.asis,some (JM S4),false⟩),(58,⟨[],.asis,some (JM S5),false⟩),(65,⟨[true],.asis,some CE,false⟩),(43,⟨[],.asis,some Pu,false⟩),(23,⟨[false,false,true],.asis,some Pv,false⟩),(78,⟨[],.own [some (26,2)],none,false⟩),(45,⟨[],.own [none,some (26,2)],none,false⟩),(26,⟨[],.own [none,some (26,2),none],none,false⟩),(8,⟨[],.own [none,some (26,2),none],none,false⟩),(36,⟨[],.own [none,some (26,2)],none,false⟩),(17,⟨[],.own [none,some (26,2)],none,false⟩),(68,⟨[],.frz,none,false⟩),(37,⟨[true],.half [some (58,3)],none,false⟩),(42,⟨[true],.asis,none,false⟩),(22,⟨[],.own [some (58,3),none],none,false⟩),(6,⟨[],.own [some (58,3),none],none,false⟩),(24,⟨[],.half [some (58,3)],none,false⟩),(7,⟨[],.frz,none,false⟩),(5,⟨[],.frz,none,false⟩),(38,⟨[],.half [none,some (26,2)],none,false⟩),(19,⟨[],.half [none,some (26,2)],none,false⟩),(30,⟨[],.half [none,some (26,2)],none,false⟩),(54,⟨[],.half [none,some (26,2)],none,false⟩),(55,⟨[],.half [none,some (26,2)],none,false⟩),(31,⟨[],.half [none,some (26,2)],none,false⟩),(14,⟨[],.half [none,some (26,2)],none,false⟩),(18,⟨[],.half [some (58,3)],none,false⟩),(29,⟨[],.frz,none,false⟩),(12,⟨[],.frz,none,false⟩),(13,⟨[],.frz,none,false⟩)]
theorem noExt {l:List (Nat × FM)} (h:(l.all fun p=>p.2.ext.isNone)=true) {f:Nat} {m:FM} {g:List SV→List Ob→Option (SV × List Ob)} (h1:(f,m)∈l) (h2:m.ext=some g):False:=by
 have h3:=zZ.1 h _ h1
 rw [h2] at h3
 cases h3
theorem KW:JW Try.prog modes:=by
 intro f g xs ob r ob' hg hx
 obtain ⟨m,h1,h2⟩:=QW hg
 rcases zV.1 h1 with h1 | h1
 ·obtain ⟨rfl,rfl⟩:=yE h1
  obtain rfl:=zK h2
  exact Hs QX hx
 rcases zV.1 h1 with h1 | h1
 ·obtain ⟨rfl,rfl⟩:=yE h1
  obtain rfl:=zK h2
  exact Hs QY hx
 rcases zV.1 h1 with h1 | h1
 ·obtain ⟨rfl,rfl⟩:=yE h1
  obtain rfl:=zK h2
  exact Hs QZ hx
 rcases zV.1 h1 with h1 | h1
 ·obtain ⟨rfl,rfl⟩:=yE h1
  obtain rfl:=zK h2
  exact Hs Ra hx
 rcases zV.1 h1 with h1 | h1
 ·obtain ⟨rfl,rfl⟩:=yE h1
  obtain rfl:=zK h2
  exact Jc hx
 rcases zV.1 h1 with h1 | h1
 ·obtain ⟨rfl,rfl⟩:=yE h1
  obtain rfl:=zK h2
  exact QT hx
 rcases zV.1 h1 with h1 | h1
 ·obtain ⟨rfl,rfl⟩:=yE h1
  obtain rfl:=zK h2
  exact QV hx
 exact (noExt rfl h1 h2).elim
noncomputable def E:FEnv:=ev Try.prog modes
noncomputable def calls:CallF:=CB modes E
theorem V7 {f:FuncId} {xs:List SV} {ob:List Ob} {r:SV} {ob':List Ob} (h:E f xs ob=some (r,ob')):Fun Try.prog f xs ob r ob':=Ug IU KW f xs ob r ob' h
noncomputable def run (n0:Nat):SC→St→Option (X × St):=fr Try.prog calls (HT n0)
def go (n0:Nat) (sc:SC) (st:St) (K:X→St→Prop):Prop:=∃ x st',run n0 sc st=some (x,st')∧K x st'
def Ur (n0:Nat) (b:SC) (K:X→St→Prop):X→St→Prop
 | .normal,st=>go n0 b st K
 | .exit i,st=>K (.exit i) st
 | .ret,st=>K .ret st
def blk (id:Nat) (K:X→St→Prop):X→St→Prop
 | .normal,st=>K .normal st
 | .exit i,st=>if i=id then K .normal st else K (.exit i) st
 | .ret,st=>K .ret st
def S6 (r:Option St) (k:X→St→Prop):Prop :=
 match r with
 | some st=>k .normal st
 | none=>False
def Mv (anc:List (List Nat)) (r:Option (List Ent × St)) (k:X→St→Prop):Prop :=
 match r with
 | some (es,st)=>obB anc [] (Hy es) 0=true∧k .normal st
 | none=>False
def KX (v:SV) (a b:Unit→Prop):Prop :=
 match v with
 | .bool true=>a ()
 | .bool false=>b ()
 | _=>False
noncomputable def Pw (ops:List SOper) (st:St):Option St:=KA Try.prog calls ops st
noncomputable def Jd (ops:List SOper) (acc:List Ent) (st:St):Option (List Ent × St):=D2 Try.prog calls ops acc st
section
variable {n0:Nat} {st:St} {K:X→St→Prop}
theorem go_skip:go n0 .skip st K=K .normal st:=by
 refine propext ⟨fun ⟨x,st',h,k⟩=>?_,fun k=>⟨_,_,rfl,k⟩⟩
 obtain ⟨rfl,rfl⟩:X.normal=x∧st=st':=by simpa [run,fr] using h
 exact k
theorem Us {i:Nat}:go n0 (.exit i) st K=K (.exit i) st:=by
 refine propext ⟨fun ⟨x,st',h,k⟩=>?_,fun k=>⟨_,_,rfl,k⟩⟩
 obtain ⟨rfl,rfl⟩:X.exit i=x∧st=st':=by simpa [run,fr] using h
 exact k
theorem go_ret:go n0 .ret st K=K .ret st:=by
 refine propext ⟨fun ⟨x,st',h,k⟩=>?_,fun k=>⟨_,_,rfl,k⟩⟩
 obtain ⟨rfl,rfl⟩:X.ret=x∧st=st':=by simpa [run,fr] using h
 exact k
theorem V8 {ops:List SOper}:go n0 (.reg ops) st K=S6 (Pw ops st) K:=by
 unfold S6 Pw
 refine propext ⟨fun ⟨x,st',h,k⟩=>?_,fun k=>?_⟩
 ·simp only [run,fr] at h
  split at h
  ·rename_i s hs
   simp only [zG,zP] at h
   obtain ⟨rfl,rfl⟩:=h
   first | exact k | (simp only [hs]; exact k)
  ·cases h
 ·split at k
  ·rename_i s hs
   exact ⟨.normal,s,by simp only [run,fr,hs],k⟩
  ·exact k.elim
theorem Ut {anc:List (List Nat)} {ops:List SOper}:go n0 (.dreg anc ops) st K=Mv anc (Jd ops [] st) K:=by
 unfold Mv Jd
 refine propext ⟨fun ⟨x,st',h,k⟩=>?_,fun k=>?_⟩
 ·simp only [run,fr] at h
  split at h
  ·rename_i es s hs
   obtain ⟨h1,h2⟩:=Al h
   simp only [zG,zP] at h2
   obtain ⟨rfl,rfl⟩:=h2
   first | exact ⟨h1,k⟩ | (simp only [hs]; exact ⟨h1,k⟩)
  ·cases h
 ·split at k
  ·rename_i es s hs
   exact ⟨.normal,s,by simp only [run,fr,hs,k.1,cond_true],k.2⟩
  ·exact k.elim
theorem V9 {a b:SC}:go n0 (.seq a b) st K=go n0 a st (Ur n0 b K):=by
 refine propext ⟨fun ⟨x,st',h,k⟩=>?_,fun ⟨x,st',h,k⟩=>?_⟩
 ·simp only [run,fr,C5] at h
  split at h
  ·rename_i s hs
   exact ⟨.normal,s,hs,x,st',h,k⟩
  ·rename_i i s hs
   simp only [zG,zP] at h
   obtain ⟨rfl,rfl⟩:=h
   exact ⟨_,_,hs,k⟩
  ·rename_i s hs
   simp only [zG,zP] at h
   obtain ⟨rfl,rfl⟩:=h
   exact ⟨_,_,hs,k⟩
  ·cases h
 ·simp only [run] at h
  cases x with
  | normal =>
   obtain ⟨x2,st2,h2,k2⟩:=k
   exact ⟨x2,st2,by simp only [run,fr,C5,h]; exact h2,k2⟩
  | exit i=>exact ⟨_,st',by simp only [run,fr,C5,h],k⟩
  | ret=>exact ⟨_,st',by simp only [run,fr,C5,h],k⟩
theorem S7 {n:Nat} {b:SC}:go n0 (.ghost n b) st K=go n0 b (NY n st) K:=by simp only [go,run,fr]
theorem S8 {id:Nat} {b:SC}:go n0 (.block id b) st K=go n0 b st (blk id K):=by
 refine propext ⟨fun ⟨x,st',h,k⟩=>?_,fun ⟨x,st',h,k⟩=>?_⟩
 ·simp only [run,fr,Gl] at h
  split at h
  ·rename_i s hs
   simp only [zG,zP] at h
   obtain ⟨rfl,rfl⟩:=h
   exact ⟨.normal,s,hs,k⟩
  ·rename_i i s hs
   refine ⟨.exit i,s,hs,?_⟩
   simp only [blk]
   by_cases hi:i=id
   ·simp only [if_pos hi,zG,zP] at h ⊢
    obtain ⟨rfl,rfl⟩:=h
    exact k
   ·simp only [if_neg hi,zG,zP] at h ⊢
    obtain ⟨rfl,rfl⟩:=h
    exact k
  ·rename_i s hs
   simp only [zG,zP] at h
   obtain ⟨rfl,rfl⟩:=h
   exact ⟨_,s,hs,k⟩
  ·cases h
 ·simp only [run] at h
  cases x with
  | normal=>exact ⟨_,st',by simp only [run,fr,Gl,h],k⟩
  | exit i =>
   simp only [blk] at k
   by_cases hi:i=id
   ·simp only [if_pos hi] at k
    exact ⟨.normal,st',by simp only [run,fr,Gl,h,if_pos hi],k⟩
   ·simp only [if_neg hi] at k
    exact ⟨.exit i,st',by simp only [run,fr,Gl,h,if_neg hi],k⟩
  | ret=>exact ⟨_,st',by simp only [run,fr,Gl,h],k⟩
theorem Aa {q:SX} {a b:SC}:go n0 (.cond q a b) st K=KX (As (gets st.sl) q) (fun _=>go n0 a st K) (fun _=>go n0 b st K):=by
 unfold KX
 refine propext ⟨fun ⟨x,st',h,k⟩=>?_,fun k=>?_⟩
 ·simp only [run,fr] at h
  split at h
  ·rename_i t ht
   simp only [ht]
   cases t with
   | true=>exact ⟨x,st',h,k⟩
   | false=>exact ⟨x,st',h,k⟩
  ·cases h
 ·split at k
  ·rename_i ht
   obtain ⟨x,st',h,k⟩:=k
   exact ⟨x,st',by simp only [run,fr,ht,cond_true]; exact h,k⟩
  ·rename_i ht
   obtain ⟨x,st',h,k⟩:=k
   exact ⟨x,st',by simp only [run,fr,ht,cond_false]; exact h,k⟩
  ·exact k.elim
theorem Uu {a b:Unit→Prop}:KX (.bool true) a b=a ():=rfl
theorem Uv {a b:Unit→Prop}:KX (.bool false) a b=b ():=rfl
theorem Uw {t:Bool} {a b:Unit→Prop}:KX (.bool (!t)) a b=KX (.bool t) b a:=by cases t <;> rfl
theorem Ok {t:Bool} {a b:Unit→Prop} (h1:t=true→a ()) (h2:t=false→b ()):KX (.bool t) a b:=by
 cases t with
 | true=>exact h1 rfl
 | false=>exact h2 rfl
theorem VA {b:SC}:Ur n0 b K .normal st=go n0 b st K:=rfl
theorem VB {b:SC} {i:Nat}:Ur n0 b K (.exit i) st=K (.exit i) st:=rfl
theorem VC {b:SC}:Ur n0 b K .ret st=K .ret st:=rfl
theorem BX {id:Nat}:blk id K .normal st=K .normal st:=rfl
theorem DM {id i:Nat}:blk id K (.exit i) st=if i=id then K .normal st else K (.exit i) st:=rfl
theorem Vb {id:Nat}:blk id K .ret st=K .ret st:=rfl
theorem Ux:S6 (some st) K=K .normal st:=rfl
def quiet:List Ent→Bool
 | []=>true
 | ⟨_,_,[],_⟩ :: r=>quiet r
 | ⟨_,_,_ :: _,_⟩ :: _=>false
theorem KY {anc:List (List Nat)} {rd:List Nat} {j:Nat}:∀ {l:List Ent} {i:Nat},quiet l=true→ON anc rd [] j (Hy l) i=true
 | [],i,_=>rfl
 | ⟨_,_,[],rdi⟩ :: r,i,h=>by
  have:=KY (anc:=anc) (rd:=rd) (j:=j) (l:=r) (i:=i+1) h
  simp only [Hy,zB,zL] at this ⊢
  simp only [ON,this,zT]
  have e1:meets [] (rd++[])=false:=rfl
  have e2:meets rdi []=false:=by cases rdi <;> simp [meets]
  rw [e1,e2]; rfl
theorem Rb {l l':List Ent} (h:quiet l=true) (h':quiet l'=true):quiet (l++l')=true:=by
 induction l with
 | nil=>exact h'
 | cons x r ih =>
  obtain ⟨a,b,c,d⟩:=x
  cases c with
  | nil=>exact ih h
  | cons _ _=>cases h
theorem Mw {anc:List (List Nat)}:∀ {l pre:List Ent} {j:Nat},quiet pre=true→quiet l=true→obB anc (Hy pre) (Hy l) j=true
 | [],pre,j,_,_=>rfl
 | ⟨a,b,[],rd⟩ :: r,pre,j,hp,h=>by
  have e:=Mw (anc:=anc) (l:=r) (pre:=pre++[⟨a,b,[],rd⟩]) (j:=j+1) (Rb hp rfl) h
  have e2:=KY (anc:=anc) (rd:=rd) (j:=j) (i:=0) hp
  simp only [Hy,z2,zB,zL] at e e2 ⊢
  simp only [obB,e2,e,zI]
theorem Uy {anc:List (List Nat)} {es:List Ent}:Mv anc (some (es,st)) K=match quiet es with
  | true=>K .normal st
  | false=>obB anc [] (Hy es) 0=true∧K .normal st:=by
 show (obB anc [] (Hy es) 0=true∧K .normal st)=_
 cases h:quiet es with
 | true=>exact propext ⟨fun h=>h.2,fun h'=>⟨Mw (pre:=[]) rfl h,h'⟩⟩
 | false=>rfl
noncomputable def VD (r:List SOper) (e:Option (Ent × St)):Option St :=
 match e with
 | some (_,st)=>Pw r st
 | none=>none
noncomputable def VE (r:List SOper) (acc:List Ent) (e:Option (Ent × St)):Option (List Ent × St) :=
 match e with
 | some (x,st)=>Jd r (acc++[x]) st
 | none=>none
noncomputable def opF (so:SOp) (sl:List SV) (ob:List Ob):Option R3:=fOp Try.prog calls so sl ob
theorem S9:Pw [] st=some st:=rfl
theorem Rc {d:Option Tmp} {so:SOp} {r:List SOper} {sl:List SV} {ob:List Ob}:Pw (⟨d,none,so⟩ :: r) ⟨sl,ob⟩=VD r (Gi d ⟨sl,ob⟩ (opF so sl ob)):=rfl
noncomputable def gdF (d:Option Tmp) (so:SOp) (want:Bool) (sl:List SV) (ob:List Ob) (v:SV):Option (Ent × St) :=
 match v with
 | .bool b=>bif OZ b want then Gi d ⟨sl,ob⟩ (opF so sl ob) else some (⟨false,.tup [],[],[]⟩,⟨EK sl d (.tup []),ob⟩)
 | .tup []=>some (⟨false,.tup [],[],[]⟩,⟨EK sl d (.tup []),ob⟩)
 | _=>none
theorem Uz {d:Option Tmp} {k:Nat} {want:Bool} {so:SOp} {r:List SOper} {sl:List SV} {ob:List Ob}:Pw (⟨d,some (k,want),so⟩ :: r) ⟨sl,ob⟩=VD r (gdF d so want sl ob (gets sl k)):=rfl
theorem SA {acc:List Ent}:Jd [] acc st=some (acc,st):=rfl
theorem Rd {d:Option Tmp} {so:SOp} {r:List SOper} {acc:List Ent} {sl:List SV} {ob:List Ob}:Jd (⟨d,none,so⟩ :: r) acc ⟨sl,ob⟩=VE r acc (Gi d ⟨sl,ob⟩ (opF so sl ob)):=rfl
theorem U0 {d:Option Tmp} {k:Nat} {want:Bool} {so:SOp} {r:List SOper} {acc:List Ent} {sl:List SV} {ob:List Ob}:Jd (⟨d,some (k,want),so⟩ :: r) acc ⟨sl,ob⟩=VE r acc (gdF d so want sl ob (gets sl k)):=rfl
theorem VF {r:List SOper} {e:Ent}:VD r (some (e,st))=Pw r st:=rfl
theorem VG {r:List SOper} {acc:List Ent} {e:Ent}:VE r acc (some (e,st))=Jd r (acc++[e]) st:=rfl
theorem WB {d:Option Tmp} {so:SOp} {sl:List SV} {ob:List Ob}:gdF d so true sl ob (.bool true)=Gi d ⟨sl,ob⟩ (opF so sl ob):=rfl
theorem VH {d:Option Tmp} {so:SOp} {sl:List SV} {ob:List Ob}:gdF d so false sl ob (.bool false)=Gi d ⟨sl,ob⟩ (opF so sl ob):=rfl
theorem VI {d:Option Tmp} {so:SOp} {sl:List SV} {ob:List Ob}:gdF d so true sl ob (.bool false)=some (⟨false,.tup [],[],[]⟩,⟨EK sl d (.tup []),ob⟩):=rfl
theorem VJ {d:Option Tmp} {so:SOp} {sl:List SV} {ob:List Ob}:gdF d so false sl ob (.bool true)=some (⟨false,.tup [],[],[]⟩,⟨EK sl d (.tup []),ob⟩):=rfl
theorem WC {d:Option Tmp} {so:SOp} {want:Bool} {sl:List SV} {ob:List Ob}:gdF d so want sl ob (.tup [])=some (⟨false,.tup [],[],[]⟩,⟨EK sl d (.tup []),ob⟩):=rfl
theorem VK {d:Option Tmp} {x:SV} {rd:List Nat}:Gi d st (some (x,[],rd))=some (⟨true,x,[],rd⟩,⟨EK st.sl d x,st.ob⟩):=rfl
theorem VL {d:Option Tmp} {x:SV} {q:Nat × Ob} {u:List (Nat × Ob)} {rd:List Nat}:Gi d st (some (x,q :: u,rd))=bif QI (CU st.ob (q :: u)).length (q :: u) then some (⟨true,x,q :: u,rd⟩,⟨EK st.sl d x,CU st.ob (q :: u)⟩) else none:=rfl
def Ol (ob:List Ob) (xs:List SV) (sel:List Nat) (r:Option (SV × List Ob)) (n:Nat):Option R3 :=
 match r with
 | some (r,fob')=>bif decide (n≤fob'.length) then some (Ft sel (Bs sel xs) ob.length r fob') else none
 | none=>none
def VM (hd:List Bool) (f:FuncId) (xs:List SV) (ob:List Ob) (sel:List Nat) (e:List SV→List Ob→Option (SV × List Ob)) (b:Option (List Ob)):Option R3 :=
 match b with
 | some fob=>bif F8 sel&&HR ob.length sel&&Gj fob.length fob then Ol ob xs sel (e (Fs hd (Ad ob) sel xs) fob) fob.length else none
 | none=>none
def SB (hd:List Bool) (f:FuncId) (xs:List SV) (ob:List Ob) (sel:List Nat) (e:List SV→List Ob→Option (SV × List Ob)):Option R3:=VM hd f xs ob sel e (E7 sel ob sel)
theorem SD {f:FuncId} {xs:List SV} {ob:List Ob}:calls f xs ob=EO (modes f).res (SB (modes f).hand f xs ob (reach ob 64 (FW (modes f).hand xs) []) (E f)):=rfl
theorem VO {r:Option R3}:EO .asis r=r:=rfl
theorem VP {r:Option R3}:EO .frz r=r:=rfl
theorem VQ {l:List (Option (Nat × Nat))} {r:Option R3}:EO (.own l) r=r:=rfl
theorem VR {l:List (Option (Nat × Nat))} {r:Option R3}:EO (.half l) r=r:=rfl
theorem VS {l:List (Option (Nat × Nat))} {r:Option R3}:EO (.tr l) r=r:=rfl
theorem VT {d n:Nat} {r:Option R3}:EO (.frzg d n) r=r:=rfl
theorem VU {d n:Nat} {l:List (Option (Nat × Nat))} {r:Option R3}:EO (.halfg d n l) r=r:=rfl
theorem VV {l:List Nat} {r:Option R3}:EO (.frl l) r=r:=rfl
theorem VW {r:R3}:EO .late (some r)=NT r:=rfl
theorem HW:∀ u:List (Nat × Ob),Do [] u=u
 | []=>rfl
 | (g,o) :: u=>by rw [Do,HW u]; rfl
theorem VX {m:RM} {b:Bool} {u:List (Nat × Ob)} {rd:List Nat}:EO m (some (.bool b,u,rd))=some (.bool b,u,rd):=by
 cases m <;> first | rfl | (show some (SV.bool b,Do [] u,rd)=_; rw [HW])
theorem VY {m:RM} {k:IntKind} {n:Int} {u:List (Nat × Ob)} {rd:List Nat}:EO m (some (.int k n,u,rd))=some (.int k n,u,rd):=by
 cases m <;> first | rfl | (show some (SV.int k n,Do [] u,rd)=_; rw [HW])
theorem Re {hd:List Bool} {f:FuncId} {xs:List SV} {ob:List Ob} {e:List SV→List Ob→Option (SV × List Ob)}:SB hd f xs ob [] e=Ol ob xs [] (e (Fs hd (Ad ob) [] xs) []) 0:=rfl
theorem Px {hd:List Bool} {f:FuncId} {xs:List SV} {ob:List Ob} {g:Nat} {r:List Nat} {e:List SV→List Ob→Option (SV × List Ob)}:SB hd f xs ob (g :: r) e=VM hd f xs ob (g :: r) e (E7 (g :: r) ob (g :: r)):=rfl
theorem U1 {ob:List Ob} {xs:List SV} {r:SV} {fob':List Ob}:Ol ob xs [] (some (r,fob')) 0=some (Ft [] (Bs [] xs) ob.length r fob'):=rfl
theorem U2 {ob:List Ob} {xs:List SV} {sel:List Nat} {r:SV} {fob':List Ob} {n:Nat}:Ol ob xs sel (some (r,fob')) n=bif decide (n≤fob'.length) then some (Ft sel (Bs sel xs) ob.length r fob') else none:=rfl
theorem VZ {hd:List Bool} {f:FuncId} {xs:List SV} {ob:List Ob} {sel:List Nat} {fob:List Ob} {e:List SV→List Ob→Option (SV × List Ob)}:VM hd f xs ob sel e (some fob)=bif F8 sel&&HR ob.length sel&&Gj fob.length fob then Ol ob xs sel (e (Fs hd (Ad ob) sel xs) fob) fob.length else none:=rfl
theorem Rf {p:Nat} {r:SV}:Ft [] [] p r []=(r.ren (sgp [] p),[],[]):=rfl
def Nh {α:Type} (n0:Nat) (keep:List Nat) (H:α→St) (R:α→Prop) (μ:α→Nat) (a:α) (K:X→St→Prop):X→St→Prop
 | .normal,st'=>∃ y,R y∧μ y < μ a∧canon n0 keep st'=H y
 | .exit i,st'=>K (.exit i) st'
 | .ret,st'=>K .ret st'
theorem SE {α:Type} {keep:List Nat} {H:α→St} {R:α→Prop} {μ:α→Nat} {a:α} {st':St}:Nh n0 keep H R μ a K .normal st'=∃ y,R y∧μ y < μ a∧canon n0 keep st'=H y:=rfl
theorem SF {α:Type} {keep:List Nat} {H:α→St} {R:α→Prop} {μ:α→Nat} {a:α} {i:Nat} {st':St}:Nh n0 keep H R μ a K (.exit i) st'=K (.exit i) st':=rfl
theorem SG {α:Type} {keep:List Nat} {H:α→St} {R:α→Prop} {μ:α→Nat} {a:α} {st':St}:Nh n0 keep H R μ a K .ret st'=K .ret st':=rfl
theorem go_loop {α:Type} {keep:List Nat} {b:SC} (H:α→St) (R:α→Prop) (μ:α→Nat) (a0:α) (hR:R a0) (h0:canon n0 keep st=H a0) (round:∀ a,R a→go n0 b (H a) (Nh n0 keep H R μ a K)):go n0 (.loop keep b) st K:=by
 have key:∀ (n:Nat) (a:α) (st:St),μ a≤n→R a→canon n0 keep st=H a→∃ x st',Mq n0 keep (run n0 b) st=some (x,st')∧K x st':=by
  intro n
  induction n with
  | zero =>
   intro a st hn hR hc
   obtain ⟨x,st',h,k⟩:=round a hR
   cases x with
   | normal =>
    obtain ⟨y,_,h2,_⟩:=k
    omega
   | exit i=>exact ⟨_,st',by rw [GM,hc,h]; rfl,k⟩
   | ret=>exact ⟨_,st',by rw [GM,hc,h]; rfl,k⟩
  | succ n ih =>
   intro a st hn hR hc
   obtain ⟨x,st',h,k⟩:=round a hR
   cases x with
   | normal =>
    obtain ⟨y,h1,h2,h3⟩:=k
    obtain ⟨x2,st2,h4,k2⟩:=ih y st' (by omega) h1 h3
    exact ⟨x2,st2,by rw [GM,hc,h]; exact h4,k2⟩
   | exit i=>exact ⟨_,st',by rw [GM,hc,h]; rfl,k⟩
   | ret=>exact ⟨_,st',by rw [GM,hc,h]; rfl,k⟩
 exact key (μ a0) a0 st (z1 _) hR h0
def Ni (n0:Nat) (keep keepO:List Nat) (H:EL→St) (F:X × St) (p:EL):X→St→Prop
 | .normal,st'=>canon n0 keep st'=H p
 | .exit i,st'=>F=(.exit i,canon n0 keepO st')
 | .ret,st'=>F=(.ret,canon n0 keepO st')
def Vd (n0:Nat) (keepO:List Nat) (F:X × St):X→St→Prop
 | .normal,_=>False
 | .exit i,st'=>F=(.exit i,canon n0 keepO st')
 | .ret,st'=>F=(.ret,canon n0 keepO st')
theorem Rg {keep keepO:List Nat} {H:EL→St} {F:X × St} {p:EL} {st':St}:Ni n0 keep keepO H F p .normal st'=(canon n0 keep st'=H p):=rfl
theorem Rh {keep keepO:List Nat} {H:EL→St} {F:X × St} {p:EL} {i:Nat} {st':St}:Ni n0 keep keepO H F p (.exit i) st'=(F=(.exit i,canon n0 keepO st')):=rfl
theorem Ri {keep keepO:List Nat} {H:EL→St} {F:X × St} {p:EL} {st':St}:Ni n0 keep keepO H F p .ret st'=(F=(.ret,canon n0 keepO st')):=rfl
theorem U3 {keepO:List Nat} {F:X × St} {i:Nat} {st':St}:Vd n0 keepO F (.exit i) st'=(F=(.exit i,canon n0 keepO st')):=rfl
theorem U4 {keepO:List Nat} {F:X × St} {st':St}:Vd n0 keepO F .ret st'=(F=(.ret,canon n0 keepO st')):=rfl
end
def slots:Nat→Nat→List (Nat × SV)→List SV
 | 0,_,_=>[]
 | n+1,k,[]=>.any :: slots n (k+1) []
 | n+1,k,(j,x) :: r=>bif j == k then x :: slots n (k+1) r else .any :: slots n (k+1) ((j,x) :: r)
def SH (res:RM) (n0:Nat) (rs:List RX) (out:SV × List Ob) (x:X) (st:St):Prop:=fin res n0 rs x st=some out
def Wa (res:RM) (n0:Nat) (r:Option (SV × List Ob)):Option (SV × List Ob) :=
 match r with
 | some (r,ob)=>order res n0 r ob
 | none=>none
def Om (res:RM) (n0:Nat) (ob:List Ob) (r:Option SV):Option (SV × List Ob) :=
 match r with
 | some r0=>Wa res n0 (gc n0 r0 ob)
 | none=>none
theorem Nj {res:RM} {n0:Nat} {rs:List RX} {out:SV × List Ob} {sl:List SV} {ob:List Ob}:SH res n0 rs out .ret ⟨sl,ob⟩=(Om res n0 ob (HP ⟨sl,ob⟩ rs)=some out):=rfl
theorem Nk {res:RM} {n0:Nat} {rs:List RX} {out:SV × List Ob} {sl:List SV} {ob:List Ob}:SH res n0 rs out .normal ⟨sl,ob⟩=(Om res n0 ob (HP ⟨sl,ob⟩ rs)=some out):=rfl
theorem U5 {res:RM} {n0:Nat} {ob:List Ob} {r:SV}:Om res n0 ob (some r)=Wa res n0 (gc n0 r ob):=rfl
theorem Wb {n0:Nat} {r:SV} {ob:List Ob} {res:RM}:Wa res n0 (some (r,ob))=order res n0 r ob:=rfl
theorem Af {f:FuncId} {fc:FC} {hand:List Bool} {res:RM} {tr:Bool} {xs:List SV} {ob:List Ob} {out:SV × List Ob} (hc:Ar Try.prog f=some fc) (hr:modes f=⟨hand,res,none,tr⟩) (hn:xs.length≤fc.nt) (h:go ob.length (E2 res fc.sc) ⟨xs++FT (fc.nt-xs.length),entry tr ob⟩ (SH res ob.length fc.rs out)):E f xs ob=some out:=by
 obtain ⟨x,st',h1,h2⟩:=h
 unfold E
 rw [UX]
 unfold Fu
 rw [hc,hr]
 simp only
 rw [decide_eq_true hn,cond_true]
 have h1:fr Try.prog (CB modes (ev Try.prog modes)) (HT ob.length) (E2 res fc.sc) ⟨xs++FT (fc.nt-xs.length),entry tr ob⟩=some (x,st'):=h1
 rw [h1]
 exact h2
theorem KZ {f:FuncId} {g:List SV→List Ob→Option (SV × List Ob)} {xs:List SV} {ob:List Ob} (hg:(modes f).ext=some g):E f xs ob=g xs ob:=by
 unfold E
 rw [UX]
 unfold Fu
 rw [hg]
theorem Qg {f:FuncId} {g:List SV→Option SV} {xs:List SV} {r:SV} (hg:(modes f).ext=some (JM g)) (h:g xs=some r):E f xs []=some (r,[]):=by
 rw [KZ hg]
 simp only [JM,h]
theorem Bm:modes 27=⟨[],.asis,some (JM S2),false⟩:=by unfold modes; rfl
theorem Di (s:ByteArray):E 27 [.str s] []=some (.bool (Bh s),[]):=Qg (g:=S2) (congrArg FM.ext Bm) rfl
theorem Ap:modes 34=⟨[],.asis,some (JM S3),false⟩:=by unfold modes; rfl
theorem Bt (s:ByteArray):E 34 [.str s] []=some (.bool (Bh s),[]):=Qg (g:=S3) (congrArg FM.ext Ap) rfl
theorem Bw:modes 61=⟨[],.asis,some (JM S4),false⟩:=by unfold modes; rfl
theorem La (s:ByteArray):E 61 [.str s] []=some (.bool (Ep s),[]):=Qg (g:=S4) (congrArg FM.ext Bw) rfl
theorem Bx:modes 58=⟨[],.asis,some (JM S5),false⟩:=by unfold modes; rfl
theorem Lb (s:ByteArray):E 58 [.str s] []=some (.bool (Ep s),[]):=Qg (g:=S5) (congrArg FM.ext Bx) rfl
theorem Gr {n:Int} (h1:-9223372036854775808≤n) (h2:n≤9223372036854775807):dec (inK .i64 n)=true:=AV (TQ.2 ⟨h1,h2⟩)
theorem get_at {α β:Type} (f:α→β) {xs:List α} {k:Nat} (h:k<xs.length):(xs.map f)[k]?=some (f xs[k]):=by rw [List.getElem?_map,zM h]; rfl
theorem WD:dec True=true:=AV trivial
theorem WE:dec False=false:=Bg fun h=>h
attribute [go_sem] Ue Ud VU VT S7 NY SC.Dh Sr pfx DK H4 OT.BB OT.G2 OT.half VR Ub Fs NM SV.isNil Ob.idsB SV.idsB SV.J0 List.getElem?_cons_zero List.getElem?_cons_succ OT.Aq OT.Ck OT.full entry toTree Qb NX Qa BW FV DO Sf LT Sn OT.erss OT.ers OT.er OT.BN OT.E1 OT.noSh quiet obB ON Hy meets G6 go_skip Us go_ret V8 Ut V9 S8 Uu Uv Uw VA VB VC BX DM Vb Ux Uy S9 Rc Uz SA Rd U0 VF VG WB VH VI VJ WC VK VL SD VO VP VQ VS VV VW VX VY NT NS Do seen Re Px U1 U2 VZ Rf Ft SE SF SG Nj Nk U5 Wb order opF fOp En PW TR PU PV Se GE eqK As gets Ad LB EK CU In Kz AE QI SV.cellsN SV.one H1 splice Dq NA H0 Il Dg BA B7 B3 FK G0 OP eOp.mkEs eOp.addS D.sv OT.sv D.ot F7 F8 reach SV.refs SV.Md SV.ptrs SV.Me Ob.refs Ob.liveB FW E7 SV.back SV.J2 Ob.back FR G1 Cp Bs Bl HR Gj SV.ren SV.Ir Ob.ren mkU sgp gc J6 names PY Iu TU TV TW KI So TX TY TZ Ua Uc Uf SC.mark Mj EP slots HP OX rxV FT NR SV.noSh SV.Jx Ob.noSh SV.own SV.MX Ey cond_true cond_false z7 yA zB zL List.drop_succ_cons zY List.drop_nil List.take_succ_cons yV List.take_nil List.append_nil yU z8 List.all_cons List.all_nil List.getD_cons_zero List.getD_cons_succ yW List.any_nil List.contains_cons List.contains_nil List.isEmpty_nil List.isEmpty_cons List.flatten_cons List.flatten_nil List.replicate_succ List.replicate_zero yC yD Nat.add_zero Nat.zero_add z1 zN zT yX zI Bool.or_false yL Bool.true_or Bool.or_true Bool.not_true Bool.not_false yP zU decide_true decide_false beq_self_eq_true if_true if_false Option.map_some Option.map_none zG yS yT yG true_and and_true and_self eq_self_iff_true zX Bool.false_eq_true Bool.true_eq_false zP SV.int.injEq SV.bool.injEq SV.str.injEq SV.agg.injEq SV.tup.injEq SV.arr.injEq zR St.mk.injEq Int.zero_add WD WE Gr AV Bg W4 svK svD RH svM MV.sv PI Sg NO Sh Ew St.app MY MK.sv Rg Rh Ri U3 U4
attribute [go_sem_proc] Nat.reduceAdd Nat.reduceSub Nat.reduceLT Nat.reduceLeDiff Nat.reduceEqDiff Nat.reduceBEq Nat.reduceBneDiff Nat.reduceMul Int.reduceToNat Int.reduceNeg Int.reduceAdd reduceCtorEq
attribute [go_sem_proc ↓] reduceIte
theorem Qh:∀ xs:List ByteArray,OT.Aq (xs.map fun s=>[OT.str s])=true
 | []=>rfl
 | x :: xs=>by simp only [zB,OT.Aq,OT.Ck,OT.full,Qh xs,zI]
theorem Qi:∀ xs:List Int,OT.Aq (xs.map fun n=>[OT.int n])=true
 | []=>rfl
 | x :: xs=>by simp only [zB,OT.Aq,OT.Ck,OT.full,Qi xs,zI]
theorem Tm.SI:∀ xs:List Tm,(∀ x∈xs,OT.Ck (Tm.o x)=true)→OT.Aq (xs.map Tm.o)=true
 | [],_=>rfl
 | x :: xs,h=>by
  simp only [zB,OT.Aq]
  rw [h x (by simp),Tm.SI xs fun y hy=>h y (by simp [hy])]; rfl
theorem Tm.fu (x:Tm):OT.Ck (Tm.o x)=true:=by
 have h:=Tm.SI x.args fun y hy=>Tm.fu y
 rw [Tm.Hz]
 simp only [OT.Ck,OT.full,h,zI,zT]
termination_by SizeOf.sizeOf x
decreasing_by exact Tm.A8 hy
theorem Tm.fus (xs:List Tm):OT.Aq (xs.map Tm.o)=true:=Tm.SI xs fun x _=>Tm.fu x
theorem Bd.fu (x:Bd):OT.Ck (Bd.o x)=true:=by
 simp only [Bd.o,OT.Ck,OT.full,Tm.fus,zI,zT]
theorem Bd.fus:∀ xs:List Bd,OT.Aq (xs.map Bd.o)=true
 | []=>rfl
 | x :: xs=>by simp only [zB,OT.Aq,Bd.fu,Bd.fus xs,zI]
theorem Sb.fu (x:Sb):OT.Ck (Sb.o x)=true:=by
 simp only [Sb.o,OT.Ck,OT.full,Bd.fus,zI,zT]
theorem Sb.fus:∀ xs:List Sb,OT.Aq (xs.map Sb.o)=true
 | []=>rfl
 | x :: xs=>by simp only [zB,OT.Aq,Sb.fu,Sb.fus xs,zI]
attribute [go_sem] Qh Qi Uh Ui Uj Uk Tm.fus Tm.erss Tm.noss Bd.fus Bd.erss Bd.noss Sb.fus Sb.erss Sb.noss
theorem Lc {α:Type} (a:α):dec (a=a)=true:=AV rfl
def EV {α β:Type} (f:α→β) (z:β) (xs:List α) (k:Nat):List β:=(xs.take k).map f++zE (xs.length-k) z
section
variable {α β:Type} (f:α→β) (z:β) {xs:List α} {k:Nat}
theorem Ld:EV f z xs 0=zE xs.length z:=by simp [EV]
theorem My:(EV f z xs k).length=xs.length:=by simp [EV]; omega
theorem Mz:EV f z xs xs.length=xs.map f:=by simp [EV]
theorem M0 (h:k<xs.length):(EV f z xs k)[k]?=some z:=by
 have hl:((xs.take k).map f).length=k:=by simp; omega
 unfold EV
 rw [List.getElem?_append_right (by omega),hl,Nat.sub_self,List.getElem?_replicate]
 simp; omega
theorem M1 (h:k<xs.length):(EV f z xs k).set k (f xs[k])=EV f z xs (k+1):=by
 have hl:((xs.take k).map f).length=k:=by simp; omega
 have e:List.take (k+1) xs=List.take k xs++[xs[k]]:=yH h
 unfold EV
 rw [List.set_append_right _ _ (by omega),hl,Nat.sub_self,e,z2,List.append_assoc]
 congr 1
 rw [show xs.length-k=(xs.length-(k+1))+1 by omega,List.replicate_succ,yC]
 rfl
end
theorem U6 (a b:Int):(bif dec (a<b) then b else a)=max a b:=by
 by_cases h:a<b
 ·rw [AV h,cond_true,Int.max_eq_right (by omega)]
 ·rw [Bg h,cond_false,Int.max_eq_left (by omega)]
def Fl {α:Type} (p:α→Bool):List α→Int→Int
 | [],_=>-1
 | x :: xs,i=>if p x then i else Fl p xs (i+1)
theorem On {α:Type} (p:α→Bool):∀ (xs:List α),dec (0≤Fl p xs 0)=xs.any p:=by
 have key:∀ (xs:List α) (i:Int),0≤i→(0≤Fl p xs i ↔ xs.any p=true):=by
  intro xs
  induction xs with
  | nil=>intro i h; simp [Fl]
  | cons x xs ih =>
   intro i h
   simp only [Fl,yW,yM]
   by_cases hp:p x=true
   ·simp [hp,h]
   ·rw [if_neg hp,ih (i+1) (by omega)]; simp [hp]
 intro xs
 cases h:xs.any p with
 | true=>exact AV ((key xs 0 (by omega)).2 h)
 | false=>exact Bg fun h'=>by rw [(key xs 0 (by omega)).1 h'] at h; cases h
theorem Ez {p q:Prop} (h:p ↔ q):dec p=dec q:=by rw [propext h]
theorem Tm.Aj (x:Tm):x.nodes=1+Tm.AK x.args:=by
 obtain ⟨name,args⟩:=x
 rw [Tm.nodes]; rfl
theorem Tm.M2 (x:Tm):1≤x.nodes:=by rw [Tm.Aj]; omega
theorem Tm.FY:∀ (xs:List Tm) (k:Nat) (h:k<xs.length),xs[k].nodes≤Tm.AK xs
 | [],k,h=>absurd h (by simp)
 | x :: xs,0,_=>by rw [Tm.AK]; simp
 | x :: xs,k+1,h=>by
  have:=Tm.FY xs k (by simpa using h)
  rw [Tm.AK]; simp only [yF]; omega
theorem Tm.Nl (x:Tm):x.deep=Tm.Fv x.args+1:=by
 obtain ⟨name,args⟩:=x
 rw [Tm.deep]; rfl
theorem Tm.GP:∀ xs:List Tm,(∀ y∈xs,y.deep≤y.nodes)→Tm.Fv xs≤Tm.AK xs
 | [],_=>by simp [Tm.Fv]
 | x :: xs,h=>by
  have h1:=h x (by simp)
  have h2:=Tm.GP xs fun y hy=>h y (by simp [hy])
  rw [Tm.Fv,Tm.AK]; omega
theorem Tm.F9 (x:Tm):x.deep≤x.nodes:=by
 rw [Tm.Nl,Tm.Aj]
 have:=Tm.GP x.args fun y hy=>Tm.F9 y
 omega
termination_by SizeOf.sizeOf x
decreasing_by exact Tm.A8 hy
theorem Tm.EW (x:Tm):x.names=if Bh x.name then x.args.length == 0 else Ep x.name&&decide (x.args.length≤4)&&Tm.Dm x.args:=by
 obtain ⟨name,args⟩:=x
 rw [Tm.names]; rfl
theorem Tm.DX:∀ xs:List Tm,Tm.Dm xs=xs.all Tm.names
 | []=>rfl
 | x :: xs=>by rw [Tm.Dm,Tm.DX xs]; rfl
theorem Tm.length_le:∀ xs:List Tm,xs.length≤Tm.AK xs
 | []=>z1 _
 | x :: xs=>by
  have:=Tm.length_le xs
  have:=Tm.M2 x
  rw [Tm.AK]; simp only [z7]; omega
theorem Tm.AU {xs:List Tm} {y:Tm} (h:y∈xs):y.nodes≤Tm.AK xs:=by
 obtain ⟨k,hk,rfl⟩:=List.getElem_of_mem h
 exact Tm.FY xs k hk
theorem M3 {xs:List Tm} (h:xs.length=2):Tm.Dm xs=((xs[0]'(by omega)).names&&(xs[1]'(by omega)).names):=by
 match xs,h with
 | [a,b],_=>simp [Tm.Dm]
mutual
def Tm.cap:Tm→Int
 | .mk _ xs=>Tm.Je xs 1
def Tm.Je:List Tm→Int→Int
 | [],n=>n
 | x :: xs,n=>if 30 < n then n else Tm.Je xs (n+Tm.cap x)
end
theorem Tm.SJ (x:Tm):x.cap=Tm.Je x.args 1:=by
 obtain ⟨n,xs⟩:=x
 rw [Tm.cap]; rfl
theorem Tm.M4:∀ (xs:List Tm) (n:Int),(∀ x∈xs,1≤x.cap∧x.cap≤x.nodes∧(x.cap≤30→x.cap=x.nodes))→1≤n→n≤Tm.Je xs n∧Tm.Je xs n≤n+Tm.AK xs∧(Tm.Je xs n≤30→Tm.Je xs n=n+Tm.AK xs)
 | [],n,_,h=>by simp [Tm.Je,Tm.AK]
 | x :: xs,n,hx,h=>by
  rw [Tm.Je,Tm.AK]
  have h1:=hx x (by simp)
  split
  ·omega
  ·have:=Tm.M4 xs (n+x.cap) (fun y hy=>hx y (by simp [hy])) (by omega)
   omega
theorem Tm.Iy (x:Tm):1≤x.cap∧x.cap≤x.nodes∧(x.cap≤30→x.cap=x.nodes):=by
 rw [Tm.SJ,Tm.Aj]
 have:=Tm.M4 x.args 1 (fun y hy=>Tm.Iy y) (by omega)
 omega
termination_by SizeOf.sizeOf x
decreasing_by exact Tm.A8 hy
mutual
def Tm.many:Tm→Int→Int
 | .mk _ xs,m=>Tm.FZ xs m 1
def Tm.FZ:List Tm→Int→Int→Int
 | [],_,n=>n
 | x :: xs,m,n=>if n≤m then Tm.FZ xs m (n+Tm.many x (m-n)) else n
end
theorem Tm.Qj (x:Tm) (m:Int):x.many m=Tm.FZ x.args m 1:=by
 obtain ⟨n,xs⟩:=x
 rw [Tm.many]; rfl
theorem Tm.Le (m:Int):∀ (xs:List Tm) (n:Int),(∀ x∈xs,∀ m,0≤m→1≤x.many m∧x.many m≤x.nodes∧(x.many m≤m→x.many m=x.nodes))→1≤n→n≤Tm.FZ xs m n∧Tm.FZ xs m n≤n+Tm.AK xs∧(Tm.FZ xs m n≤m→Tm.FZ xs m n=n+Tm.AK xs)
 | [],n,_,h=>by simp [Tm.FZ,Tm.AK]
 | x :: xs,n,hx,h=>by
  rw [Tm.FZ,Tm.AK]
  split
  ·have h1:=hx x (by simp) (m-n) (by omega)
   have:=Tm.Le m xs (n+x.many (m-n)) (fun y hy=>hx y (by simp [hy])) (by omega)
   omega
  ·omega
theorem Tm.Hu (x:Tm) (m:Int):1≤x.many m∧x.many m≤x.nodes∧(x.many m≤m→x.many m=x.nodes):=by
 rw [Tm.Qj,Tm.Aj]
 have:=Tm.Le m x.args 1 (fun y hy m _=>Tm.Hu y m) (by omega)
 omega
termination_by SizeOf.sizeOf x
decreasing_by exact Tm.A8 hy
def DY:SC:=(.seq (.reg [⟨some 2,none,.mv (.c .nil)⟩]) (.seq (.seq (.reg [⟨some 6,none,.mv (.t 0)⟩,⟨some 7,none,.len false (.t 6)⟩,⟨some 8,none,.bin .eql false (.t 7) (.c (.int .i64 0))⟩]) (.cond (.t 8) (.seq (.reg [⟨some 2,none,.mv (.c .nil)⟩]) .ret) .skip)) (.seq (.reg [⟨some 9,none,.mv (.t 0)⟩,⟨some 10,none,.len false (.t 9)⟩,⟨(some 11),none,(.mkslice 26 2 40 [(.str ⟨#[]⟩),.nil] (.t 10))⟩,⟨some 3,none,.mv (.t 11)⟩]) (.seq (.seq (.reg [⟨some 12,none,.mv (.t 0)⟩,⟨some 13,none,.len false (.t 12)⟩,⟨some 14,none,.mv (.c (.int .i64 0))⟩]) (.block 0 (.loop [0,0,0,1,0,0,0,0,0,0,0,0,1,1,1,0,0,0,0,0,0,0,0,0,0,0] (.seq (.reg [⟨some 15,none,.bin .lss false (.t 14) (.t 13)⟩]) (.seq (.cond (.t 15) .skip (.exit 0)) (.seq (.block 1 (.seq (.reg [⟨some 16,none,.mv (.t 14)⟩,⟨some 17,none,.iaddr 2 (.t 12) (.t 14)⟩,⟨some 18,none,.load true 2 (.t 17)⟩,⟨(some 5),none,(.alloc 26 [(.str ⟨#[]⟩),.nil])⟩,⟨some 4,none,.mv (.t 16)⟩,⟨none,none,(.store 2 (.t 5) (.t 18))⟩]) (.reg [⟨some 19,none,.mv (.t 3)⟩,⟨some 20,none,.mv (.t 4)⟩,⟨some 21,none,.load true 2 (.t 5)⟩,⟨some 22,none,.call 64 [(.t 21)]⟩,⟨some 23,none,.iaddr 2 (.t 19) (.t 20)⟩,⟨none,none,(.store 2 (.t 23) (.t 22))⟩]))) (.reg [⟨some 24,none,.bin .add false (.t 14) (.c (.int .i64 1))⟩,⟨some 14,none,.mv (.t 24)⟩]))))))) (.seq (.reg [⟨some 25,none,.mv (.t 3)⟩,⟨some 2,none,.mv (.t 25)⟩]) .ret)))))
theorem Ga:Ar Try.prog 78=some ⟨26,DY,[(.tmp 2)]⟩:=by kernel_rfl
theorem DZ:modes 78=⟨[],.own [some (26,2)],none,false⟩:=by unfold modes; rfl
def G3:SC:=(.seq (.reg [⟨some 1,none,.boxv 26 2 (.t 0)⟩,⟨(some 2),none,(.alloc 26 [(.str ⟨#[]⟩),.nil])⟩]) (.seq (.dreg [[],[0],[],[2],[3,2],[1,0,4,3,2],[5,1,0,4,3,2]] [⟨some 3,none,.faddr 0 (.t 1)⟩,⟨some 4,none,.load false 1 (.t 3)⟩,⟨some 5,none,.faddr 1 (.t 1)⟩,⟨some 6,none,.load false 1 (.t 5)⟩,⟨some 7,none,.call 78 [(.t 6)]⟩,⟨(some 8),none,(.build [(.str ⟨#[]⟩),.nil] [(0,(1,(.t 4))),(1,(1,(.t 7)))])⟩,⟨none,none,(.store 2 (.t 2) (.t 8))⟩]) .ret))
theorem JO:Ar Try.prog 64=some ⟨9,G3,[(.cell 2 true 2)]⟩:=by kernel_rfl
theorem Ax:modes 64=⟨[],.asis,none,false⟩:=by unfold modes; rfl
def Iz:SC:=(.seq (.reg [⟨some 1,none,.boxv 26 2 (.t 0)⟩,⟨(some 2),none,(.alloc 26 [(.str ⟨#[]⟩),.nil])⟩]) (.seq (.reg [⟨some 5,none,.faddr 0 (.t 1)⟩,⟨some 6,none,.load false 1 (.t 5)⟩,⟨(some 7),none,(.build [(.str ⟨#[]⟩),.nil] [(0,(1,(.t 6)))])⟩,⟨(some 3),none,(.alloc 26 [(.str ⟨#[]⟩),.nil])⟩,⟨none,none,(.store 2 (.t 3) (.t 7))⟩]) (.seq (.seq (.reg [⟨some 4,none,.mv (.c (.int .i64 0))⟩]) (.block 0 (.loop [0,1,1,1,1,0,0,0,0,0,0,0,0,0,0,0,0,0,0,0,0,0,0,0,0,0,0] (.seq (.seq (.reg [⟨some 8,none,.mv (.t 4)⟩,⟨some 9,none,.faddr 1 (.t 1)⟩,⟨some 10,none,.load false 1 (.t 9)⟩,⟨some 11,none,.len false (.t 10)⟩,⟨some 12,none,.bin .lss false (.t 8) (.t 11)⟩]) (.cond (.t 12) .skip (.exit 0))) (.seq (.block 1 (.dreg [[],[0],[],[2],[],[3,2,4],[5,3,2,4],[6,5,3,2,4],[7,6,5,3,2,4],[1,0,8,7,6,5,3,2,4],[0,1,2,3,4,5,6,7,8,9],[10,0,1,2,3,4,5,6,7,8,9]] [⟨some 15,none,.faddr 1 (.t 3)⟩,⟨some 16,none,.load false 1 (.t 15)⟩,⟨some 17,none,.faddr 1 (.t 1)⟩,⟨some 18,none,.load false 1 (.t 17)⟩,⟨some 19,none,.mv (.t 4)⟩,⟨some 20,none,.iaddr 2 (.t 18) (.t 19)⟩,⟨some 21,none,.load true 2 (.t 20)⟩,⟨some 22,none,.call 36 [(.t 21)]⟩,⟨(some 23),none,(.mkrow 26 2 [(.str ⟨#[]⟩),.nil] 1 [(0,(.t 22))])⟩,⟨(some 24),none,(.append 26 2 40 [(.str ⟨#[]⟩),.nil] (.t 16) (.t 23))⟩,⟨some 25,none,.faddr 1 (.t 3)⟩,⟨none,none,(.store 1 (.t 25) (.t 24))⟩])) (.reg [⟨some 13,none,.mv (.t 4)⟩,⟨some 14,none,.bin .add false (.t 13) (.c (.int .i64 1))⟩,⟨some 4,none,.mv (.t 14)⟩])))))) (.seq (.reg [⟨some 26,none,.load true 2 (.t 3)⟩,⟨none,none,(.store 2 (.t 2) (.t 26))⟩]) .ret))))
theorem Nm:Ar Try.prog 36=some ⟨27,Iz,[(.cell 2 true 2)]⟩:=by kernel_rfl
theorem Cw:modes 36=⟨[],.own [none,some (26,2)],none,false⟩:=by unfold modes; rfl
theorem Nn (xs:List Tm) (hl:xs.length≤1099511627776) (h:∀ x∈xs,E 64 [x.sv] []=some (x.osv,x.obs)):E 78 [.arr (xs.map Tm.d)] []=some (.ref 0,[.row 26 2 (xs.map Tm.o)]):=by
 cases xs with
 | nil =>
  refine Af Ga DZ (of_decide_eq_true rfl) ?_
  simp (disch:=omega) only [DY,go_sem,Aa]
 | cons x0 xs0 =>
 generalize hxs:x0 :: xs0=xs at *
 have hpos:0<xs.length:=by rw [←hxs]; simp
 refine Af Ga DZ (of_decide_eq_true rfl) ?_
 simp (disch:=omega) only [DY,go_sem,Aa]
 refine go_loop (α:=Int) (fun a=>⟨slots 26 0 [(3,.ref 0),(12,.arr (xs.map Tm.d)),(13,.int .i64 xs.length),(14,.int .i64 a)],[.row 26 2 (EV Tm.o [.str ⟨#[]⟩,.ow []] xs a.toNat)]⟩) (fun a=>∃ k:Nat,a=k∧k≤(xs).length) (fun a=>(xs).length-(a).toNat) 0 ⟨0,rfl,zN _⟩ (by simp (disch:=omega) only [go_sem,Aa,Ld,Int.toNat_zero]) ?_
 rintro i ⟨k,hi,hk⟩
 have hni:i.toNat=k:=by omega
 have hni1:(i+1).toNat=k+1:=by omega
 rcases zD k (xs).length with hlt | hge
 ·have hg:=get_at Tm.d hlt
  rw [Tm.d_eq] at hg
  have hz:=M0 Tm.o [.str ⟨#[]⟩,.ow []] hlt
  have hc:=h xs[k] (zH hlt)
  have hs:=M1 Tm.o [.str ⟨#[]⟩,.ow []] hlt
  rw [Tm.Hz] at hs
  simp (disch:=omega) only [go_sem,Aa,hni,hg,hc,hz,My,Ax,Tm.osv,Tm.obs]
  refine ⟨i+1,⟨k+1,by omega,hlt⟩,by omega,?_⟩
  simp (disch:=omega) only [go_sem,Aa,hni1,hs]
 ·obtain rfl:k=xs.length:=by omega
  simp (disch:=omega) only [go_sem,Aa,hni,Mz]
theorem Oo (x:Tm) (h:E 78 [.arr (x.args.map Tm.d)] []=some (.ref 0,[.row 26 2 (x.args.map Tm.o)])):E 64 [x.sv] []=some (x.osv,x.obs):=by
 refine Af JO Ax (of_decide_eq_true rfl) ?_
 simp (disch:=omega) only [G3,go_sem,Aa,h,DZ]
theorem EX (x:Tm) (hn:x.nodes≤1099511627776):E 64 [x.sv] []=some (x.osv,x.obs) :=
 Oo x (Nn x.args (by have:=Tm.Aj x; have:=Tm.length_le x.args; omega) fun y hy=>EX y (by have:=Tm.AU hy; have:=Tm.Aj x; omega))
termination_by SizeOf.sizeOf x
decreasing_by exact Tm.A8 hy
def Wc (res:RM) (n0:Nat) (rs:List RX) (Q:SV × List Ob→Prop) (x:X) (st:St):Prop:=∃ out,SH res n0 rs out x st∧Q out
theorem exq {α:Type} {a:α} {Q:α→Prop}:(∃ out,some a=some out∧Q out)=Q a:=propext ⟨fun ⟨o,h,q⟩=>by obtain rfl:=zK h; exact q,fun q=>⟨a,rfl,q⟩⟩
theorem Wd {res:RM} {n0:Nat} {rs:List RX} {Q:SV × List Ob→Prop} {sl:List SV} {ob:List Ob}:Wc res n0 rs Q .ret ⟨sl,ob⟩=∃ out,Om res n0 ob (HP ⟨sl,ob⟩ rs)=some out∧Q out:=rfl
theorem We {res:RM} {n0:Nat} {rs:List RX} {Q:SV × List Ob→Prop} {sl:List SV} {ob:List Ob}:Wc res n0 rs Q .normal ⟨sl,ob⟩=∃ out,Om res n0 ob (HP ⟨sl,ob⟩ rs)=some out∧Q out:=rfl
theorem AH {f:FuncId} {fc:FC} {hand:List Bool} {res:RM} {tr:Bool} {xs:List SV} {ob:List Ob} {Q:SV × List Ob→Prop} (hc:Ar Try.prog f=some fc) (hr:modes f=⟨hand,res,none,tr⟩) (hn:xs.length≤fc.nt) (h:go ob.length (E2 res fc.sc) ⟨xs++FT (fc.nt-xs.length),entry tr ob⟩ (Wc res ob.length fc.rs Q)):∃ out,E f xs ob=some out∧Q out:=by
 obtain ⟨x,st',h1,out,h2,h3⟩:=h
 exact ⟨out,Af hc hr hn ⟨x,st',h1,h2⟩,h3⟩
attribute [go_sem] Wd We exq
def Tm.osh (x:Tm):List OT:=[.str x.name,.sh (x.args.map Tm.d)]
theorem Tm.Lf (x:Tm):x.osh=[.str x.name,.sh (x.args.map Tm.d)]:=rfl
theorem Tm.D5:∀ xs:List Tm,OT.Aq (xs.map Tm.osh)=true
 | []=>rfl
 | x :: xs=>by rw [zB,Tm.Lf]; simp [OT.Aq,OT.Ck,OT.full,Tm.D5 xs]
theorem Tm.FA:∀ xs:List Tm,OT.erss (xs.map Tm.osh)=xs.map Tm.d
 | []=>rfl
 | x :: xs=>by rw [zB,zB,Tm.Lf,Tm.d_eq]; simp [OT.erss,OT.ers,OT.er,Tm.FA xs]
theorem Oq {α β:Type} (f:α→β) {xs:List α} {k:Nat} (h:k<xs.length):(xs.take k).map f++[f xs[k]]=(xs.take (k+1)).map f:=by
 rw [yH h,z2]; rfl
def D6:SC:=(.seq (.reg [⟨some 2,none,.mv (.c (.int .i64 0))⟩]) (.seq (.reg [⟨some 3,none,.mv (.c (.int .i64 0))⟩]) (.seq (.seq (.dreg [[],[0],[1,0],[2,1,0],[],[4],[5,4],[6,5,4],[7,6,5,4],[3,2,1,0,8,7,6,5,4]] [⟨some 4,none,.mv (.t 0)⟩,⟨some 5,none,.nilchk (.t 4)⟩,⟨some 6,none,.faddr 1 (.t 5)⟩,⟨some 7,none,.load false 1 (.t 6)⟩,⟨some 8,none,.mv (.t 0)⟩,⟨some 9,none,.nilchk (.t 8)⟩,⟨some 10,none,.faddr 0 (.t 9)⟩,⟨some 11,none,.load false 1 (.t 10)⟩,⟨some 12,none,.len false (.t 11)⟩,⟨some 13,none,.bin .lss false (.t 7) (.t 12)⟩]) (.cond (.t 13) (.dreg [[],[0],[1,0],[2,1,0],[],[4],[5,4],[6,5,4],[3,2,1,0,7,6,5,4],[8,3,2,1,0,7,6,5,4],[9,8,3,2,1,0,7,6,5,4],[10,9,8,3,2,1,0,7,6,5,4]] [⟨some 14,none,.mv (.t 0)⟩,⟨some 15,none,.nilchk (.t 14)⟩,⟨some 16,none,.faddr 0 (.t 15)⟩,⟨some 17,none,.load false 1 (.t 16)⟩,⟨some 18,none,.mv (.t 0)⟩,⟨some 19,none,.nilchk (.t 18)⟩,⟨some 20,none,.faddr 1 (.t 19)⟩,⟨some 21,none,.load false 1 (.t 20)⟩,⟨some 22,none,.iaddr 1 (.t 17) (.t 21)⟩,⟨some 23,none,.load false 1 (.t 22)⟩,⟨some 24,none,.conv .i64 (.t 23)⟩,⟨some 3,none,.mv (.t 24)⟩]) .skip)) (.seq (.reg [⟨some 25,none,.mv (.t 0)⟩,⟨some 26,none,.nilchk (.t 25)⟩,⟨some 27,none,.faddr 1 (.t 26)⟩,⟨some 28,none,.load false 1 (.t 27)⟩,⟨some 29,none,.bin .add false (.t 28) (.c (.int .i64 1))⟩,⟨some 30,none,.nilchk (.t 25)⟩,⟨some 31,none,.faddr 1 (.t 30)⟩,⟨none,none,(.store 1 (.t 31) (.t 29))⟩]) (.seq (.reg [⟨some 32,none,.mv (.t 0)⟩,⟨some 33,none,.mv (.t 0)⟩,⟨some 34,none,.nilchk (.t 33)⟩,⟨some 35,none,.faddr 2 (.t 34)⟩,⟨some 36,none,.load false 1 (.t 35)⟩,⟨some 37,none,.bin .mul false (.t 36) (.c (.int .u64 6364136223846793005))⟩,⟨some 38,none,.mv (.t 3)⟩,⟨some 39,none,.conv .u64 (.t 38)⟩,⟨some 40,none,.bin .add false (.t 37) (.t 39)⟩,⟨some 41,none,.bin .add false (.t 40) (.c (.int .u64 892892))⟩,⟨some 42,none,.nilchk (.t 32)⟩,⟨some 43,none,.faddr 2 (.t 42)⟩,⟨none,none,(.store 1 (.t 43) (.t 41))⟩]) (.seq (.seq (.dreg [[],[0],[1,0],[2,1,0],[],[4],[5,4],[6,5,4],[7,6,5,4],[3,2,1,0,8,7,6,5,4]] [⟨some 44,none,.mv (.t 0)⟩,⟨some 45,none,.nilchk (.t 44)⟩,⟨some 46,none,.faddr 1 (.t 45)⟩,⟨some 47,none,.load false 1 (.t 46)⟩,⟨some 48,none,.mv (.t 0)⟩,⟨some 49,none,.nilchk (.t 48)⟩,⟨some 50,none,.faddr 0 (.t 49)⟩,⟨some 51,none,.load false 1 (.t 50)⟩,⟨some 52,none,.len false (.t 51)⟩,⟨some 53,none,.bin .leq false (.t 47) (.t 52)⟩]) (.cond (.t 53) (.seq (.reg [⟨some 54,none,.mv (.t 3)⟩,⟨some 2,none,.mv (.t 54)⟩]) .ret) .skip)) (.seq (.reg [⟨some 55,none,.mv (.t 0)⟩,⟨some 56,none,.nilchk (.t 55)⟩,⟨some 57,none,.faddr 2 (.t 56)⟩,⟨some 58,none,.load false 1 (.t 57)⟩,⟨some 59,none,.bin .shr false (.t 58) (.c (.int .u64 40))⟩,⟨some 60,none,.bin .and false (.t 59) (.c (.int .u64 255))⟩,⟨some 61,none,.conv .i64 (.t 60)⟩,⟨some 2,none,.mv (.t 61)⟩]) .ret)))))))
theorem Fw:Ar Try.prog 39=some ⟨62,D6,[(.tmp 2)]⟩:=by kernel_rfl
theorem D7:modes 39=⟨[],.asis,none,false⟩:=by unfold modes; rfl
def D8:SC:=(.seq (.reg [⟨some 4,none,.mv (.c (.int .i64 0))⟩]) (.seq (.seq (.reg [⟨some 6,none,.mv (.t 1)⟩,⟨some 7,none,.bin .leq false (.t 6) (.c (.int .i64 1))⟩]) (.cond (.t 7) (.seq (.reg [⟨some 4,none,.mv (.c (.int .i64 0))⟩]) .ret) .skip)) (.seq (.reg [⟨some 8,none,.mv (.t 0)⟩,⟨some 9,none,.call 39 [(.t 8)]⟩,⟨some 5,none,.mv (.t 9)⟩]) (.seq (.seq (.reg [⟨some 10,none,.mv (.t 1)⟩,⟨some 11,none,.bin .gtr false (.t 10) (.c (.int .i64 200))⟩]) (.cond (.t 11) (.reg [⟨some 12,none,.mv (.t 5)⟩,⟨some 13,none,.bin .mul false (.t 12) (.c (.int .i64 256))⟩,⟨some 14,none,.mv (.t 0)⟩,⟨some 15,none,.call 39 [(.t 14)]⟩,⟨some 16,none,.bin .add false (.t 13) (.t 15)⟩,⟨some 5,none,.mv (.t 16)⟩]) .skip)) (.seq (.reg [⟨some 17,none,.mv (.t 5)⟩,⟨some 18,none,.mv (.t 1)⟩,⟨some 19,none,.bin .rem false (.t 17) (.t 18)⟩,⟨some 4,none,.mv (.t 19)⟩]) .ret)))))
theorem Fx:Ar Try.prog 20=some ⟨20,D8,[(.tmp 4)]⟩:=by kernel_rfl
theorem Ac:modes 20=⟨[],.asis,none,false⟩:=by unfold modes; rfl
def Gb:SC:=(.seq (.reg [⟨some 4,none,.mv (.c (.bool false))⟩]) (.seq (.reg [⟨some 5,none,.mv (.t 0)⟩,⟨some 6,none,.mv (.t 1)⟩,⟨some 7,none,.call 20 [(.t 5),(.t 6)]⟩,⟨some 8,none,.bin .eql false (.t 7) (.c (.int .i64 0))⟩,⟨some 4,none,.mv (.t 8)⟩]) .ret))
theorem Jf:Ar Try.prog 15=some ⟨9,Gb,[(.tmp 4)]⟩:=by kernel_rfl
theorem Ak:modes 15=⟨[],.asis,none,false⟩:=by unfold modes; rfl
def G4:SC:=(.seq (.reg [⟨(some 4),none,(.mv (.c (.str ⟨#[]⟩)))⟩]) (.seq (.reg [⟨some 5,none,.mv (.t 1)⟩,⟨some 6,none,.mv (.t 0)⟩,⟨some 7,none,.mv (.t 1)⟩,⟨some 8,none,.len false (.t 7)⟩,⟨some 9,none,.call 20 [(.t 6),(.t 8)]⟩,⟨some 10,none,.iaddr 1 (.t 5) (.t 9)⟩,⟨some 11,none,.load false 1 (.t 10)⟩,⟨some 4,none,.mv (.t 11)⟩]) .ret))
theorem JP:Ar Try.prog 52=some ⟨12,G4,[(.tmp 4)]⟩:=by kernel_rfl
theorem Au:modes 52=⟨[],.asis,none,false⟩:=by unfold modes; rfl
theorem WX {α:Type} {a:α} {Q:α→Prop}:(∃ out,a=out∧Q out)=Q a:=propext ⟨fun ⟨o,h,q⟩=>by subst h; exact q,fun q=>⟨a,rfl,q⟩⟩
attribute [go_sem] WX
abbrev by_ (b:Int):List D:=[D.byte b]
def Bytes (l:List Int):Prop:=∀ b∈l,0≤b∧b≤255
abbrev cur (l:List Int) (p s:Int):Ob:=.box 45 [.arr (l.map by_),.int .i64 p,.int .u64 s]
theorem Wg (a:Int):0≤bits .and .u64 a 255∧bits .and .u64 a 255≤255:=by
 have h:(BitVec.ofInt 64 a &&& BitVec.ofInt 64 255).toNat≤255:=by
  rw [BitVec.toNat_and]
  exact Nat.and_le_right
 have e:bits .and .u64 a 255=(((BitVec.ofInt 64 a &&& BitVec.ofInt 64 255).toNat:Nat):Int):=by
  show IntKind.u64.wrap _=_
  refine Ko ⟨?_,?_⟩
  ·show (0:Int)≤_; omega
  ·show _≤(18446744073709551615:Int)
   have:(BitVec.ofInt 64 a &&& BitVec.ofInt 64 255).toNat≤255:=h
   show (((BitVec.ofInt 64 a &&& BitVec.ofInt 64 255).toNat:Nat):Int)≤_
   omega
 rw [e]
 omega
theorem U7 (l:List Int) (hl:Bytes l) (hn:l.length≤1099511627776) (p s:Int) (hp0:0≤p) (hp:p≤1099511627776):∃ v s',E 39 [.ptr 0 0] [cur l p s]=some (.int .i64 v,[cur l (p+1) s'])∧0≤v∧v≤255:=by
 obtain ⟨Q,hQ⟩:∃ Q:SV × List Ob→Prop,Q=fun out=>∃ v s',out=(.int .i64 v,[cur l (p+1) s'])∧0≤v∧v≤255:=⟨_,rfl⟩
 suffices h:∃ out,E 39 [.ptr 0 0] [cur l p s]=some out∧Q out by
  obtain ⟨out,h1,h2⟩:=h
  rw [hQ] at h2
  obtain ⟨v,s',rfl,h3⟩:=h2
  exact ⟨v,s',h1,h3⟩
 by_cases hlt:p<l.length
 ·have hg:=get_at by_ (show p.toNat<l.length by omega)
  have hb:=hl _ (zH (show p.toNat<l.length by omega))
  have hi:dec (inK .i64 l[p.toNat])=true:=Gr (by omega) (by omega)
  have h1:(p<(l.length:Int))=True:=eq_true (by omega)
  have h2:(p+1≤(l.length:Int))=True:=eq_true (by omega)
  refine AH Fw D7 (of_decide_eq_true rfl) ?_
  simp (disch:=omega) only [D6,go_sem,Aa,hg,hi,h1,h2]
  rw [hQ]
  exact ⟨_,_,rfl,hb⟩
 ·have h1:(p<(l.length:Int))=False:=eq_false (by omega)
  have h2:(p+1≤(l.length:Int))=False:=eq_false (by omega)
  have hb:=fun a=>Wg a
  have hi:∀ a,dec (inK .i64 (bits .and .u64 a 255))=true:=fun a=>Gr (by have:=hb a; omega) (by have:=hb a; omega)
  refine AH Fw D7 (of_decide_eq_true rfl) ?_
  simp (disch:=omega) only [D6,go_sem,Aa,hi,h1,h2]
  rw [hQ]
  exact ⟨_,_,rfl,hb _⟩
theorem EY (l:List Int) (hl:Bytes l) (hn:l.length≤1099511627776) (n:Int) (h1:1≤n) (h2:n≤200) (p s:Int) (hp0:0≤p) (hp:p≤1099511627776):∃ v p' s',E 20 [.ptr 0 0,.int .i64 n] [cur l p s]=some (.int .i64 v,[cur l p' s'])∧(0≤v∧v<n)∧p≤p'∧p'≤p+1:=by
 by_cases hn1:n≤1
 ·refine ⟨0,p,s,?_,by omega,by omega,by omega⟩
  have q1:(n≤1)=True:=eq_true hn1
  refine Af Fx Ac (of_decide_eq_true rfl) ?_
  simp (disch:=omega) only [D8,go_sem,Aa,q1]
 ·obtain ⟨v,s',hv,hv1,hv2⟩:=U7 l hl hn p s hp0 hp
  have hm1:=Int.emod_nonneg v (show n≠0 by omega)
  have hm2:=Int.emod_lt_of_pos v (show 0<n by omega)
  have hm3:v.tmod n=v % n:=Int.tmod_eq_emod_of_nonneg hv1
  refine ⟨v.tmod n,p+1,s',?_,by omega,by omega,by omega⟩
  have q1:(n≤1)=False:=eq_false hn1
  have q2:(200<n)=False:=eq_false (by omega)
  have q3:(n=0)=False:=eq_false (by omega)
  refine Af Fx Ac (of_decide_eq_true rfl) ?_
  simp (disch:=omega) only [D8,go_sem,Aa,q1,q2,q3,hv,D7]
theorem I1 (l:List Int) (hl:Bytes l) (hn:l.length≤1099511627776) (n:Int) (h1:1≤n) (h2:n≤200) (p s:Int) (hp0:0≤p) (hp:p≤1099511627776):∃ b p' s',E 15 [.ptr 0 0,.int .i64 n] [cur l p s]=some (.bool b,[cur l p' s'])∧p≤p'∧p'≤p+1:=by
 obtain ⟨v,p',s',hv,_,h3,h4⟩:=EY l hl hn n h1 h2 p s hp0 hp
 refine ⟨dec (v=0),p',s',?_,h3,h4⟩
 refine Af Jf Ak (of_decide_eq_true rfl) ?_
 simp (disch:=omega) only [Gb,go_sem,Aa,hv,Ac]
theorem SK (l:List Int) (hl:Bytes l) (hn:l.length≤1099511627776) (xs:List ByteArray) (h1:1≤xs.length) (h2:xs.length≤200) (p s:Int) (hp0:0≤p) (hp:p≤1099511627776):∃ x p' s',E 52 [.ptr 0 0,.arr (xs.map fun s=>[D.str s])] [cur l p s]=some (.str x,[cur l p' s'])∧x∈xs∧p≤p'∧p'≤p+1:=by
 obtain ⟨v,p',s',hv,⟨hv0,hv1⟩,h3,h4⟩:=EY l hl hn xs.length (by omega) (by omega) p s hp0 hp
 have hg:=get_at (fun s=>[D.str s]) (show v.toNat<xs.length by omega)
 refine ⟨xs[v.toNat],p',s',?_,zH _,h3,h4⟩
 refine Af JP Au (of_decide_eq_true rfl) ?_
 simp (disch:=omega) only [G4,go_sem,Aa,hv,hg,Ac]
def Cr:SC:=(.seq (.reg [⟨(some 4),none,(.alloc 26 [(.str ⟨#[]⟩),.nil])⟩]) (.seq (.seq (.reg [⟨some 5,none,.mv (.t 1)⟩,⟨some 6,none,.bin .leq false (.t 5) (.c (.int .i64 1))⟩,⟨some 7,none,.mv (.t 6)⟩,⟨(some 8),(some (7,false)),(.mv (.t 0))⟩,⟨(some 9),(some (7,false)),(.call 15 [(.t 8),(.c (.int .i64 3))])⟩,⟨some 10,none,.pick (.t 7) (.c (.bool true)) (.t 9)⟩]) (.cond (.t 10) (.seq (.reg [⟨some 11,none,.mv (.t 0)⟩,⟨(some 12),none,(.mkrow 9 1 [(.str ⟨#[]⟩)] 7 [(0,(.c (.str ⟨#[88]⟩))),(1,(.c (.str ⟨#[89]⟩))),(2,(.c (.str ⟨#[90]⟩))),(3,(.c (.str ⟨#[97]⟩))),(4,(.c (.str ⟨#[98]⟩))),(5,(.c (.str ⟨#[88]⟩))),(6,(.c (.str ⟨#[97]⟩)))])⟩,⟨some 13,none,.call 52 [(.t 11),(.t 12)]⟩,⟨(some 14),none,(.build [(.str ⟨#[]⟩),.nil] [(0,(1,(.t 13)))])⟩,⟨none,none,(.store 2 (.t 4) (.t 14))⟩]) .ret) .skip)) (.seq (.seq (.reg [⟨some 15,none,.mv (.t 0)⟩,⟨some 16,none,.call 15 [(.t 15),(.c (.int .i64 2))]⟩]) (.cond (.t 16) (.seq (.reg [⟨some 17,none,.mv (.t 0)⟩,⟨some 18,none,.mv (.t 1)⟩,⟨some 19,none,.bin .sub false (.t 18) (.c (.int .i64 1))⟩,⟨some 20,none,.call 38 [(.t 17),(.t 19)]⟩,⟨(some 21),none,(.mkrow 26 2 [(.str ⟨#[]⟩),.nil] 1 [(0,(.t 20))])⟩,⟨(some 22),none,(.build [(.str ⟨#[]⟩),.nil] [(0,(1,(.c (.str ⟨#[102]⟩)))),(1,(1,(.t 21)))])⟩,⟨none,none,(.store 2 (.t 4) (.t 22))⟩]) .ret) .skip)) (.seq (.reg [⟨some 23,none,.mv (.t 0)⟩,⟨some 24,none,.mv (.t 1)⟩,⟨some 25,none,.bin .sub false (.t 24) (.c (.int .i64 1))⟩,⟨some 26,none,.call 38 [(.t 23),(.t 25)]⟩,⟨some 27,none,.mv (.t 0)⟩,⟨some 28,none,.mv (.t 1)⟩,⟨some 29,none,.bin .sub false (.t 28) (.c (.int .i64 1))⟩,⟨some 30,none,.call 38 [(.t 27),(.t 29)]⟩,⟨(some 31),none,(.mkrow 26 2 [(.str ⟨#[]⟩),.nil] 2 [(0,(.t 26)),(1,(.t 30))])⟩,⟨(some 32),none,(.build [(.str ⟨#[]⟩),.nil] [(0,(1,(.c (.str ⟨#[103]⟩)))),(1,(1,(.t 31)))])⟩,⟨none,none,(.store 2 (.t 4) (.t 32))⟩]) .ret))))
theorem CG:Ar Try.prog 38=some ⟨33,Cr,[(.cell 4 true 2)]⟩:=by kernel_rfl
theorem AA:modes 38=⟨[],.half [none,some (26,2)],none,false⟩:=by unfold modes; rfl
def Fy:SC:=(.seq (.reg [⟨(some 2),none,(.alloc 26 [(.str ⟨#[]⟩),.nil])⟩]) (.seq (.reg [⟨some 3,none,.mv (.t 0)⟩,⟨some 4,none,.mv (.t 0)⟩,⟨some 5,none,.call 20 [(.t 4),(.c (.int .i64 3))]⟩,⟨some 6,none,.bin .add false (.c (.int .i64 1)) (.t 5)⟩,⟨some 7,none,.call 38 [(.t 3),(.t 6)]⟩,⟨none,none,(.store 2 (.t 2) (.t 7))⟩]) .ret))
theorem I3:Ar Try.prog 19=some ⟨8,Fy,[(.cell 2 true 2)]⟩:=by kernel_rfl
theorem Ae:modes 19=⟨[],.half [none,some (26,2)],none,false⟩:=by unfold modes; rfl
def BD:SC:=(.seq (.reg [⟨(some 2),none,(.alloc 26 [(.str ⟨#[]⟩),.nil])⟩]) (.seq (.seq (.reg [⟨some 3,none,.mv (.t 0)⟩,⟨some 4,none,.call 20 [(.t 3),(.c (.int .i64 8))]⟩]) (.block 0 (.seq (.seq (.reg [⟨some 6,none,.bin .eql false (.t 4) (.c (.int .i64 0))⟩,⟨some 5,none,.mv (.t 6)⟩]) (.cond (.t 5) .skip (.reg [⟨some 7,none,.bin .eql false (.t 4) (.c (.int .i64 1))⟩,⟨some 5,none,.mv (.t 7)⟩]))) (.cond (.t 5) (.seq (.reg [⟨some 8,none,.mv (.t 0)⟩,⟨some 9,none,.call 19 [(.t 8)]⟩,⟨some 10,none,.mv (.t 0)⟩,⟨some 11,none,.call 19 [(.t 10)]⟩,⟨(some 12),none,(.mkrow 26 2 [(.str ⟨#[]⟩),.nil] 2 [(0,(.t 9)),(1,(.t 11))])⟩,⟨(some 13),none,(.build [(.str ⟨#[]⟩),.nil] [(0,(1,(.c (.str ⟨#[61]⟩)))),(1,(1,(.t 12)))])⟩,⟨none,none,(.store 2 (.t 2) (.t 13))⟩]) .ret) (.seq (.reg [⟨some 15,none,.bin .eql false (.t 4) (.c (.int .i64 2))⟩,⟨some 14,none,.mv (.t 15)⟩]) (.cond (.t 14) (.seq (.reg [⟨(some 16),none,(.build [(.str ⟨#[]⟩),.nil] [(0,(1,(.c (.str ⟨#[114]⟩))))])⟩,⟨none,none,(.store 2 (.t 2) (.t 16))⟩]) .ret) (.seq (.seq (.reg [⟨some 18,none,.bin .eql false (.t 4) (.c (.int .i64 3))⟩,⟨some 17,none,.mv (.t 18)⟩]) (.cond (.t 17) .skip (.reg [⟨some 19,none,.bin .eql false (.t 4) (.c (.int .i64 4))⟩,⟨some 17,none,.mv (.t 19)⟩]))) (.cond (.t 17) (.seq (.reg [⟨some 20,none,.mv (.t 0)⟩,⟨some 21,none,.call 38 [(.t 20),(.c (.int .i64 2))]⟩,⟨some 22,none,.mv (.t 0)⟩,⟨some 23,none,.call 38 [(.t 22),(.c (.int .i64 2))]⟩,⟨(some 24),none,(.mkrow 26 2 [(.str ⟨#[]⟩),.nil] 2 [(0,(.t 21)),(1,(.t 23))])⟩,⟨(some 25),none,(.build [(.str ⟨#[]⟩),.nil] [(0,(1,(.c (.str ⟨#[113]⟩)))),(1,(1,(.t 24)))])⟩,⟨none,none,(.store 2 (.t 2) (.t 25))⟩]) .ret) .skip)))))))) (.seq (.reg [⟨some 26,none,.mv (.t 0)⟩,⟨some 27,none,.call 38 [(.t 26),(.c (.int .i64 2))]⟩,⟨(some 28),none,(.mkrow 26 2 [(.str ⟨#[]⟩),.nil] 1 [(0,(.t 27))])⟩,⟨(some 29),none,(.build [(.str ⟨#[]⟩),.nil] [(0,(1,(.c (.str ⟨#[112]⟩)))),(1,(1,(.t 28)))])⟩,⟨none,none,(.store 2 (.t 2) (.t 29))⟩]) .ret)))
theorem Cc:Ar Try.prog 30=some ⟨30,BD,[(.cell 2 true 2)]⟩:=by kernel_rfl
theorem Bo:modes 30=⟨[],.half [none,some (26,2)],none,false⟩:=by unfold modes; rfl
def Tm.oh (x:Tm):List OT:=[.str x.name,.ow (x.args.map Tm.osh)]
theorem Tm.SL (x:Tm):x.oh=[.str x.name,.ow (x.args.map Tm.osh)]:=rfl
theorem Tm.Or:∀ xs:List Tm,OT.BB (xs.map Tm.osh)=xs.map Tm.osh
 | []=>rfl
 | x :: xs=>by rw [zB,Tm.Lf]; simp only [OT.BB,OT.G2,OT.half,Tm.Or xs]
theorem Tm.Qk:∀ xs:List Tm,OT.Aq (xs.map Tm.oh)=true
 | []=>rfl
 | x :: xs=>by rw [zB,Tm.SL]; simp only [OT.Aq,OT.Ck,OT.full,Tm.D5,Tm.Qk xs,zI]
theorem Tm.Ql:∀ xs:List Tm,OT.BB (xs.map Tm.oh)=xs.map Tm.osh
 | []=>rfl
 | x :: xs=>by rw [zB,zB,Tm.SL,Tm.Lf]; simp only [OT.BB,OT.G2,OT.half,Tm.FA,Tm.Ql xs]
theorem Tm.Ve:∀ xs:List Tm,OT.erss (xs.map Tm.oh)=xs.map Tm.d
 | []=>rfl
 | x :: xs=>by rw [zB,zB,Tm.SL,Tm.d_eq]; simp only [OT.erss,OT.ers,OT.er,Tm.FA,Tm.Ve xs]
theorem Tm.Py:∀ xs:List Tm,OT.BB (xs.map Tm.o)=xs.map Tm.osh
 | []=>rfl
 | x :: xs=>by rw [zB,zB,Tm.Hz,Tm.Lf]; simp only [OT.BB,OT.G2,OT.half,Tm.erss,Tm.Py xs]
theorem OT.fullss_app:∀ a b:List (List OT),OT.Aq (a++b)=(OT.Aq a&&OT.Aq b)
 | [],b=>by simp [OT.Aq]
 | x :: a,b=>by simp only [z8,OT.Aq,OT.fullss_app a b,Bool.and_assoc]
theorem OT.Lg:∀ a b:List (List OT),OT.BB (a++b)=OT.BB a++OT.BB b
 | [],b=>by simp [OT.BB]
 | x :: a,b=>by simp only [z8,OT.BB,OT.Lg a b]
theorem OT.erss_app:∀ a b:List (List OT),OT.erss (a++b)=OT.erss a++OT.erss b
 | [],b=>by simp [OT.erss]
 | x :: a,b=>by simp only [z8,OT.erss,OT.erss_app a b]
theorem OT.Gs:∀ {l:List (List OT)} {e:List OT} (k:Nat),OT.Aq l=true→OT.Ck e=true→OT.Aq (l.set k e)=true
 | [],_,_,_,_=>rfl
 | x :: l,e,0,h,he=>by
  simp only [OT.Aq,zA] at h
  simp only [yC,OT.Aq,he,h.2,zI]
 | x :: l,e,k+1,h,he=>by
  simp only [OT.Aq,zA] at h
  simp only [yD,OT.Aq,h.1,OT.Gs k h.2 he,zI]
theorem OT.I4:∀ (l:List (List OT)) (e:List OT) (k:Nat),OT.erss (l.set k e)=(OT.erss l).set k (OT.ers e)
 | [],_,_=>rfl
 | x :: l,e,0=>rfl
 | x :: l,e,k+1=>by simp only [yD,OT.erss,OT.I4 l e k]
attribute [go_sem] OT.fullss_app OT.Lg OT.erss_app Tm.D5 Tm.FA Tm.Or Tm.Qk Tm.Ve Tm.Ql Tm.Py
abbrev tmH (t:Tm) (g:Nat):SV:=.agg [.str t.name,.ref g]
abbrev Jg (t:Tm):Ob:=.row 26 2 (t.args.map Tm.osh)
theorem No (l:List Int) (hl:Bytes l) (hn:l.length≤1099511627776):∀ (d:Nat) (m:Int),m=d→1≤d→d≤20→∀ p s:Int,0≤p→p+(4*2 ^ d:Nat)≤1099000000000→∃ t p' s',E 38 [.ptr 0 0,.int .i64 m] [cur l p s]=some (tmH t 1,[cur l p' s',Jg t])∧(p≤p'∧p'+2≤p+(4*2 ^ d:Nat))∧t.nodes+1≤2 ^ d:=by
 intro d
 have leaf:∀ (p1 s1:Int),0≤p1→p1≤1099500000000→∃ x p2 s2,E 52 [.ptr 0 0,.arr [[D.str ⟨#[88]⟩],[D.str ⟨#[89]⟩],[D.str ⟨#[90]⟩],[D.str ⟨#[97]⟩],[D.str ⟨#[98]⟩],[D.str ⟨#[88]⟩],[D.str ⟨#[97]⟩]]] [cur l p1 s1]=some (.str x,[cur l p2 s2])∧p1≤p2∧p2≤p1+1:=fun p1 s1 a b=>by
  obtain ⟨x,p2,s2,ho,_,h2,h3⟩:=SK l hl hn [⟨#[88]⟩,⟨#[89]⟩,⟨#[90]⟩,⟨#[97]⟩,⟨#[98]⟩,⟨#[88]⟩,⟨#[97]⟩] (by decide) (by decide) p1 s1 a (by omega)
  simp only [zB,zL] at ho
  exact ⟨x,p2,s2,ho,h2,h3⟩
 have n1:∀ x,(Tm.mk x []).nodes=1:=fun x=>by rw [Tm.Aj]; rfl
 induction d with
 | zero=>exact fun _ _ h=>absurd h (by omega)
 | succ e ih =>
  intro m hm _ hd p s h0 h1
  have hpe:2 ^ (e+1)=2*2 ^ e:=by rw [Nat.pow_succ,Nat.mul_comm]
  have hp1:1≤2 ^ e:=Nat.one_le_two_pow
  have hp2:2 ^ e≤2 ^ 20:=Nat.pow_le_pow_right (by omega) (by omega)
  have hp3:(2:Nat) ^ 20=1048576:=by decide
  have ih:=fun h1e=>ih (m-1) (by omega) h1e (by omega)
  rw [hpe] at h1 ⊢
  generalize 2 ^ e=q at *
  generalize hq2:2*q=q2 at *
  obtain ⟨Q,hQ⟩:∃ Q:SV × List Ob→Prop,Q=fun out=>∃ t p' s',out=(tmH t 1,[cur l p' s',Jg t])∧(p≤p'∧p'+2≤p+(4*q2:Nat))∧t.nodes+1≤q2:=⟨_,rfl⟩
  suffices hq0:∃ out,E 38 [.ptr 0 0,.int .i64 m] [cur l p s]=some out∧Q out by
   obtain ⟨out,hq1,hq2⟩:=hq0
   rw [hQ] at hq2
   obtain ⟨t,p',s',rfl,hq3⟩:=hq2
   exact ⟨t,p',s',hq1,hq3⟩
  by_cases hm1:m≤1
  ·have q1:(m≤1)=True:=eq_true hm1
   obtain ⟨x,p1,s1,ho,h2,h3⟩:=leaf p s h0 (by omega)
   refine AH CG AA (of_decide_eq_true rfl) ?_
   simp (disch:=omega) only [Cr,go_sem,Aa,ho,q1,Au]
   rw [hQ]
   exact ⟨.mk x [],p1,s1,rfl,by omega,by rw [n1]; omega⟩
  ·have q1:(m≤1)=False:=eq_false hm1
   have ih:=ih (by omega)
   obtain ⟨b1,p1,s1,hb1,g1,g2⟩:=I1 l hl hn 3 (by omega) (by omega) p s h0 (by omega)
   cases b1 with
   | true =>
    obtain ⟨x,p2,s2,ho,h2,h3⟩:=leaf p1 s1 (by omega) (by omega)
    refine AH CG AA (of_decide_eq_true rfl) ?_
    simp (disch:=omega) only [Cr,go_sem,Aa,q1,hb1,ho,Au,Ak]
    rw [hQ]
    exact ⟨.mk x [],p2,s2,rfl,by omega,by rw [n1]; omega⟩
   | false =>
    obtain ⟨b2,p2,s2,hb2,g3,g4⟩:=I1 l hl hn 2 (by omega) (by omega) p1 s1 (by omega) (by omega)
    obtain ⟨t3,p3,s3,h3,⟨g5,g6⟩,g7⟩:=ih p2 s2 (by omega) (by omega)
    cases b2 with
    | true =>
     have e1:(Tm.mk ⟨#[102]⟩ [t3]).nodes=1+(t3.nodes+0):=by rw [Tm.Aj]; rfl
     refine AH CG AA (of_decide_eq_true rfl) ?_
     simp (disch:=omega) only [Cr,go_sem,Aa,q1,hb1,hb2,h3,Au,Ak,AA]
     rw [hQ]
     exact ⟨.mk ⟨#[102]⟩ [t3],p3,s3,rfl,by omega,by rw [e1]; omega⟩
    | false =>
     obtain ⟨t4,p4,s4,h4,⟨g8,g9⟩,g10⟩:=ih p3 s3 (by omega) (by omega)
     have e1:(Tm.mk ⟨#[103]⟩ [t3,t4]).nodes=1+(t3.nodes+(t4.nodes+0)):=by rw [Tm.Aj]; rfl
     refine AH CG AA (of_decide_eq_true rfl) ?_
     simp (disch:=omega) only [Cr,go_sem,Aa,q1,hb1,hb2,h3,h4,Au,Ak,AA]
     rw [hQ]
     exact ⟨.mk ⟨#[103]⟩ [t3,t4],p4,s4,rfl,by omega,by rw [e1]; omega⟩
theorem FB (l:List Int) (hl:Bytes l) (hn:l.length≤1099511627776) (p s:Int) (h0:0≤p) (h1:p≤1098000000000):∃ t p' s',E 19 [.ptr 0 0] [cur l p s]=some (tmH t 1,[cur l p' s',Jg t])∧(p≤p'∧p'≤p+40)∧t.nodes≤7:=by
 obtain ⟨v,p1,s1,hv,⟨v0,v1⟩,g1,g2⟩:=EY l hl hn 3 (by omega) (by omega) p s h0 (by omega)
 have hp3:(2:Nat) ^ (1+v).toNat≤2 ^ 3:=Nat.pow_le_pow_right (by omega) (by omega)
 obtain ⟨t,p2,s2,ht,⟨g3,g4⟩,g5⟩:=No l hl hn (1+v).toNat (1+v) (by omega) (by omega) (by omega) p1 s1 (by omega) (by omega)
 have hp4:(2:Nat) ^ 3=8:=by decide
 refine ⟨t,p2,s2,?_,by omega,by omega⟩
 have hi:dec (inK .i64 (1+v))=true:=Gr (by omega) (by omega)
 refine Af I3 Ae (of_decide_eq_true rfl) ?_
 simp (disch:=omega) only [Fy,go_sem,Aa,hv,ht,hi,Ac,AA]
theorem Wh (l:List Int) (hl:Bytes l) (hn:l.length≤1099511627776) (p s:Int) (h0:0≤p) (h1:p≤1097000000000):∃ t p' s',E 30 [.ptr 0 0] [cur l p s]=some (tmH t 1,[cur l p' s',Jg t])∧(p≤p'∧p'≤p+100)∧t.nodes≤15:=by
 obtain ⟨Q,hQ⟩:∃ Q:SV × List Ob→Prop,Q=fun out=>∃ t p' s',out=(tmH t 1,[cur l p' s',Jg t])∧(p≤p'∧p'≤p+100)∧t.nodes≤15:=⟨_,rfl⟩
 suffices hq0:∃ out,E 30 [.ptr 0 0] [cur l p s]=some out∧Q out by
  obtain ⟨out,hq1,hq2⟩:=hq0
  rw [hQ] at hq2
  obtain ⟨t,p',s',rfl,hq3⟩:=hq2
  exact ⟨t,p',s',hq1,hq3⟩
 have hp4:(2:Nat) ^ 2=4:=by decide
 have e1:∀ x a,(Tm.mk x [a]).nodes=1+(a.nodes+0):=fun x a=>by rw [Tm.Aj]; rfl
 have e2:∀ x a b,(Tm.mk x [a,b]).nodes=1+(a.nodes+(b.nodes+0)):=fun x a b=>by rw [Tm.Aj]; rfl
 obtain ⟨v,p1,s1,hv,⟨v0,v1⟩,g1,g2⟩:=EY l hl hn 8 (by omega) (by omega) p s h0 (by omega)
 obtain ⟨ta,p2,s2,ha,⟨a3,a4⟩,a5⟩:=FB l hl hn p1 s1 (by omega) (by omega)
 obtain ⟨tb,p3,s3,hb,⟨b3,b4⟩,b5⟩:=FB l hl hn p2 s2 (by omega) (by omega)
 obtain ⟨tc,p4,s4,hc,⟨c3,c4⟩,c5⟩:=No l hl hn 2 2 rfl (by omega) (by omega) p1 s1 (by omega) (by omega)
 obtain ⟨td,p5,s5,hd,⟨d3,d4⟩,d5⟩:=No l hl hn 2 2 rfl (by omega) (by omega) p4 s4 (by omega) (by omega)
 rw [hp4] at c4 c5 d4 d5
 rcases (show v=0∨v=1∨v=2∨v=3∨v=4∨(¬ v=0∧¬ v=1∧¬ v=2∧¬ v=3∧¬ v=4) by omega) with rfl | rfl | rfl | rfl | rfl | ⟨k0,k1,k2,k3,k4⟩
 ·refine AH Cc Bo (of_decide_eq_true rfl) ?_
  simp (disch:=omega) only [BD,go_sem,Aa,hv,ha,hb,hc,hd,Ac,AA,Ae]
  rw [hQ]
  exact ⟨.mk ⟨#[61]⟩ [ta,tb],p3,s3,rfl,by omega,by rw [e2]; omega⟩
 ·refine AH Cc Bo (of_decide_eq_true rfl) ?_
  simp (disch:=omega) only [BD,go_sem,Aa,hv,ha,hb,hc,hd,Ac,AA,Ae]
  rw [hQ]
  exact ⟨.mk ⟨#[61]⟩ [ta,tb],p3,s3,rfl,by omega,by rw [e2]; omega⟩
 ·refine AH Cc Bo (of_decide_eq_true rfl) ?_
  simp (disch:=omega) only [BD,go_sem,Aa,hv,ha,hb,hc,hd,Ac,AA,Ae]
  rw [hQ]
  exact ⟨.mk ⟨#[114]⟩ [],p1,s1,rfl,by omega,by rw [Tm.Aj]; show 1+0≤_; omega⟩
 ·refine AH Cc Bo (of_decide_eq_true rfl) ?_
  simp (disch:=omega) only [BD,go_sem,Aa,hv,ha,hb,hc,hd,Ac,AA,Ae]
  rw [hQ]
  exact ⟨.mk ⟨#[113]⟩ [tc,td],p5,s5,rfl,by omega,by rw [e2]; omega⟩
 ·refine AH Cc Bo (of_decide_eq_true rfl) ?_
  simp (disch:=omega) only [BD,go_sem,Aa,hv,ha,hb,hc,hd,Ac,AA,Ae]
  rw [hQ]
  exact ⟨.mk ⟨#[113]⟩ [tc,td],p5,s5,rfl,by omega,by rw [e2]; omega⟩
 ·have k0:=eq_false k0
  have k1:=eq_false k1
  have k2:=eq_false k2
  have k3:=eq_false k3
  have k4:=eq_false k4
  refine AH Cc Bo (of_decide_eq_true rfl) ?_
  simp (disch:=omega) only [BD,go_sem,Aa,hv,hc,k0,k1,k2,k3,k4,Ac,AA,Ae]
  rw [hQ]
  exact ⟨.mk ⟨#[112]⟩ [tc],p4,s4,rfl,by omega,by rw [e1]; omega⟩
def EZ:SC:=(.seq (.reg [⟨(some 4),none,(.alloc 26 [(.str ⟨#[]⟩),.nil])⟩]) (.seq (.reg [⟨some 6,none,.mv (.t 0)⟩,⟨(some 7),none,(.mkrow 9 1 [(.str ⟨#[]⟩)] 2 [(0,(.c (.str ⟨#[88]⟩))),(1,(.c (.str ⟨#[97]⟩)))])⟩,⟨some 8,none,.call 52 [(.t 6),(.t 7)]⟩,⟨(some 9),none,(.build [(.str ⟨#[]⟩),.nil] [(0,(1,(.t 8)))])⟩,⟨(some 5),none,(.alloc 26 [(.str ⟨#[]⟩),.nil])⟩,⟨none,none,(.store 2 (.t 5) (.t 9))⟩]) (.seq (.block 0 (.loop [0,1,0,0,1,1,0,0,0,0,0,0,0,0,0,0,0,0] (.seq (.seq (.reg [⟨some 10,none,.mv (.t 1)⟩,⟨some 11,none,.bin .gtr false (.t 10) (.c (.int .i64 1))⟩]) (.cond (.t 11) .skip (.exit 0))) (.seq (.block 1 (.reg [⟨some 14,none,.load true 2 (.t 5)⟩,⟨(some 15),none,(.mkrow 26 2 [(.str ⟨#[]⟩),.nil] 1 [(0,(.t 14))])⟩,⟨(some 16),none,(.build [(.str ⟨#[]⟩),.nil] [(0,(1,(.c (.str ⟨#[102]⟩)))),(1,(1,(.t 15)))])⟩,⟨none,none,(.store 2 (.t 5) (.t 16))⟩])) (.reg [⟨some 12,none,.mv (.t 1)⟩,⟨some 13,none,.bin .sub false (.t 12) (.c (.int .i64 1))⟩,⟨some 1,none,.mv (.t 13)⟩]))))) (.seq (.reg [⟨some 17,none,.load true 2 (.t 5)⟩,⟨none,none,(.store 2 (.t 4) (.t 17))⟩]) .ret))))
theorem HX:Ar Try.prog 54=some ⟨18,EZ,[(.cell 4 true 2)]⟩:=by kernel_rfl
theorem Av:modes 54=⟨[],.half [none,some (26,2)],none,false⟩:=by unfold modes; rfl
def Fz:SC:=(.seq (.reg [⟨(some 2),none,(.alloc 26 [(.str ⟨#[]⟩),.nil])⟩]) (.seq (.reg [⟨(some 7),none,(.build [(.str ⟨#[]⟩),.nil] [(0,(1,(.c (.str ⟨#[103]⟩))))])⟩,⟨(some 3),none,(.alloc 26 [(.str ⟨#[]⟩),.nil])⟩,⟨none,none,(.store 2 (.t 3) (.t 7))⟩]) (.seq (.seq (.reg [⟨some 4,none,.mv (.c (.int .i64 0))⟩]) (.block 0 (.loop [1,0,1,1,1,0,0,0,0,0,0,0,0,0,0,0,0,0,0,0,0,0,0,0,0,0,0,0,0,0,0,0,0,0,0,0,0,0,0,0,0,0,0,0,0,0,0,0,0,0,0,0,0,0] (.seq (.seq (.reg [⟨some 8,none,.mv (.t 4)⟩,⟨some 9,none,.bin .lss false (.t 8) (.c (.int .i64 4))⟩]) (.cond (.t 9) .skip (.exit 0))) (.seq (.block 1 (.seq (.reg [⟨(some 12),none,(.build [(.str ⟨#[]⟩),.nil] [(0,(1,(.c (.str ⟨#[104]⟩))))])⟩,⟨(some 5),none,(.alloc 26 [(.str ⟨#[]⟩),.nil])⟩,⟨none,none,(.store 2 (.t 5) (.t 12))⟩]) (.seq (.seq (.reg [⟨some 6,none,.mv (.c (.int .i64 0))⟩]) (.block 2 (.loop [1,0,1,1,1,1,1,0,0,0,0,0,0,0,0,0,0,0,0,0,0,0,0,0,0,0,0,0,0,0,0,0,0,0,0,0,0,0,0,0,0,0,0,0,0,0,0,0,0,0,0,0,0,0] (.seq (.seq (.reg [⟨some 13,none,.mv (.t 6)⟩,⟨some 14,none,.bin .lss false (.t 13) (.c (.int .i64 4))⟩]) (.cond (.t 14) .skip (.exit 2))) (.seq (.block 3 (.reg [⟨some 17,none,.faddr 1 (.t 5)⟩,⟨some 18,none,.load false 1 (.t 17)⟩,⟨(some 19),none,(.build [(.str ⟨#[]⟩),.nil] [(0,(1,(.c (.str ⟨#[97]⟩))))])⟩,⟨(some 20),none,(.mkrow 26 2 [(.str ⟨#[]⟩),.nil] 1 [(0,(.t 19))])⟩,⟨(some 21),none,(.build [(.str ⟨#[]⟩),.nil] [(0,(1,(.c (.str ⟨#[102]⟩)))),(1,(1,(.t 20)))])⟩,⟨(some 22),none,(.mkrow 26 2 [(.str ⟨#[]⟩),.nil] 1 [(0,(.t 21))])⟩,⟨(some 23),none,(.append 26 2 40 [(.str ⟨#[]⟩),.nil] (.t 18) (.t 22))⟩,⟨some 24,none,.faddr 1 (.t 5)⟩,⟨none,none,(.store 1 (.t 24) (.t 23))⟩])) (.reg [⟨some 15,none,.mv (.t 6)⟩,⟨some 16,none,.bin .add false (.t 15) (.c (.int .i64 1))⟩,⟨some 6,none,.mv (.t 16)⟩])))))) (.reg [⟨some 25,none,.faddr 1 (.t 3)⟩,⟨some 26,none,.load false 1 (.t 25)⟩,⟨some 27,none,.load true 2 (.t 5)⟩,⟨(some 28),none,(.mkrow 26 2 [(.str ⟨#[]⟩),.nil] 1 [(0,(.t 27))])⟩,⟨(some 29),none,(.append 26 2 40 [(.str ⟨#[]⟩),.nil] (.t 26) (.t 28))⟩,⟨some 30,none,.faddr 1 (.t 3)⟩,⟨none,none,(.store 1 (.t 30) (.t 29))⟩])))) (.reg [⟨some 10,none,.mv (.t 4)⟩,⟨some 11,none,.bin .add false (.t 10) (.c (.int .i64 1))⟩,⟨some 4,none,.mv (.t 11)⟩])))))) (.seq (.seq (.reg [⟨some 31,none,.mv (.t 0)⟩,⟨some 32,none,.call 15 [(.t 31),(.c (.int .i64 2))]⟩]) (.cond (.t 32) (.reg [⟨some 33,none,.faddr 1 (.t 3)⟩,⟨some 34,none,.load false 1 (.t 33)⟩,⟨some 35,none,.slice false 2 (.t 34) none (some (.c (.int .i64 3)))⟩,⟨some 36,none,.faddr 1 (.t 3)⟩,⟨none,none,(.store 1 (.t 36) (.t 35))⟩]) .skip)) (.seq (.seq (.reg [⟨some 37,none,.mv (.t 0)⟩,⟨some 38,none,.call 15 [(.t 37),(.c (.int .i64 2))]⟩,⟨some 39,none,.mv (.t 38)⟩,⟨(some 40),(some (39,true)),(.faddr 1 (.t 3))⟩,⟨(some 41),(some (39,true)),(.load false 1 (.t 40))⟩,⟨(some 42),(some (39,true)),(.len false (.t 41))⟩,⟨(some 43),(some (39,true)),(.bin .eql false (.t 42) (.c (.int .i64 3)))⟩,⟨some 44,none,.pick (.t 39) (.t 43) (.c (.bool false))⟩]) (.cond (.t 44) (.reg [⟨some 45,none,.faddr 1 (.t 3)⟩,⟨some 46,none,.load false 1 (.t 45)⟩,⟨(some 47),none,(.build [(.str ⟨#[]⟩),.nil] [(0,(1,(.c (.str ⟨#[98]⟩))))])⟩,⟨(some 48),none,(.mkrow 26 2 [(.str ⟨#[]⟩),.nil] 1 [(0,(.t 47))])⟩,⟨(some 49),none,(.build [(.str ⟨#[]⟩),.nil] [(0,(1,(.c (.str ⟨#[102]⟩)))),(1,(1,(.t 48)))])⟩,⟨(some 50),none,(.mkrow 26 2 [(.str ⟨#[]⟩),.nil] 1 [(0,(.t 49))])⟩,⟨(some 51),none,(.append 26 2 40 [(.str ⟨#[]⟩),.nil] (.t 46) (.t 50))⟩,⟨some 52,none,.faddr 1 (.t 3)⟩,⟨none,none,(.store 1 (.t 52) (.t 51))⟩]) .skip)) (.seq (.reg [⟨some 53,none,.load true 2 (.t 3)⟩,⟨none,none,(.store 2 (.t 2) (.t 53))⟩]) .ret))))))
theorem I5:Ar Try.prog 55=some ⟨54,Fz,[(.cell 2 true 2)]⟩:=by kernel_rfl
theorem B4:modes 55=⟨[],.half [none,some (26,2)],none,false⟩:=by unfold modes; rfl
def Bi:SC:=(.seq (.reg [⟨(some 2),none,(.alloc 26 [(.str ⟨#[]⟩),.nil])⟩]) (.seq (.reg [⟨some 4,none,.mv (.t 0)⟩,⟨some 5,none,.call 19 [(.t 4)]⟩,⟨(some 3),none,(.alloc 26 [(.str ⟨#[]⟩),.nil])⟩,⟨none,none,(.store 2 (.t 3) (.t 5))⟩]) (.seq (.seq (.reg [⟨some 6,none,.mv (.t 0)⟩,⟨some 7,none,.call 20 [(.t 6),(.c (.int .i64 24))]⟩]) (.block 0 (.seq (.reg [⟨some 9,none,.bin .eql false (.t 7) (.c (.int .i64 0))⟩,⟨some 8,none,.mv (.t 9)⟩]) (.cond (.t 8) (.reg [⟨some 10,none,.mv (.t 0)⟩,⟨(some 11),none,(.mkrow 9 1 [(.str ⟨#[]⟩)] 14 [(0,(.c (.str ⟨#[]⟩))),(1,(.c (.str ⟨#[116,114,117,101]⟩))),(2,(.c (.str ⟨#[116,114,117,116,104]⟩))),(3,(.c (.str ⟨#[105,102]⟩))),(4,(.c (.str ⟨#[88,121,122,57]⟩))),(5,(.c (.str ⟨#[88,121,122,57,57]⟩))),(6,(.c (.str ⟨#[120,65]⟩))),(7,(.c (.str ⟨#[97,95,98]⟩))),(8,(.c (.str ⟨#[97,98,99,100,101,102]⟩))),(9,(.c (.str ⟨#[97,98,99,100,101,102,103]⟩))),(10,(.c (.str ⟨#[95,97]⟩))),(11,(.c (.str ⟨#[57]⟩))),(12,(.c (.str ⟨#[88,95]⟩))),(13,(.c (.str ⟨#[61]⟩)))])⟩,⟨some 12,none,.call 52 [(.t 10),(.t 11)]⟩,⟨some 13,none,.faddr 0 (.t 3)⟩,⟨none,none,(.store 1 (.t 13) (.t 12))⟩]) (.seq (.reg [⟨some 15,none,.bin .eql false (.t 7) (.c (.int .i64 1))⟩,⟨some 14,none,.mv (.t 15)⟩]) (.cond (.t 14) (.seq (.reg [⟨some 16,none,.mv (.t 0)⟩,⟨some 17,none,.mv (.t 0)⟩,⟨some 18,none,.call 20 [(.t 17),(.c (.int .i64 3))]⟩,⟨some 19,none,.bin .add false (.c (.int .i64 7)) (.t 18)⟩,⟨some 20,none,.call 54 [(.t 16),(.t 19)]⟩,⟨none,none,(.store 2 (.t 2) (.t 20))⟩]) .ret) (.seq (.reg [⟨some 22,none,.bin .eql false (.t 7) (.c (.int .i64 2))⟩,⟨some 21,none,.mv (.t 22)⟩]) (.cond (.t 21) (.seq (.reg [⟨some 23,none,.mv (.t 0)⟩,⟨some 24,none,.call 55 [(.t 23)]⟩,⟨none,none,(.store 2 (.t 2) (.t 24))⟩]) .ret) (.seq (.reg [⟨some 26,none,.bin .eql false (.t 7) (.c (.int .i64 3))⟩,⟨some 25,none,.mv (.t 26)⟩]) (.cond (.t 25) (.dreg [[],[0],[],[2],[],[4,3,2],[],[6,5,4,3,2],[3,2,5,4,7,6],[1,0,8,3,2,5,4,7,6],[0,1,2,3,4,5,6,7,8,9],[10,0,1,2,3,4,5,6,7,8,9]] [⟨some 27,none,.faddr 1 (.t 3)⟩,⟨some 28,none,.load false 1 (.t 27)⟩,⟨some 29,none,.mv (.t 0)⟩,⟨some 30,none,.call 19 [(.t 29)]⟩,⟨some 31,none,.mv (.t 0)⟩,⟨some 32,none,.call 19 [(.t 31)]⟩,⟨some 33,none,.mv (.t 0)⟩,⟨some 34,none,.call 19 [(.t 33)]⟩,⟨(some 35),none,(.mkrow 26 2 [(.str ⟨#[]⟩),.nil] 3 [(0,(.t 30)),(1,(.t 32)),(2,(.t 34))])⟩,⟨(some 36),none,(.append 26 2 40 [(.str ⟨#[]⟩),.nil] (.t 28) (.t 35))⟩,⟨some 37,none,.faddr 1 (.t 3)⟩,⟨none,none,(.store 1 (.t 37) (.t 36))⟩]) (.seq (.reg [⟨some 39,none,.bin .eql false (.t 7) (.c (.int .i64 4))⟩,⟨some 38,none,.mv (.t 39)⟩]) (.cond (.t 38) (.seq (.reg [⟨some 40,none,.faddr 1 (.t 3)⟩,⟨some 41,none,.load false 1 (.t 40)⟩,⟨some 42,none,.len false (.t 41)⟩,⟨some 43,none,.bin .gtr false (.t 42) (.c (.int .i64 0))⟩]) (.cond (.t 43) (.dreg [[],[0],[],[],[2,3],[],[5],[6,5],[7,6,5],[8,7,6,5],[4,2,3,9,8,7,6,5],[1,0,2,3,4,5,6,7,8,9,10],[11,1,0,2,3,4,5,6,7,8,9,10]] [⟨some 44,none,.faddr 1 (.t 3)⟩,⟨some 45,none,.load false 1 (.t 44)⟩,⟨some 46,none,.mv (.t 0)⟩,⟨(some 47),none,(.mkrow 9 1 [(.str ⟨#[]⟩)] 4 [(0,(.c (.str ⟨#[61]⟩))),(1,(.c (.str ⟨#[]⟩))),(2,(.c (.str ⟨#[81,49]⟩))),(3,(.c (.str ⟨#[98,50]⟩)))])⟩,⟨some 48,none,.call 52 [(.t 46),(.t 47)]⟩,⟨some 49,none,.faddr 1 (.t 3)⟩,⟨some 50,none,.load false 1 (.t 49)⟩,⟨some 51,none,.iaddr 2 (.t 50) (.c (.int .i64 0))⟩,⟨some 52,none,.faddr 1 (.t 51)⟩,⟨some 53,none,.load false 1 (.t 52)⟩,⟨(some 54),none,(.build [(.str ⟨#[]⟩),.nil] [(0,(1,(.t 48))),(1,(1,(.t 53)))])⟩,⟨some 55,none,.iaddr 2 (.t 45) (.c (.int .i64 0))⟩,⟨none,none,(.store 2 (.t 55) (.t 54))⟩]) .skip)) .skip)))))))))))) (.seq (.reg [⟨some 56,none,.load true 2 (.t 3)⟩,⟨none,none,(.store 2 (.t 2) (.t 56))⟩]) .ret))))
theorem Bv:Ar Try.prog 31=some ⟨57,Bi,[(.cell 2 true 2)]⟩:=by kernel_rfl
theorem Am:modes 31=⟨[],.half [none,some (26,2)],none,false⟩:=by unfold modes; rfl
def Cd:SC:=(.seq (.reg [⟨(some 2),none,(.alloc 26 [(.str ⟨#[]⟩),.nil])⟩]) (.seq (.seq (.reg [⟨some 4,none,.mv (.t 0)⟩,⟨some 5,none,.call 15 [(.t 4),(.c (.int .i64 3))]⟩]) (.cond (.t 5) (.seq (.reg [⟨some 6,none,.mv (.t 0)⟩,⟨some 7,none,.call 30 [(.t 6)]⟩,⟨(some 3),none,(.alloc 26 [(.str ⟨#[]⟩),.nil])⟩,⟨none,none,(.store 2 (.t 3) (.t 7))⟩]) (.seq (.seq (.reg [⟨some 8,none,.mv (.t 0)⟩,⟨some 9,none,.call 15 [(.t 8),(.c (.int .i64 12))]⟩]) (.cond (.t 9) (.dreg [[],[0],[],[2],[3,2],[1,0,4,3,2],[0,1,2,3,4,5],[6,0,1,2,3,4,5]] [⟨some 10,none,.faddr 1 (.t 3)⟩,⟨some 11,none,.load false 1 (.t 10)⟩,⟨some 12,none,.mv (.t 0)⟩,⟨some 13,none,.call 19 [(.t 12)]⟩,⟨(some 14),none,(.mkrow 26 2 [(.str ⟨#[]⟩),.nil] 1 [(0,(.t 13))])⟩,⟨(some 15),none,(.append 26 2 40 [(.str ⟨#[]⟩),.nil] (.t 11) (.t 14))⟩,⟨some 16,none,.faddr 1 (.t 3)⟩,⟨none,none,(.store 1 (.t 16) (.t 15))⟩]) .skip)) (.seq (.reg [⟨some 17,none,.load true 2 (.t 3)⟩,⟨none,none,(.store 2 (.t 2) (.t 17))⟩]) .ret))) .skip)) (.seq (.reg [⟨some 18,none,.mv (.t 0)⟩,⟨some 19,none,.call 31 [(.t 18)]⟩,⟨none,none,(.store 2 (.t 2) (.t 19))⟩]) .ret)))
theorem C8:Ar Try.prog 14=some ⟨20,Cd,[(.cell 2 true 2)]⟩:=by kernel_rfl
theorem A5:modes 14=⟨[],.half [none,some (26,2)],none,false⟩:=by unfold modes; rfl
def twr (x:ByteArray):Nat→Tm
 | 0=>.mk x []
 | k+1=>.mk ⟨#[102]⟩ [twr x k]
theorem M5 (x:ByteArray):∀ k,(twr x k).nodes=k+1
 | 0=>by rw [twr,Tm.Aj]; rfl
 | k+1=>by
  have:(twr x (k+1)).nodes=1+((twr x k).nodes+0):=by rw [twr,Tm.Aj]; rfl
  rw [this,M5 x k]; omega
theorem Vf (x:ByteArray):[[OT.str x,OT.ow []]]=[Tm.mk x []].map Tm.o:=by rw [zB,zL,Tm.Hz]; rfl
theorem WF (x:ByteArray) (l:List Tm):[[OT.str x,OT.ow (l.map Tm.o)]]=[Tm.mk x l].map Tm.o:=by rw [zB,zL,Tm.Hz]; rfl
theorem Tm.U8 (x:Tm):OT.G2 x.o=x.osh:=by
 have:=Tm.Py [x]
 simp only [zB,zL,OT.BB,zR,and_true] at this
 exact this
theorem Tm.U9 (x:Tm):OT.Ck x.o=true:=by
 have:=Tm.fus [x]
 simp only [zB,zL,OT.Aq,zT] at this
 exact this
theorem Tm.E3 (x:Tm):x.o.length=2:=by rw [Tm.Hz]; rfl
abbrev tZ:Ob:=.box 26 [.str ⟨#[]⟩,.nil]
theorem Qm (l:List Int) (hl:Bytes l) (hn:l.length≤1099511627776) (m:Int) (hm:1≤m) (hm2:m≤100) (p s:Int) (h0:0≤p) (h1:p≤1099000000000):∃ t p' s',E 54 [.ptr 0 0,.int .i64 m] [cur l p s]=some (tmH t 1,[cur l p' s',Jg t])∧(p≤p'∧p'≤p+1)∧t.nodes≤150:=by
 obtain ⟨Q,hQ⟩:∃ Q:SV × List Ob→Prop,Q=fun out=>∃ t p' s',out=(tmH t 1,[cur l p' s',Jg t])∧(p≤p'∧p'≤p+1)∧t.nodes≤150:=⟨_,rfl⟩
 suffices hq0:∃ out,E 54 [.ptr 0 0,.int .i64 m] [cur l p s]=some out∧Q out by
  obtain ⟨out,hq1,hq2⟩:=hq0
  rw [hQ] at hq2
  obtain ⟨t,p',s',rfl,hq3⟩:=hq2
  exact ⟨t,p',s',hq1,hq3⟩
 obtain ⟨x,p1,s1,ho,_,g1,g2⟩:=SK l hl hn [⟨#[88]⟩,⟨#[97]⟩] (by decide) (by decide) p s h0 (by omega)
 simp only [zB,zL] at ho
 refine AH HX Av (of_decide_eq_true rfl) ?_
 simp (disch:=omega) only [EZ,go_sem,Aa,ho,Au]
 refine go_loop (α:=Nat) (fun k=>⟨slots 18 0 [(1,.int .i64 (m-(k:Nat))),(4,.ptr 1 0),(5,.ptr 2 0)],(if k=0 then [cur l p1 s1,tZ,.box 26 [.str x,.nil]] else [cur l p1 s1,tZ,.box 26 [.str ⟨#[102]⟩,.ref 3],.row 26 2 ([twr x (k-1)].map Tm.o)])⟩) (fun k=>(k:Int)≤m-1) (fun k=>(m-k).toNat) 0 (by omega) (by simp (disch:=omega) only [go_sem,Aa,eq_self,if_true,Int.natCast_zero,Int.sub_zero]) ?_
 intro k hk
 by_cases hlt:1<m-(k:Int)
 ·have q1:(1<m-(k:Int))=True:=eq_true hlt
  have hi:dec (inK .i64 (m-(k:Int)-1))=true:=Gr (by omega) (by omega)
  have q4:m-(k:Int)-1=m-((k+1:Nat):Int):=by omega
  have q5:(k+1=0)=False:=by simp
  have q6:k+1-1=k:=by omega
  rcases zJ k with hk0 | hk0
  ·subst hk0
   have hs:=Vf x
   have q7:m-((0:Nat):Int)-1=m-((0+1:Nat):Int):=by omega
   simp (disch:=omega) only [go_sem,Aa,q1,hi,eq_self,if_true]
   refine ⟨0+1,by omega,by omega,?_⟩
   simp (disch:=omega) only [go_sem,Aa,q5,if_false,q7]
   first | rfl | (rw [hs]; rfl)
  ·obtain ⟨j,rfl⟩:∃ j,k=j+1:=⟨k-1,by omega⟩
   have hs:=WF ⟨#[102]⟩ [twr x j]
   have q8:(j+1=0)=False:=by simp
   have q9:j+1-1=j:=by omega
   simp (disch:=omega) only [go_sem,Aa,q1,hi,q8,q9,if_false]
   refine ⟨j+1+1,by omega,by omega,?_⟩
   simp (disch:=omega) only [go_sem,Aa,q5,q6,if_false,q4]
   first | rfl | (rw [hs]; rfl)
 ·have q1:(1<m-(k:Int))=False:=eq_false hlt
  have hnd:=M5 x k
  rcases zJ k with hk0 | hk0
  ·subst hk0
   simp (disch:=omega) only [go_sem,Aa,q1,eq_self,if_true]
   rw [hQ]
   exact ⟨twr x 0,p1,s1,rfl,by omega,by omega⟩
  ·obtain ⟨j,rfl⟩:∃ j,k=j+1:=⟨k-1,by omega⟩
   have q8:(j+1=0)=False:=by simp
   have q9:j+1-1=j:=by omega
   have hh:=Tm.U8 (twr x j)
   have hf:=Tm.U9 (twr x j)
   simp (disch:=omega) only [go_sem,Aa,q1,q8,q9,if_false,hh,hf]
   rw [hQ]
   exact ⟨twr x (j+1),p1,s1,rfl,by omega,by omega⟩
def wdF:Tm:=.mk ⟨#[102]⟩ [.mk ⟨#[97]⟩ []]
def wdP:Tm:=.mk ⟨#[104]⟩ (zE 4 wdF)
theorem E4:[OT.str ⟨#[102]⟩,OT.ow [[OT.str ⟨#[97]⟩,OT.ow []]]]=wdF.o:=by
 rw [wdF,Tm.Hz]
 show _=[OT.str ⟨#[102]⟩,OT.ow ([Tm.mk ⟨#[97]⟩ []].map Tm.o)]
 rw [←Vf]
theorem E5:[OT.str ⟨#[104]⟩,OT.ow [wdF.o,wdF.o,wdF.o,wdF.o]]=wdP.o:=by rw [wdP,Tm.Hz]; rfl
theorem Lh {α β:Type} (f:α→β) (x:α) (n:Nat):(zE n x).map f++[f x]=(zE (n+1) x).map f:=by
 rw [List.replicate_succ',z2]; rfl
theorem Rj:wdF.nodes=2:=by rw [wdF,Tm.Aj]; show 1+((Tm.mk _ []).nodes+0)=2; rw [Tm.Aj]; rfl
theorem Jh:wdP.nodes=9:=by
 rw [wdP,Tm.Aj]
 show 1+(wdF.nodes+(wdF.nodes+(wdF.nodes+(wdF.nodes+0))))=9
 rw [Rj]
theorem Wi (l:List Int) (hl:Bytes l) (hn:l.length≤1099511627776) (p s:Int) (h0:0≤p) (h1:p≤1099000000000):∃ t p' s',E 55 [.ptr 0 0] [cur l p s]=some (tmH t 1,[cur l p' s',Jg t])∧(p≤p'∧p'≤p+2)∧t.nodes≤150:=by
 obtain ⟨Q,hQ⟩:∃ Q:SV × List Ob→Prop,Q=fun out=>∃ t p' s',out=(tmH t 1,[cur l p' s',Jg t])∧(p≤p'∧p'≤p+2)∧t.nodes≤150:=⟨_,rfl⟩
 suffices hq0:∃ out,E 55 [.ptr 0 0] [cur l p s]=some out∧Q out by
  obtain ⟨out,hq1,hq2⟩:=hq0
  rw [hQ] at hq2
  obtain ⟨t,p',s',rfl,hq3⟩:=hq2
  exact ⟨t,p',s',hq1,hq3⟩
 have h10:((1:Int)=0)=False:=by simp
 refine AH I5 B4 (of_decide_eq_true rfl) ?_
 simp (disch:=omega) only [Fz,go_sem,Aa]
 refine go_loop (α:=Int) (fun i=>⟨slots 54 0 [(0,.ptr 0 0),(2,.ptr 1 0),(3,.ptr 2 0),(4,.int .i64 i)],(if i=0 then [cur l p s,tZ,.box 26 [.str ⟨#[103]⟩,.nil]] else [cur l p s,tZ,.box 26 [.str ⟨#[103]⟩,.ref 3],.row 26 2 ((zE i.toNat wdP).map Tm.o)])⟩) (fun i=>∃ k:Nat,i=k∧k≤4) (fun i=>(4-i).toNat) 0 ⟨0,rfl,by omega⟩ (by simp (disch:=omega) only [go_sem,Aa,eq_self,if_true]) ?_
 rintro i ⟨k,hi,hk⟩
 have hni:i.toNat=k:=by omega
 have hni1:(i+1).toNat=k+1:=by omega
 rcases zD k 4 with hlt | hge
 ·have q1:(i<4)=True:=eq_true (by omega)
  have hi1:(i+1=0)=False:=by simp; omega
  have hsP:=Lh Tm.o wdP k
  rcases zJ k with hk0 | hk0
  ·subst hk0
   obtain rfl:i=0:=hi
   simp (disch:=omega) only [go_sem,Aa,q1,eq_self,if_true,E4,E5,zC,Tm.E3]
   refine go_loop (α:=Int) (fun j=>⟨slots 54 0 [(0,.ptr 0 0),(2,.ptr 1 0),(3,.ptr 2 0),(4,.int .i64 0),(5,.ptr 3 0),(6,.int .i64 j)],(if (0:Int)=0 then (if j=0 then [cur l p s,tZ,.box 26 [.str ⟨#[103]⟩,.nil],.box 26 [.str ⟨#[104]⟩,.nil]] else [cur l p s,tZ,.box 26 [.str ⟨#[103]⟩,.nil],.box 26 [.str ⟨#[104]⟩,.ref 4],.row 26 2 ((zE j.toNat wdF).map Tm.o)]) else (if j=0 then [cur l p s,tZ,.box 26 [.str ⟨#[103]⟩,.ref 4],.box 26 [.str ⟨#[104]⟩,.nil],.row 26 2 ((zE (0:Int).toNat wdP).map Tm.o)] else [cur l p s,tZ,.box 26 [.str ⟨#[103]⟩,.ref 4],.box 26 [.str ⟨#[104]⟩,.ref 5],.row 26 2 ((zE (0:Int).toNat wdP).map Tm.o),.row 26 2 ((zE j.toNat wdF).map Tm.o)]))⟩) (fun j=>∃ k:Nat,j=k∧k≤4) (fun j=>(4-j).toNat) 0 ⟨0,rfl,by omega⟩ (by simp (disch:=omega) only [go_sem,Aa,eq_self,if_true,E4,E5,zC,Tm.E3]) ?_
   rintro j ⟨n,hj,hn4⟩
   have hnj:j.toNat=n:=by omega
   have hnj1:(j+1).toNat=n+1:=by omega
   have hj1:(j+1=0)=False:=by simp; omega
   rcases zD n 4 with hlt2 | hge2
   ·have q2:(j<4)=True:=eq_true (by omega)
    have hsF:=Lh Tm.o wdF n
    rcases zJ n with hn0 | hn0
    ·subst hn0
     obtain rfl:j=0:=hj
     simp (disch:=omega) only [go_sem,Aa,q2,eq_self,if_true,E4,E5,zC,Tm.E3]
     refine ⟨1,⟨1,rfl,by omega⟩,by omega,?_⟩
     simp (disch:=omega) only [go_sem,Aa,eq_self,if_true,h10,if_false,E4,E5,zC,Tm.E3]
    ·have hj0:(j=0)=False:=by simp; omega
     simp (disch:=omega) only [go_sem,Aa,q2,eq_self,if_true,hj0,if_false,hnj,E4,E5,zC,Tm.E3]
     refine ⟨j+1,⟨n+1,by omega,by omega⟩,by omega,?_⟩
     simp (disch:=omega) only [go_sem,Aa,eq_self,if_true,hj1,if_false,hnj,hnj1,hsF,E4,E5,zC,Tm.E3]
   ·obtain rfl:n=4:=by omega
    have hj4:j=4:=hj
    subst hj4
    have q2:((4:Int)=0)=False:=by simp
    simp (disch:=omega) only [go_sem,Aa,q2,eq_self,if_true,if_false,E4,E5,zC,Tm.E3]
    refine ⟨1,⟨1,rfl,by omega⟩,by omega,?_⟩
    simp (disch:=omega) only [go_sem,Aa,h10,if_false,E4,E5,zC,Tm.E3]
  ·have hi0:(i=0)=False:=by simp; omega
   simp (disch:=omega) only [go_sem,Aa,q1,hi0,if_false,E4,E5,zC,Tm.E3]
   refine go_loop (α:=Int) (fun j=>⟨slots 54 0 [(0,.ptr 0 0),(2,.ptr 1 0),(3,.ptr 2 0),(4,.int .i64 i),(5,.ptr 3 0),(6,.int .i64 j)],(if i=0 then (if j=0 then [cur l p s,tZ,.box 26 [.str ⟨#[103]⟩,.nil],.box 26 [.str ⟨#[104]⟩,.nil]] else [cur l p s,tZ,.box 26 [.str ⟨#[103]⟩,.nil],.box 26 [.str ⟨#[104]⟩,.ref 4],.row 26 2 ((zE j.toNat wdF).map Tm.o)]) else (if j=0 then [cur l p s,tZ,.box 26 [.str ⟨#[103]⟩,.ref 4],.box 26 [.str ⟨#[104]⟩,.nil],.row 26 2 ((zE i.toNat wdP).map Tm.o)] else [cur l p s,tZ,.box 26 [.str ⟨#[103]⟩,.ref 4],.box 26 [.str ⟨#[104]⟩,.ref 5],.row 26 2 ((zE i.toNat wdP).map Tm.o),.row 26 2 ((zE j.toNat wdF).map Tm.o)]))⟩) (fun j=>∃ k:Nat,j=k∧k≤4) (fun j=>(4-j).toNat) 0 ⟨0,rfl,by omega⟩ (by simp (disch:=omega) only [go_sem,Aa,hi0,if_false,eq_self,if_true,E4,E5,zC,Tm.E3]) ?_
   rintro j ⟨n,hj,hn4⟩
   have hnj:j.toNat=n:=by omega
   have hnj1:(j+1).toNat=n+1:=by omega
   have hj1:(j+1=0)=False:=by simp; omega
   rcases zD n 4 with hlt2 | hge2
   ·have q2:(j<4)=True:=eq_true (by omega)
    have hsF:=Lh Tm.o wdF n
    rcases zJ n with hn0 | hn0
    ·subst hn0
     obtain rfl:j=0:=hj
     simp (disch:=omega) only [go_sem,Aa,q2,hi0,if_false,eq_self,if_true,E4,E5,zC,Tm.E3]
     refine ⟨1,⟨1,rfl,by omega⟩,by omega,?_⟩
     simp (disch:=omega) only [go_sem,Aa,hi0,h10,if_false,E4,E5,zC,Tm.E3]
    ·have hj0:(j=0)=False:=by simp; omega
     simp (disch:=omega) only [go_sem,Aa,q2,hi0,hj0,if_false,hnj,E4,E5,zC,Tm.E3]
     refine ⟨j+1,⟨n+1,by omega,by omega⟩,by omega,?_⟩
     simp (disch:=omega) only [go_sem,Aa,hi0,hj1,if_false,hnj,hnj1,hsF,E4,E5,zC,Tm.E3]
   ·obtain rfl:n=4:=by omega
    have hj4:j=4:=hj
    subst hj4
    have q2:((4:Int)=0)=False:=by simp
    simp (disch:=omega) only [go_sem,Aa,q2,hi0,if_false,hni,E4,E5,zC,Tm.E3]
    refine ⟨i+1,⟨k+1,by omega,by omega⟩,by omega,?_⟩
    simp (disch:=omega) only [go_sem,Aa,hi1,if_false,hni1,hsP,E4,E5,zC,Tm.E3]
 ·obtain rfl:k=4:=by omega
  have hi4:i=4:=hi
  subst hi4
  have q2:((4:Int)=0)=False:=by simp
  obtain ⟨b1,p1,s1,hb1,g1,g2⟩:=I1 l hl hn 2 (by omega) (by omega) p s h0 (by omega)
  obtain ⟨b2,p2,s2,hb2,g3,g4⟩:=I1 l hl hn 2 (by omega) (by omega) p1 s1 (by omega) (by omega)
  have n4:(Tm.mk ⟨#[103]⟩ (zE 4 wdP)).nodes=37:=by
   rw [Tm.Aj]
   show 1+(wdP.nodes+(wdP.nodes+(wdP.nodes+(wdP.nodes+0))))=37
   rw [Jh]
  have n3:(Tm.mk ⟨#[103]⟩ (zE 3 wdP)).nodes=28:=by
   rw [Tm.Aj]
   show 1+(wdP.nodes+(wdP.nodes+(wdP.nodes+0)))=28
   rw [Jh]
  have n5:(Tm.mk ⟨#[103]⟩ (zE 3 wdP++[.mk ⟨#[102]⟩ [.mk ⟨#[98]⟩ []]])).nodes=30:=by
   rw [Tm.Aj]
   show 1+(wdP.nodes+(wdP.nodes+(wdP.nodes+((Tm.mk _ [.mk _ []]).nodes+0))))=30
   rw [Jh,Tm.Aj]
   show 1+(9+(9+(9+(1+((Tm.mk _ []).nodes+0)+0))))=30
   rw [Tm.Aj]; rfl
  cases b1 <;> cases b2
  ·simp (disch:=omega) only [go_sem,Aa,q2,if_false,hb1,hb2,Ak]
   rw [hQ]
   exact ⟨.mk ⟨#[103]⟩ (zE 4 wdP),p2,s2,rfl,by omega,by omega⟩
  ·simp (disch:=omega) only [go_sem,Aa,q2,if_false,hb1,hb2,Ak]
   rw [hQ]
   exact ⟨.mk ⟨#[103]⟩ (zE 4 wdP),p2,s2,rfl,by omega,by omega⟩
  ·simp (disch:=omega) only [go_sem,Aa,q2,if_false,hb1,hb2,Ak]
   rw [hQ]
   exact ⟨.mk ⟨#[103]⟩ (zE 3 wdP),p2,s2,rfl,by omega,by omega⟩
  ·simp (disch:=omega) only [go_sem,Aa,q2,if_false,hb1,hb2,Ak]
   rw [hQ]
   exact ⟨.mk ⟨#[103]⟩ (zE 3 wdP++[.mk ⟨#[102]⟩ [.mk ⟨#[98]⟩ []]]),p2,s2,rfl,by omega,by omega⟩
theorem SM (x:Tm) (hn:x.nodes≤1099511627776) (ih:∀ y∈x.args,E 36 [y.sv] []=some (y.osv,y.obs)):E 36 [x.sv] []=some (x.osv,x.obs):=by
 have hl:=Tm.length_le x.args
 have hne:=Tm.Aj x
 have h10:((1:Int)=0)=False:=by simp
 have hfu:=Tm.D5 x.args
 have her:=Tm.FA x.args
 refine Af Nm Cw (of_decide_eq_true rfl) ?_
 simp (disch:=omega) only [Iz,go_sem,Aa]
 refine go_loop (α:=Int) (fun a=>⟨slots 27 0 [(1,.ptr 0 0),(2,.ptr 1 0),(3,.ptr 2 0),(4,.int .i64 a)],(if a=0 then [.box 26 [.str x.name,.arr (x.args.map Tm.d)],.box 26 [.str ⟨#[]⟩,.nil],.box 26 [.str x.name,.nil]] else [.box 26 [.str x.name,.arr (x.args.map Tm.d)],.box 26 [.str ⟨#[]⟩,.nil],.box 26 [.str x.name,.ref 3],.row 26 2 ((x.args.take a.toNat).map Tm.o)])⟩) (fun a=>∃ k:Nat,a=k∧k≤(x.args).length) (fun a=>(x.args).length-(a).toNat) 0 ⟨0,rfl,zN _⟩ (by simp (disch:=omega) only [go_sem,Aa,eq_self,if_true]) ?_
 rintro i ⟨k,hi,hk⟩
 have hni:i.toNat=k:=by omega
 have hni1:(i+1).toNat=k+1:=by omega
 rcases zD k (x.args).length with hlt | hge
 ·have hg:=get_at Tm.d hlt
  rw [Tm.d_eq] at hg
  have hc:=ih x.args[k] (zH hlt)
  have hs:=Oq Tm.o hlt
  rw [Tm.Hz] at hs
  rcases zJ k with h0 | h0
  ·subst h0
   obtain rfl:i=0:=hi
   rw [yV,zL,yU] at hs
   simp (disch:=omega) only [go_sem,Aa,hni,hg,hc,Cw,eq_self,if_true,Tm.osv,Tm.obs]
   refine ⟨1,⟨1,rfl,hlt⟩,by omega,?_⟩
   simp (disch:=omega) only [go_sem,Aa,h10,if_false,hs]
  ·have hi0:(i=0)=False:=by simp; omega
   have hi1:(i+1=0)=False:=by simp; omega
   have htl:(x.args.take k).length=k:=by rw [List.length_take]; omega
   simp (disch:=omega) only [go_sem,Aa,hni,hg,hc,Cw,hi0,if_false,htl,Tm.osv,Tm.obs]
   refine ⟨i+1,⟨k+1,by omega,hlt⟩,by omega,?_⟩
   simp (disch:=omega) only [go_sem,Aa,hni1,hi1,if_false,hs]
 ·obtain rfl:k=x.args.length:=by omega
  have ht:x.args.take x.args.length=x.args:=List.take_length
  rcases zJ x.args.length with h0 | h0
  ·have hx:x.args=[]:=zF h0
   obtain rfl:i=0:=by omega
   simp (disch:=omega) only [go_sem,Aa,hni,hx,eq_self,if_true,zL,yA,Tm.osv,Tm.obs]
  ·have hi0:(i=0)=False:=by simp; omega
   simp (disch:=omega) only [go_sem,Aa,hni,hi0,if_false,ht,hfu,her,Tm.osv,Tm.obs]
theorem JY (x:Tm) (hn:x.nodes≤1099511627776):E 36 [x.sv] []=some (x.osv,x.obs) :=
 SM x hn fun y hy=>JY y (by have:=Tm.AU hy; have:=Tm.Aj x; omega)
termination_by SizeOf.sizeOf x
decreasing_by exact Tm.A8 hy
theorem Tm.CW (x:ByteArray) (l:List Tm):(Tm.mk x l).nodes=1+Tm.AK l:=Tm.Aj _
theorem Tm.Ji:∀ (a b:List Tm),Tm.AK (a++b)=Tm.AK a+Tm.AK b
 | [],b=>by simp [Tm.AK]
 | x :: a,b=>by simp only [z8,Tm.AK,Tm.Ji a b]; omega
theorem Tm.Wj (a b c:Tm):Tm.AK [a,b,c]=a.nodes+(b.nodes+(c.nodes+0)):=rfl
theorem Tm.Wk (a:Tm):Tm.AK [a]=a.nodes+0:=rfl
theorem Tm.M6:∀ (l:List Tm) (k:Nat) (w:Tm),Tm.AK (l.set k w)≤Tm.AK l+w.nodes
 | [],_,_=>by simp [Tm.AK]
 | x :: l,0,w=>by simp only [yC,Tm.AK]; omega
 | x :: l,k+1,w=>by
  have:=Tm.M6 l k w
  simp only [yD,Tm.AK]; omega
theorem Tm.GQ (t:Tm):t.args.length+1≤t.nodes:=by
 rw [Tm.Aj]
 have:=Tm.length_le t.args
 omega
theorem M7 (l:List Int) (hl:Bytes l) (hn:l.length≤1099511627776) (p s:Int) (h0:0≤p) (h1:p≤1096000000000):∃ t p' s',E 31 [.ptr 0 0] [cur l p s]=some (tmH t 1,[cur l p' s',Jg t])∧(p≤p'∧p'≤p+400)∧t.nodes≤150:=by
 obtain ⟨Q,hQ⟩:∃ Q:SV × List Ob→Prop,Q=fun out=>∃ t p' s',out=(tmH t 1,[cur l p' s',Jg t])∧(p≤p'∧p'≤p+400)∧t.nodes≤150:=⟨_,rfl⟩
 suffices hq0:∃ out,E 31 [.ptr 0 0] [cur l p s]=some out∧Q out by
  obtain ⟨out,hq1,hq2⟩:=hq0
  rw [hQ] at hq2
  obtain ⟨t,p',s',rfl,hq3⟩:=hq2
  exact ⟨t,p',s',hq1,hq3⟩
 obtain ⟨t,p1,s1,ht,⟨g1,g2⟩,g3⟩:=FB l hl hn p s h0 (by omega)
 obtain ⟨v,p2,s2,hv,⟨v0,v1⟩,g4,g5⟩:=EY l hl hn 24 (by omega) (by omega) p1 s1 (by omega) (by omega)
 have hal:=Tm.GQ t
 rcases (show v=0∨v=1∨v=2∨v=3∨v=4∨(¬ v=0∧¬ v=1∧¬ v=2∧¬ v=3∧¬ v=4) by omega) with rfl | rfl | rfl | rfl | rfl | ⟨k0,k1,k2,k3,k4⟩
 ·obtain ⟨x,p3,s3,ho,_,g6,g7⟩:=SK l hl hn [⟨#[]⟩,⟨#[116,114,117,101]⟩,⟨#[116,114,117,116,104]⟩,⟨#[105,102]⟩,⟨#[88,121,122,57]⟩,⟨#[88,121,122,57,57]⟩,⟨#[120,65]⟩,⟨#[97,95,98]⟩,⟨#[97,98,99,100,101,102]⟩,⟨#[97,98,99,100,101,102,103]⟩,⟨#[95,97]⟩,⟨#[57]⟩,⟨#[88,95]⟩,⟨#[61]⟩] (by decide) (by decide) p2 s2 (by omega) (by omega)
  simp only [zB,zL] at ho
  refine AH Bv Am (of_decide_eq_true rfl) ?_
  simp (disch:=omega) only [Bi,go_sem,Aa,ht,hv,ho,Ac,Ae,Au,Av,B4]
  rw [hQ]
  exact ⟨.mk x t.args,p3,s3,rfl,by omega,by rw [Tm.CW]; have:=Tm.Aj t; omega⟩
 ·obtain ⟨u,p3,s3,hu,⟨u0,u1⟩,g6,g7⟩:=EY l hl hn 3 (by omega) (by omega) p2 s2 (by omega) (by omega)
  have hi:dec (inK .i64 (7+u))=true:=Gr (by omega) (by omega)
  obtain ⟨t2,p4,s4,ho,⟨g8,g9⟩,g10⟩:=Qm l hl hn (7+u) (by omega) (by omega) p3 s3 (by omega) (by omega)
  refine AH Bv Am (of_decide_eq_true rfl) ?_
  simp (disch:=omega) only [Bi,go_sem,Aa,ht,hv,hu,hi,ho,Ac,Ae,Au,Av,B4]
  rw [hQ]
  exact ⟨t2,p4,s4,rfl,by omega,g10⟩
 ·obtain ⟨t2,p3,s3,ho,⟨g8,g9⟩,g10⟩:=Wi l hl hn p2 s2 (by omega) (by omega)
  refine AH Bv Am (of_decide_eq_true rfl) ?_
  simp (disch:=omega) only [Bi,go_sem,Aa,ht,hv,ho,Ac,Ae,Au,Av,B4]
  rw [hQ]
  exact ⟨t2,p3,s3,rfl,by omega,g10⟩
 ·obtain ⟨t2,p3,s3,hu,⟨a1,a2⟩,a3⟩:=FB l hl hn p2 s2 (by omega) (by omega)
  obtain ⟨t3,p4,s4,hw,⟨b1,b2⟩,b3⟩:=FB l hl hn p3 s3 (by omega) (by omega)
  obtain ⟨t4,p5,s5,hx,⟨c1,c2⟩,c3⟩:=FB l hl hn p4 s4 (by omega) (by omega)
  refine AH Bv Am (of_decide_eq_true rfl) ?_
  simp (disch:=omega) only [Bi,go_sem,Aa,ht,hv,hu,hw,hx,Ac,Ae,Au,Av,B4]
  rw [hQ]
  refine ⟨.mk t.name (t.args++[t2,t3,t4]),p5,s5,?_,by omega,by rw [Tm.CW,Tm.Ji,Tm.Wj]; have:=Tm.Aj t; omega⟩
  show _=(tmH (.mk t.name (t.args++[t2,t3,t4])) 1,[cur l p5 s5,.row 26 2 ((t.args++[t2,t3,t4]).map Tm.osh)])
  rw [z2]
  rfl
 ·rcases hc:t.args with _ | ⟨a0,ar⟩
  ·have q0:((0:Int)<(t.args.length:Int))=False:=eq_false (by rw [hc]; simp)
   rw [←hc] at *
   refine AH Bv Am (of_decide_eq_true rfl) ?_
   simp (disch:=omega) only [Bi,go_sem,Aa,ht,hv,q0,Ac,Ae,Au,Av,B4]
   rw [hQ]
   exact ⟨t,p2,s2,rfl,by omega,by omega⟩
  ·have q0:((0:Int)<(t.args.length:Int))=True:=eq_true (by rw [hc]; simp)
   obtain ⟨x,p3,s3,ho,_,g6,g7⟩:=SK l hl hn [⟨#[61]⟩,⟨#[]⟩,⟨#[81,49]⟩,⟨#[98,50]⟩] (by decide) (by decide) p2 s2 (by omega) (by omega)
   simp only [zB,zL] at ho
   have hm:t.args.map Tm.osh=[.str a0.name,.sh (a0.args.map Tm.d)] :: ar.map Tm.osh:=by rw [hc]; rfl
   have hgl:(t.args.map Tm.osh)[0]?=some [.str a0.name,.sh (a0.args.map Tm.d)]:=by rw [hm]; rfl
   have hst:∀ y,(t.args.map Tm.osh).set 0 y=y :: ar.map Tm.osh:=fun y=>by rw [hm]; rfl
   have q1:0<t.args.length:=by rw [hc]; simp
   have hnn:t.nodes=1+(a0.nodes+Tm.AK ar):=by rw [Tm.Aj,hc]; rfl
   refine AH Bv Am (of_decide_eq_true rfl) ?_
   simp (disch:=omega) only [Bi,go_sem,Aa,ht,hv,q0,ho,hgl,hst,q1,Ac,Ae,Au,Av,B4]
   rw [hQ]
   refine ⟨.mk t.name (.mk x a0.args :: ar),p3,s3,?_,by omega,?_⟩
   ·rfl
   ·rw [Tm.CW]
    show 1+((Tm.mk x a0.args).nodes+Tm.AK ar)≤_
    rw [Tm.CW]
    have:=Tm.Aj a0
    omega
 ·have k0:=eq_false k0
  have k1:=eq_false k1
  have k2:=eq_false k2
  have k3:=eq_false k3
  have k4:=eq_false k4
  refine AH Bv Am (of_decide_eq_true rfl) ?_
  simp (disch:=omega) only [Bi,go_sem,Aa,ht,hv,k0,k1,k2,k3,k4,Ac,Ae,Au,Av,B4]
  rw [hQ]
  exact ⟨t,p2,s2,rfl,by omega,by omega⟩
theorem I6 (l:List Int) (hl:Bytes l) (hn:l.length≤1099511627776) (p s:Int) (h0:0≤p) (h1:p≤1095000000000):∃ t p' s',E 14 [.ptr 0 0] [cur l p s]=some (tmH t 1,[cur l p' s',Jg t])∧(p≤p'∧p'≤p+500)∧t.nodes≤150:=by
 obtain ⟨Q,hQ⟩:∃ Q:SV × List Ob→Prop,Q=fun out=>∃ t p' s',out=(tmH t 1,[cur l p' s',Jg t])∧(p≤p'∧p'≤p+500)∧t.nodes≤150:=⟨_,rfl⟩
 suffices hq0:∃ out,E 14 [.ptr 0 0] [cur l p s]=some out∧Q out by
  obtain ⟨out,hq1,hq2⟩:=hq0
  rw [hQ] at hq2
  obtain ⟨t,p',s',rfl,hq3⟩:=hq2
  exact ⟨t,p',s',hq1,hq3⟩
 obtain ⟨b1,p1,s1,hb1,g1,g2⟩:=I1 l hl hn 3 (by omega) (by omega) p s h0 (by omega)
 cases b1 with
 | false =>
  obtain ⟨t2,p3,s3,ho,⟨g8,g9⟩,g10⟩:=M7 l hl hn p1 s1 (by omega) (by omega)
  refine AH C8 A5 (of_decide_eq_true rfl) ?_
  simp (disch:=omega) only [Cd,go_sem,Aa,hb1,ho,Ak,Ae,Bo,Am]
  rw [hQ]
  exact ⟨t2,p3,s3,rfl,by omega,g10⟩
 | true =>
  obtain ⟨t,p2,s2,ha,⟨g3,g4⟩,g5⟩:=Wh l hl hn p1 s1 (by omega) (by omega)
  obtain ⟨b2,p3,s3,hb2,g6,g7⟩:=I1 l hl hn 12 (by omega) (by omega) p2 s2 (by omega) (by omega)
  have hal:=Tm.GQ t
  cases b2 with
  | false =>
   refine AH C8 A5 (of_decide_eq_true rfl) ?_
   simp (disch:=omega) only [Cd,go_sem,Aa,hb1,ha,hb2,Ak,Ae,Bo,Am]
   rw [hQ]
   exact ⟨t,p3,s3,rfl,by omega,by omega⟩
  | true =>
   obtain ⟨t2,p4,s4,hu,⟨a1,a2⟩,a3⟩:=FB l hl hn p3 s3 (by omega) (by omega)
   refine AH C8 A5 (of_decide_eq_true rfl) ?_
   simp (disch:=omega) only [Cd,go_sem,Aa,hb1,ha,hb2,hu,Ak,Ae,Bo,Am]
   rw [hQ]
   refine ⟨.mk t.name (t.args++[t2]),p4,s4,?_,by omega,by rw [Tm.CW,Tm.Ji,Tm.Wk]; have:=Tm.Aj t; omega⟩
   show _=(tmH (.mk t.name (t.args++[t2])) 1,[cur l p4 s4,.row 26 2 ((t.args++[t2]).map Tm.osh)])
   rw [z2]
   rfl
def JD:SC:=(.seq (.reg [⟨some 1,none,.boxv 26 2 (.t 0)⟩,⟨some 2,none,.mv (.c (.int .i64 0))⟩]) (.seq (.reg [⟨some 3,none,.mv (.c (.int .i64 1))⟩]) (.seq (.seq (.reg [⟨some 6,none,.faddr 1 (.t 1)⟩,⟨some 7,none,.load false 1 (.t 6)⟩,⟨some 8,none,.len false (.t 7)⟩,⟨some 9,none,.mv (.c (.int .i64 0))⟩]) (.block 0 (.loop [0,0,0,1,0,0,0,1,1,1,0,0,0,0,0,0,0,0,0,0,0,0] (.seq (.reg [⟨some 10,none,.bin .lss false (.t 9) (.t 8)⟩]) (.seq (.cond (.t 10) .skip (.exit 0)) (.seq (.block 1 (.seq (.reg [⟨some 11,none,.iaddr 2 (.t 7) (.t 9)⟩,⟨some 12,none,.load true 2 (.t 11)⟩,⟨(some 5),none,(.alloc 26 [(.str ⟨#[]⟩),.nil])⟩,⟨none,none,(.store 2 (.t 5) (.t 12))⟩]) (.seq (.seq (.reg [⟨some 13,none,.mv (.t 3)⟩,⟨some 14,none,.bin .gtr false (.t 13) (.c (.int .i64 30))⟩]) (.cond (.t 14) (.seq (.reg [⟨some 15,none,.mv (.t 3)⟩,⟨some 2,none,.mv (.t 15)⟩]) .ret) .skip)) (.reg [⟨some 16,none,.mv (.t 3)⟩,⟨some 17,none,.load true 2 (.t 5)⟩,⟨some 18,none,.call 69 [(.t 17)]⟩,⟨some 19,none,.bin .add false (.t 16) (.t 18)⟩,⟨some 3,none,.mv (.t 19)⟩])))) (.reg [⟨some 20,none,.bin .add false (.t 9) (.c (.int .i64 1))⟩,⟨some 9,none,.mv (.t 20)⟩]))))))) (.seq (.reg [⟨some 21,none,.mv (.t 3)⟩,⟨some 2,none,.mv (.t 21)⟩]) .ret))))
theorem Ot:Ar Try.prog 69=some ⟨22,JD,[(.tmp 2)]⟩:=by kernel_rfl
theorem Er:modes 69=⟨[],.asis,none,false⟩:=by unfold modes; rfl
theorem UA (x:Tm) (hn:x.nodes≤1099511627776) (ih:∀ y∈x.args,E 69 [y.sv] []=some (.int .i64 y.cap,[])):E 69 [x.sv] []=some (.int .i64 x.cap,[]):=by
 have hl:=Tm.length_le x.args
 have hx:=Tm.Aj x
 rw [Tm.SJ]
 refine Af Ot Er (of_decide_eq_true rfl) ?_
 simp (disch:=omega) only [JD,go_sem,Aa]
 refine go_loop (α:=Int × Int) (fun a=>⟨slots 22 0 [(3,.int .i64 a.2),(7,.arr (x.args.map Tm.d)),(8,.int .i64 x.args.length),(9,.int .i64 a.1)],[]⟩) (fun a=>∃ k:Nat,a.1=k∧k≤x.args.length∧1≤a.2∧a.2+Tm.AK (x.args.drop k)≤x.nodes∧Tm.Je (x.args.drop k) a.2=Tm.Je x.args 1) (fun a=>x.args.length-a.1.toNat) (0,1) ⟨0,rfl,zN _,by dsimp only; omega,by rw [zY]; dsimp only; omega,rfl⟩ (by simp (disch:=omega) only [go_sem,Aa]) ?_
 rintro ⟨i,n⟩ ⟨k,hi,hk,hn0,hn1,hs⟩
 dsimp only at hi hn0 hn1 hs
 have hni:i.toNat=k:=by omega
 rcases zD k x.args.length with hlt | hge
 ·have hg:=get_at Tm.d hlt
  rw [Tm.d_eq] at hg
  have hd:x.args.drop k=x.args[k] :: x.args.drop (k+1):=zO hlt
  have hc:=ih x.args[k] (zH hlt)
  have hp:=Tm.Iy x.args[k]
  rw [hd,Tm.Je] at hs
  rw [hd,Tm.AK] at hn1
  rcases Int.lt_or_le 30 n with h30 | h30
  ·rw [if_pos h30] at hs
   simp (disch:=omega) only [go_sem,Aa,hni,hg,hc,Er]
   exact hs
  ·rw [if_neg (by omega)] at hs
   simp (disch:=omega) only [go_sem,Aa,hni,hg,hc,Er]
   refine ⟨(i+1,n+x.args[k].cap),⟨k+1,by dsimp only; omega,hlt,by dsimp only; omega,by dsimp only; omega,hs⟩,by dsimp only; omega,?_⟩
   simp only [and_self]
 ·have hd:x.args.drop k=[]:=zQ hge
  rw [hd,Tm.Je] at hs
  simp (disch:=omega) only [go_sem,Aa,hni]
  exact hs
theorem SN (x:Tm) (hn:x.nodes≤1099511627776):E 69 [x.sv] []=some (.int .i64 x.cap,[]) :=
 UA x hn fun y hy=>SN y (by have:=Tm.AU hy; have:=Tm.Aj x; omega)
termination_by SizeOf.sizeOf x
decreasing_by exact Tm.A8 hy
def H7:SC:=(.seq (.reg [⟨some 2,none,.boxv 26 2 (.t 0)⟩,⟨some 4,none,.mv (.c (.int .i64 0))⟩]) (.seq (.reg [⟨some 5,none,.mv (.c (.int .i64 1))⟩]) (.seq (.seq (.reg [⟨some 6,none,.mv (.c (.int .i64 0))⟩]) (.block 0 (.loop [0,1,1,0,0,1,1,0,0,0,0,0,0,0,0,0,0,0,0,0,0,0,0,0,0,0,0,0,0,0,0] (.seq (.seq (.reg [⟨some 7,none,.mv (.t 6)⟩,⟨some 8,none,.faddr 1 (.t 2)⟩,⟨some 9,none,.load false 1 (.t 8)⟩,⟨some 10,none,.len false (.t 9)⟩,⟨some 11,none,.bin .lss false (.t 7) (.t 10)⟩,⟨some 12,none,.mv (.t 11)⟩,⟨(some 13),(some (12,true)),(.mv (.t 5))⟩,⟨(some 14),(some (12,true)),(.mv (.t 1))⟩,⟨(some 15),(some (12,true)),(.bin .leq false (.t 13) (.t 14))⟩,⟨some 16,none,.pick (.t 12) (.t 15) (.c (.bool false))⟩]) (.cond (.t 16) .skip (.exit 0))) (.seq (.block 1 (.reg [⟨some 19,none,.mv (.t 5)⟩,⟨some 20,none,.faddr 1 (.t 2)⟩,⟨some 21,none,.load false 1 (.t 20)⟩,⟨some 22,none,.mv (.t 6)⟩,⟨some 23,none,.iaddr 2 (.t 21) (.t 22)⟩,⟨some 24,none,.load true 2 (.t 23)⟩,⟨some 25,none,.mv (.t 1)⟩,⟨some 26,none,.mv (.t 5)⟩,⟨some 27,none,.bin .sub false (.t 25) (.t 26)⟩,⟨some 28,none,.call 73 [(.t 24),(.t 27)]⟩,⟨some 29,none,.bin .add false (.t 19) (.t 28)⟩,⟨some 5,none,.mv (.t 29)⟩])) (.reg [⟨some 17,none,.mv (.t 6)⟩,⟨some 18,none,.bin .add false (.t 17) (.c (.int .i64 1))⟩,⟨some 6,none,.mv (.t 18)⟩])))))) (.seq (.reg [⟨some 30,none,.mv (.t 5)⟩,⟨some 4,none,.mv (.t 30)⟩]) .ret))))
theorem LH:Ar Try.prog 73=some ⟨31,H7,[(.tmp 4)]⟩:=by kernel_rfl
theorem Dr:modes 73=⟨[],.asis,none,false⟩:=by unfold modes; rfl
theorem UC (x:Tm) (m:Int) (hm:0≤m) (hm1:m≤1099511627776) (hn:x.nodes≤1099511627776) (ih:∀ y∈x.args,∀ m:Int,0≤m→m≤1099511627776→E 73 [y.sv,.int .i64 m] []=some (.int .i64 (y.many m),[])):E 73 [x.sv,.int .i64 m] []=some (.int .i64 (x.many m),[]):=by
 have hl:=Tm.length_le x.args
 have hx:=Tm.Aj x
 rw [Tm.Qj]
 refine Af LH Dr (of_decide_eq_true rfl) ?_
 simp (disch:=omega) only [H7,go_sem,Aa]
 refine go_loop (α:=Int × Int) (fun a=>⟨slots 31 0 [(1,.int .i64 m),(2,.ptr 0 0),(5,.int .i64 a.2),(6,.int .i64 a.1)],[.box 26 [.str x.name,.arr (x.args.map Tm.d)]]⟩) (fun a=>∃ k:Nat,a.1=k∧k≤x.args.length∧1≤a.2∧a.2+Tm.AK (x.args.drop k)≤x.nodes∧Tm.FZ (x.args.drop k) m a.2=Tm.FZ x.args m 1) (fun a=>x.args.length-a.1.toNat) (0,1) ⟨0,rfl,zN _,by dsimp only; omega,by rw [zY]; dsimp only; omega,rfl⟩ (by simp (disch:=omega) only [go_sem,Aa]) ?_
 rintro ⟨i,n⟩ ⟨k,hi,hk,hn0,hn1,hs⟩
 dsimp only at hi hn0 hn1 hs
 have hni:i.toNat=k:=by omega
 rcases zD k x.args.length with hlt | hge
 ·have hg:=get_at Tm.d hlt
  rw [Tm.d_eq] at hg
  have hd:x.args.drop k=x.args[k] :: x.args.drop (k+1):=zO hlt
  rw [hd,Tm.FZ] at hs
  rw [hd,Tm.AK] at hn1
  rcases Int.lt_or_le m n with h30 | h30
  ·rw [if_neg (by omega)] at hs
   simp (disch:=omega) only [go_sem,Aa,hni,hg,Dr]
   exact hs
  ·rw [if_pos h30] at hs
   have hc:=ih x.args[k] (zH hlt) (m-n) (by omega) (by omega)
   have hp:=Tm.Hu x.args[k] (m-n)
   simp (disch:=omega) only [go_sem,Aa,hni,hg,hc,Dr]
   refine ⟨(i+1,n+x.args[k].many (m-n)),⟨k+1,by dsimp only; omega,hlt,by dsimp only; omega,by dsimp only; omega,hs⟩,by dsimp only; omega,?_⟩
   simp only [and_self]
 ·have hd:x.args.drop k=[]:=zQ hge
  rw [hd,Tm.FZ] at hs
  simp (disch:=omega) only [go_sem,Aa,hni]
  exact hs
theorem SO (x:Tm) (m:Int) (hm:0≤m) (hm1:m≤1099511627776) (hn:x.nodes≤1099511627776):E 73 [x.sv,.int .i64 m] []=some (.int .i64 (x.many m),[]) :=
 UC x m hm hm1 hn fun y hy m hm hm1=>SO y m hm hm1 (by have:=Tm.AU hy; have:=Tm.Aj x; omega)
termination_by SizeOf.sizeOf x
decreasing_by exact Tm.A8 hy
def I7:SC:=(.seq (.reg [⟨some 1,none,.boxv 26 2 (.t 0)⟩,⟨some 2,none,.mv (.c (.int .i64 0))⟩]) (.seq (.reg [⟨some 3,none,.mv (.c (.int .i64 0))⟩]) (.seq (.seq (.reg [⟨some 6,none,.faddr 1 (.t 1)⟩,⟨some 7,none,.load false 1 (.t 6)⟩,⟨some 8,none,.len false (.t 7)⟩,⟨some 9,none,.mv (.c (.int .i64 0))⟩]) (.block 0 (.loop [0,0,0,1,0,0,0,1,1,1,0,0,0,0,0,0,0,0,0,0] (.seq (.reg [⟨some 10,none,.bin .lss false (.t 9) (.t 8)⟩]) (.seq (.cond (.t 10) .skip (.exit 0)) (.seq (.block 1 (.seq (.reg [⟨some 11,none,.iaddr 2 (.t 7) (.t 9)⟩,⟨some 12,none,.load true 2 (.t 11)⟩,⟨(some 5),none,(.alloc 26 [(.str ⟨#[]⟩),.nil])⟩,⟨none,none,(.store 2 (.t 5) (.t 12))⟩]) (.reg [⟨some 13,none,.mv (.t 3)⟩,⟨some 14,none,.load true 2 (.t 5)⟩,⟨some 15,none,.call 70 [(.t 14)]⟩,⟨some 16,none,.minmax true (.t 13) (.t 15)⟩,⟨some 3,none,.mv (.t 16)⟩]))) (.reg [⟨some 17,none,.bin .add false (.t 9) (.c (.int .i64 1))⟩,⟨some 9,none,.mv (.t 17)⟩]))))))) (.seq (.reg [⟨some 18,none,.mv (.t 3)⟩,⟨some 19,none,.bin .add false (.t 18) (.c (.int .i64 1))⟩,⟨some 2,none,.mv (.t 19)⟩]) .ret))))
theorem Np:Ar Try.prog 70=some ⟨20,I7,[(.tmp 2)]⟩:=by kernel_rfl
theorem E9:modes 70=⟨[],.asis,none,false⟩:=by unfold modes; rfl
def H8:SC:=(.seq (.reg [⟨some 4,none,.mv (.c (.int .i64 0))⟩]) (.seq (.seq (.reg [⟨some 5,none,.mv (.t 0)⟩,⟨some 6,none,.mv (.t 1)⟩,⟨some 7,none,.bin .gtr false (.t 5) (.t 6)⟩]) (.cond (.t 7) (.seq (.reg [⟨some 8,none,.mv (.t 0)⟩,⟨some 4,none,.mv (.t 8)⟩]) .ret) .skip)) (.seq (.reg [⟨some 9,none,.mv (.t 1)⟩,⟨some 4,none,.mv (.t 9)⟩]) .ret)))
theorem LI:Ar Try.prog 85=some ⟨10,H8,[(.tmp 4)]⟩:=by kernel_rfl
theorem H9:modes 85=⟨[],.asis,none,false⟩:=by unfold modes; rfl
def GR:SC:=(.seq (.reg [⟨some 1,none,.boxv 26 2 (.t 0)⟩,⟨some 2,none,.mv (.c (.int .i64 0))⟩]) (.seq (.reg [⟨some 3,none,.mv (.c (.int .i64 0))⟩]) (.seq (.seq (.reg [⟨some 4,none,.mv (.c (.int .i64 0))⟩]) (.block 0 (.loop [0,1,0,1,1,0,0,0,0,0,0,0,0,0,0,0,0,0,0,0,0,0] (.seq (.seq (.reg [⟨some 5,none,.mv (.t 4)⟩,⟨some 6,none,.faddr 1 (.t 1)⟩,⟨some 7,none,.load false 1 (.t 6)⟩,⟨some 8,none,.len false (.t 7)⟩,⟨some 9,none,.bin .lss false (.t 5) (.t 8)⟩]) (.cond (.t 9) .skip (.exit 0))) (.seq (.block 1 (.reg [⟨some 12,none,.mv (.t 3)⟩,⟨some 13,none,.faddr 1 (.t 1)⟩,⟨some 14,none,.load false 1 (.t 13)⟩,⟨some 15,none,.mv (.t 4)⟩,⟨some 16,none,.iaddr 2 (.t 14) (.t 15)⟩,⟨some 17,none,.load true 2 (.t 16)⟩,⟨some 18,none,.call 74 [(.t 17)]⟩,⟨some 19,none,.call 85 [(.t 12),(.t 18)]⟩,⟨some 3,none,.mv (.t 19)⟩])) (.reg [⟨some 10,none,.mv (.t 4)⟩,⟨some 11,none,.bin .add false (.t 10) (.c (.int .i64 1))⟩,⟨some 4,none,.mv (.t 11)⟩])))))) (.seq (.reg [⟨some 20,none,.mv (.t 3)⟩,⟨some 21,none,.bin .add false (.t 20) (.c (.int .i64 1))⟩,⟨some 2,none,.mv (.t 21)⟩]) .ret))))
theorem Li:Ar Try.prog 74=some ⟨22,GR,[(.tmp 2)]⟩:=by kernel_rfl
theorem D9:modes 74=⟨[],.asis,none,false⟩:=by unfold modes; rfl
theorem SP (a b:Int):E 85 [.int .i64 a,.int .i64 b] []=some (.int .i64 (max a b),[]):=by
 refine Af LI H9 (of_decide_eq_true rfl) ?_
 simp (disch:=omega) only [H8,go_sem,Aa]
 repeat' (refine Ok (fun hq=>?_) (fun hq=>?_) <;> (first | replace hq:=At.1 hq | replace hq:=Ee.1 hq) <;> (try simp (disch:=omega) only [go_sem,Aa]))
 all_goals omega
theorem SQ (x:Tm) (hn:x.nodes≤1099511627776) (ih:∀ y∈x.args,E 70 [y.sv] []=some (.int .i64 y.deep,[])):E 70 [x.sv] []=some (.int .i64 x.deep,[]):=by
 have hl:=Tm.length_le x.args
 have hx:=Tm.Aj x
 have hd1:=Tm.Nl x
 have hd2:=Tm.F9 x
 refine Af Np E9 (of_decide_eq_true rfl) ?_
 simp (disch:=omega) only [I7,go_sem,Aa]
 refine go_loop (α:=Int × (Int)) (fun a=>⟨slots 20 0 [(3,.int .i64 (a.2)),(7,.arr (x.args.map Tm.d)),(8,.int .i64 x.args.length),(9,.int .i64 (a.1))],[]⟩) (fun a=>∃ k:Nat,a.1=k∧k≤(x.args).length∧0≤(a.2)∧max (a.2) (Tm.Fv (x.args.drop k):Nat)=(Tm.Fv x.args:Nat)) (fun a=>(x.args).length-(a.1).toNat) (0,0) ⟨0,rfl,zN _,by dsimp only; omega,by rw [zY]; dsimp only; omega⟩ (by simp (disch:=omega) only [go_sem,Aa]) ?_
 rintro ⟨i,n⟩ ⟨k,hi,hk,hR⟩
 dsimp only at hi hR
 have hni:i.toNat=k:=by omega
 have hni1:(i+1).toNat=k+1:=by omega
 rcases zD k (x.args).length with hlt | hge
 ·have hg:=get_at Tm.d hlt
  rw [Tm.d_eq] at hg
  have hc:=ih x.args[k] (zH hlt)
  rw [zO hlt,Tm.Fv] at hR
  simp (disch:=omega) only [go_sem,Aa,hni,hg,hc,E9,U6]
  refine ⟨(i+1,max n (x.args[k].deep:Int)),⟨k+1,by dsimp only; omega,hlt,by dsimp only; omega⟩,by dsimp only; omega,?_⟩
  simp only [and_self]
 ·rw [zQ hge,Tm.Fv] at hR
  simp (disch:=omega) only [go_sem,Aa,hni]
  omega
theorem Qn (x:Tm) (hn:x.nodes≤1099511627776):E 70 [x.sv] []=some (.int .i64 x.deep,[]) :=
 SQ x hn fun y hy=>Qn y (by have:=Tm.AU hy; have:=Tm.Aj x; omega)
termination_by SizeOf.sizeOf x
decreasing_by exact Tm.A8 hy
theorem Pz (x:Tm) (hn:x.nodes≤1099511627776) (ih:∀ y∈x.args,E 74 [y.sv] []=some (.int .i64 y.deep,[])):E 74 [x.sv] []=some (.int .i64 x.deep,[]):=by
 have hl:=Tm.length_le x.args
 have hx:=Tm.Aj x
 have hd1:=Tm.Nl x
 have hd2:=Tm.F9 x
 refine Af Li D9 (of_decide_eq_true rfl) ?_
 simp (disch:=omega) only [GR,go_sem,Aa]
 refine go_loop (α:=Int × (Int)) (fun a=>⟨slots 22 0 [(1,.ptr 0 0),(3,.int .i64 (a.2)),(4,.int .i64 (a.1))],[.box 26 [.str x.name,.arr (x.args.map Tm.d)]]⟩) (fun a=>∃ k:Nat,a.1=k∧k≤(x.args).length∧0≤(a.2)∧max (a.2) (Tm.Fv (x.args.drop k):Nat)=(Tm.Fv x.args:Nat)) (fun a=>(x.args).length-(a.1).toNat) (0,0) ⟨0,rfl,zN _,by dsimp only; omega,by rw [zY]; dsimp only; omega⟩ (by simp (disch:=omega) only [go_sem,Aa]) ?_
 rintro ⟨i,n⟩ ⟨k,hi,hk,hR⟩
 dsimp only at hi hR
 have hni:i.toNat=k:=by omega
 have hni1:(i+1).toNat=k+1:=by omega
 rcases zD k (x.args).length with hlt | hge
 ·have hg:=get_at Tm.d hlt
  rw [Tm.d_eq] at hg
  have hc:=ih x.args[k] (zH hlt)
  rw [zO hlt,Tm.Fv] at hR
  simp (disch:=omega) only [go_sem,Aa,hni,hg,hc,D9,SP,H9]
  refine ⟨(i+1,max n (x.args[k].deep:Int)),⟨k+1,by dsimp only; omega,hlt,by dsimp only; omega⟩,by dsimp only; omega,?_⟩
  simp only [and_self]
 ·rw [zQ hge,Tm.Fv] at hR
  simp (disch:=omega) only [go_sem,Aa,hni]
  omega
theorem M8 (x:Tm) (hn:x.nodes≤1099511627776):E 74 [x.sv] []=some (.int .i64 x.deep,[]) :=
 Pz x hn fun y hy=>M8 y (by have:=Tm.AU hy; have:=Tm.Aj x; omega)
termination_by SizeOf.sizeOf x
decreasing_by exact Tm.A8 hy
def BY:SC:=(.seq (.reg [⟨some 4,none,.mv (.c (.int .i64 0))⟩]) (.seq (.seq (.reg [⟨some 6,none,.mv (.t 0)⟩,⟨some 7,none,.len false (.t 6)⟩,⟨some 8,none,.mv (.c (.int .i64 0))⟩]) (.block 0 (.loop [1,1,0,0,0,0,0,1,1,0,0,0,0,0,0,0,0,0,0] (.seq (.reg [⟨some 9,none,.bin .lss false (.t 8) (.t 7)⟩]) (.seq (.cond (.t 9) .skip (.exit 0)) (.seq (.block 1 (.seq (.reg [⟨some 10,none,.mv (.t 8)⟩,⟨some 5,none,.mv (.t 10)⟩]) (.seq (.reg [⟨some 11,none,.mv (.t 1)⟩,⟨some 12,none,.mv (.t 0)⟩,⟨some 13,none,.mv (.t 5)⟩,⟨some 14,none,.iaddr 2 (.t 12) (.t 13)⟩,⟨some 15,none,.load true 2 (.t 14)⟩,⟨some 16,none,.callv (.t 11) [(.t 15)]⟩]) (.cond (.t 16) (.seq (.reg [⟨some 17,none,.mv (.t 5)⟩,⟨some 4,none,.mv (.t 17)⟩]) .ret) .skip)))) (.reg [⟨some 18,none,.bin .add false (.t 8) (.c (.int .i64 1))⟩,⟨some 8,none,.mv (.t 18)⟩]))))))) (.seq (.reg [⟨some 4,none,.mv (.c (.int .i64 (-(0+1))))⟩]) .ret)))
theorem CX:Ar Try.prog 84=some ⟨19,BY,[(.tmp 4)]⟩:=by kernel_rfl
theorem BZ:modes 84=⟨[],.asis,none,false⟩:=by unfold modes; rfl
def BK:SC:=(.seq (.reg [⟨some 4,none,.mv (.c (.bool false))⟩]) (.seq (.reg [⟨some 5,none,.mv (.t 0)⟩,⟨some 6,none,.mv (.t 1)⟩,⟨some 7,none,.call 84 [(.t 5),(.t 6)]⟩,⟨some 8,none,.bin .geq false (.t 7) (.c (.int .i64 0))⟩,⟨some 4,none,.mv (.t 8)⟩]) .ret))
theorem CK:Ar Try.prog 71=some ⟨9,BK,[(.tmp 4)]⟩:=by kernel_rfl
theorem BL:modes 71=⟨[],.asis,none,false⟩:=by unfold modes; rfl
theorem JQ (fid:Nat) (p:Tm→Bool) (xs:List Tm) (hl:xs.length≤1099511627776) (hg:JK Try.prog fid=true) (hm:(modes fid).hand=[]) (hE:∀ x∈xs,E fid [x.sv] []=some (.bool (p x),[])):E 84 [.arr (xs.map Tm.d),.fn fid []] []=some (.int .i64 (Fl p xs 0),[]):=by
 refine Af CX BZ (of_decide_eq_true rfl) ?_
 simp (disch:=omega) only [BY,go_sem,Aa]
 refine go_loop (α:=Int) (fun a=>⟨slots 19 0 [(0,.arr (xs.map Tm.d)),(1,.fn fid []),(7,.int .i64 xs.length),(8,.int .i64 a)],[]⟩) (fun a=>∃ k:Nat,a=k∧k≤(xs).length∧Fl p (xs.drop k) a=Fl p xs 0) (fun a=>(xs).length-(a).toNat) 0 ⟨0,rfl,zN _,by rw [zY]⟩ (by simp (disch:=omega) only [go_sem,Aa]) ?_
 rintro i ⟨k,hi,hk,hR⟩
 have hni:i.toNat=k:=by omega
 have hni1:(i+1).toNat=k+1:=by omega
 rcases zD k (xs).length with hlt | hge
 ·have hg':=get_at Tm.d hlt
  rw [Tm.d_eq] at hg'
  have hc:=hE xs[k] (zH hlt)
  rw [zO hlt,Fl] at hR
  cases hp:p xs[k] with
  | true =>
   rw [hp] at hc hR
   simp (disch:=omega) only [go_sem,Aa,hni,hg',hc,hg,hm]
   simpa using hR
  | false =>
   rw [hp] at hc hR
   simp (disch:=omega) only [go_sem,Aa,hni,hg',hc,hg,hm]
   exact ⟨i+1,⟨k+1,by omega,hlt,by simpa using hR⟩,by omega,by first | trivial | rfl⟩
 ·rw [zQ hge,Fl] at hR
  simp (disch:=omega) only [go_sem,Aa,hni]
  exact hR
theorem HY (fid:Nat) (p:Tm→Bool) (xs:List Tm) (hl:xs.length≤1099511627776) (hg:JK Try.prog fid=true) (hm:(modes fid).hand=[]) (hE:∀ x∈xs,E fid [x.sv] []=some (.bool (p x),[])):E 71 [.arr (xs.map Tm.d),.fn fid []] []=some (.bool (xs.any p),[]):=by
 have h:=JQ fid p xs hl hg hm hE
 refine Af CK BL (of_decide_eq_true rfl) ?_
 simp (disch:=omega) only [BK,go_sem,Aa,h,BZ]
 rw [On]
def CL:SC:=(.seq (.reg [⟨some 1,none,.boxv 26 2 (.t 0)⟩,⟨some 2,none,.mv (.c (.bool false))⟩]) (.seq (.seq (.reg [⟨some 3,none,.faddr 0 (.t 1)⟩,⟨some 4,none,.load false 1 (.t 3)⟩,⟨some 5,none,.call 27 [(.t 4)]⟩]) (.cond (.t 5) (.seq (.reg [⟨some 6,none,.faddr 1 (.t 1)⟩,⟨some 7,none,.load false 1 (.t 6)⟩,⟨some 8,none,.len false (.t 7)⟩,⟨some 9,none,.bin .eql false (.t 8) (.c (.int .i64 0))⟩,⟨some 2,none,.mv (.t 9)⟩]) .ret) .skip)) (.seq (.reg [⟨some 10,none,.faddr 0 (.t 1)⟩,⟨some 11,none,.load false 1 (.t 10)⟩,⟨some 12,none,.call 61 [(.t 11)]⟩,⟨some 13,none,.mv (.t 12)⟩,⟨(some 14),(some (13,true)),(.faddr 1 (.t 1))⟩,⟨(some 15),(some (13,true)),(.load false 1 (.t 14))⟩,⟨(some 16),(some (13,true)),(.len false (.t 15))⟩,⟨(some 17),(some (13,true)),(.bin .leq false (.t 16) (.c (.int .i64 4)))⟩,⟨some 18,none,.pick (.t 13) (.t 17) (.c (.bool false))⟩,⟨some 19,none,.mv (.t 18)⟩,⟨(some 20),(some (19,true)),(.faddr 1 (.t 1))⟩,⟨(some 21),(some (19,true)),(.load false 1 (.t 20))⟩,⟨(some 22),(some (19,true)),(.call 71 [(.t 21),(.c (.fn 72 []))])⟩,⟨(some 23),(some (19,true)),(.un .not (.t 22))⟩,⟨some 24,none,.pick (.t 19) (.t 23) (.c (.bool false))⟩,⟨some 2,none,.mv (.t 24)⟩]) .ret)))
theorem Dv:Ar Try.prog 51=some ⟨25,CL,[(.tmp 2)]⟩:=by kernel_rfl
theorem AQ:modes 51=⟨[],.asis,none,false⟩:=by unfold modes; rfl
def F0:SC:=(.seq (.reg [⟨some 1,none,.boxv 26 2 (.t 0)⟩,⟨some 2,none,.mv (.c (.bool false))⟩]) (.seq (.reg [⟨some 3,none,.load true 2 (.t 1)⟩,⟨some 4,none,.call 51 [(.t 3)]⟩,⟨some 5,none,.un .not (.t 4)⟩,⟨some 2,none,.mv (.t 5)⟩]) .ret))
theorem I8:Ar Try.prog 72=some ⟨6,F0,[(.tmp 2)]⟩:=by kernel_rfl
theorem F1:modes 72=⟨[],.asis,none,false⟩:=by unfold modes; rfl
theorem I9:JK Try.prog 72=true:=by kernel_rfl
theorem Tm.UD (xs:List Tm):(!xs.any fun y=>!y.names)=Tm.Dm xs:=by
 rw [Tm.DX]
 induction xs with
 | nil=>rfl
 | cons x xs ih=>simp only [yW,List.all_cons,Bool.not_or,Bool.not_not,ih]
theorem Ou (x:Tm) (hn:x.nodes≤1099511627776) (ih:∀ y∈x.args,E 51 [y.sv] []=some (.bool y.names,[])):E 51 [x.sv] []=some (.bool x.names,[]):=by
 have hl:=Tm.length_le x.args
 have hx:=Tm.Aj x
 have h1:∀ y∈x.args,E 72 [y.sv] []=some (.bool (!y.names),[]):=fun y hy=>by
  have h:=ih y hy
  refine Af I8 F1 (of_decide_eq_true rfl) ?_
  simp (disch:=omega) only [F0,go_sem,Aa,h,AQ]
 have h2:=HY 72 (fun y=>!y.names) x.args (by omega) I9 (by rw [F1]) h1
 rw [Tm.EW,← Tm.UD]
 cases hv:Bh x.name with
 | true =>
  have h3:=Di x.name
  rw [hv] at h3
  refine Af Dv AQ (of_decide_eq_true rfl) ?_
  simp (disch:=omega) only [CL,go_sem,Aa,h3,Bm]
  rw [HQ]; cases x.args <;> simp <;> omega
 | false =>
  have h3:=Di x.name
  rw [hv] at h3
  have h4:=La x.name
  cases hs:Ep x.name with
  | false =>
   rw [hs] at h4
   refine Af Dv AQ (of_decide_eq_true rfl) ?_
   simp (disch:=omega) only [CL,go_sem,Aa,h2,h3,h4,Bm,Bw]
  | true =>
   rw [hs] at h4
   rcases zD 4 x.args.length with h5 | h5
   ·refine Af Dv AQ (of_decide_eq_true rfl) ?_
    simp (disch:=omega) only [CL,go_sem,Aa,h2,h3,h4,Bm,Bw]
    simp; omega
   ·refine Af Dv AQ (of_decide_eq_true rfl) ?_
    simp (disch:=omega) only [CL,go_sem,Aa,h2,h3,h4,Bm,Bw,BL]
    simp [h5]
theorem Gt (x:Tm) (hn:x.nodes≤1099511627776):E 51 [x.sv] []=some (.bool x.names,[]) :=
 Ou x hn fun y hy=>Gt y (by have:=Tm.AU hy; have:=Tm.Aj x; omega)
termination_by SizeOf.sizeOf x
decreasing_by exact Tm.A8 hy
def CY:SC:=(.seq (.reg [⟨some 1,none,.boxv 26 2 (.t 0)⟩,⟨some 2,none,.mv (.c (.bool false))⟩]) (.seq (.seq (.reg [⟨some 4,none,.faddr 0 (.t 1)⟩,⟨some 5,none,.load false 1 (.t 4)⟩,⟨some 6,none,.call 34 [(.t 5)]⟩]) (.cond (.t 6) (.seq (.reg [⟨some 7,none,.faddr 1 (.t 1)⟩,⟨some 8,none,.load false 1 (.t 7)⟩,⟨some 9,none,.len false (.t 8)⟩,⟨some 10,none,.bin .eql false (.t 9) (.c (.int .i64 0))⟩,⟨some 2,none,.mv (.t 10)⟩]) .ret) .skip)) (.seq (.seq (.reg [⟨some 11,none,.faddr 0 (.t 1)⟩,⟨some 12,none,.load false 1 (.t 11)⟩,⟨some 13,none,.call 58 [(.t 12)]⟩,⟨some 14,none,.un .not (.t 13)⟩,⟨some 15,none,.mv (.t 14)⟩,⟨(some 16),(some (15,false)),(.faddr 1 (.t 1))⟩,⟨(some 17),(some (15,false)),(.load false 1 (.t 16))⟩,⟨(some 18),(some (15,false)),(.len false (.t 17))⟩,⟨(some 19),(some (15,false)),(.bin .gtr false (.t 18) (.c (.int .i64 4)))⟩,⟨some 20,none,.pick (.t 15) (.c (.bool true)) (.t 19)⟩]) (.cond (.t 20) (.seq (.reg [⟨some 2,none,.mv (.c (.bool false))⟩]) .ret) .skip)) (.seq (.seq (.reg [⟨some 3,none,.mv (.c (.int .i64 0))⟩]) (.block 0 (.loop [0,1,0,1,0,0,0,0,0,0,0,0,0,0,0,0,0,0,0,0,0,0,0,0,0,0,0,0,0,0,0,0,0,0,0] (.seq (.seq (.reg [⟨some 21,none,.mv (.t 3)⟩,⟨some 22,none,.faddr 1 (.t 1)⟩,⟨some 23,none,.load false 1 (.t 22)⟩,⟨some 24,none,.len false (.t 23)⟩,⟨some 25,none,.bin .lss false (.t 21) (.t 24)⟩]) (.cond (.t 25) .skip (.exit 0))) (.seq (.block 1 (.seq (.reg [⟨some 28,none,.faddr 1 (.t 1)⟩,⟨some 29,none,.load false 1 (.t 28)⟩,⟨some 30,none,.mv (.t 3)⟩,⟨some 31,none,.iaddr 2 (.t 29) (.t 30)⟩,⟨some 32,none,.load true 2 (.t 31)⟩,⟨some 33,none,.call 57 [(.t 32)]⟩,⟨some 34,none,.un .not (.t 33)⟩]) (.cond (.t 34) (.seq (.reg [⟨some 2,none,.mv (.c (.bool false))⟩]) .ret) .skip))) (.reg [⟨some 26,none,.mv (.t 3)⟩,⟨some 27,none,.bin .add false (.t 26) (.c (.int .i64 1))⟩,⟨some 3,none,.mv (.t 27)⟩])))))) (.seq (.reg [⟨some 2,none,.mv (.c (.bool true))⟩]) .ret)))))
theorem DA:Ar Try.prog 57=some ⟨35,CY,[(.tmp 2)]⟩:=by kernel_rfl
theorem AR:modes 57=⟨[],.asis,none,false⟩:=by unfold modes; rfl
theorem P0 (x:Tm) (hn:x.nodes≤1099511627776) (ih:∀ y∈x.args,E 57 [y.sv] []=some (.bool y.names,[])):E 57 [x.sv] []=some (.bool x.names,[]):=by
 have hl:=Tm.length_le x.args
 have hx:=Tm.Aj x
 have h3:=Bt x.name
 have h4:=Lb x.name
 rw [Tm.EW]
 cases hv:Bh x.name with
 | true =>
  rw [hv] at h3
  refine Af DA AR (of_decide_eq_true rfl) ?_
  simp (disch:=omega) only [CY,go_sem,Aa,h3,Ap]
  rw [HQ]; cases x.args <;> simp <;> omega
 | false =>
  rw [hv] at h3
  cases hs:Ep x.name with
  | false =>
   rw [hs] at h4
   refine Af DA AR (of_decide_eq_true rfl) ?_
   simp (disch:=omega) only [CY,go_sem,Aa,h3,h4,Ap,Bx]
  | true =>
   rw [hs] at h4
   rcases zD 4 x.args.length with h5 | h5
   ·refine Af DA AR (of_decide_eq_true rfl) ?_
    simp (disch:=omega) only [CY,go_sem,Aa,h3,h4,Ap,Bx]
    simp; omega
   ·refine Af DA AR (of_decide_eq_true rfl) ?_
    simp (disch:=omega) only [CY,go_sem,Aa,h3,h4,Ap,Bx]
    refine go_loop (α:=Int) (fun a=>⟨slots 35 0 [(1,.ptr 0 0),(3,.int .i64 a)],[.box 26 [.str x.name,.arr (x.args.map Tm.d)]]⟩) (fun a=>∃ k:Nat,a=k∧k≤(x.args).length∧Tm.Dm (x.args.drop k)=Tm.Dm x.args) (fun a=>(x.args).length-(a).toNat) 0 ⟨0,rfl,zN _,by rw [zY]⟩ (by simp (disch:=omega) only [go_sem,Aa]) ?_
    rintro i ⟨k,hi,hk,hR⟩
    have hni:i.toNat=k:=by omega
    have hni1:(i+1).toNat=k+1:=by omega
    rcases zD k (x.args).length with hlt | hge
    ·have hg:=get_at Tm.d hlt
     rw [Tm.d_eq] at hg
     have hc:=ih x.args[k] (zH hlt)
     rw [zO hlt,Tm.Dm] at hR
     cases hp:x.args[k].names with
     | true =>
      rw [hp] at hc hR
      simp (disch:=omega) only [go_sem,Aa,hni,hg,hc,AR]
      exact ⟨i+1,⟨k+1,by omega,hlt,by simpa using hR⟩,by omega,by first | trivial | rfl⟩
     | false =>
      rw [hp] at hc hR
      simp (disch:=omega) only [go_sem,Aa,hni,hg,hc,AR]
      simp at hR ⊢; exact fun _=>hR
    ·rw [zQ hge,Tm.Dm] at hR
     simp (disch:=omega) only [go_sem,Aa,hni]
     simp [h5,← hR]
theorem Hv (x:Tm) (hn:x.nodes≤1099511627776):E 57 [x.sv] []=some (.bool x.names,[]) :=
 P0 x hn fun y hy=>Hv y (by have:=Tm.AU hy; have:=Tm.Aj x; omega)
termination_by SizeOf.sizeOf x
decreasing_by exact Tm.A8 hy
def Fa:SC:=(.seq (.reg [⟨some 1,none,.boxv 26 2 (.t 0)⟩,⟨some 2,none,.mv (.c (.bool false))⟩]) (.seq (.reg [⟨some 3,none,.load true 2 (.t 1)⟩,⟨some 4,none,.call 69 [(.t 3)]⟩,⟨some 5,none,.bin .leq false (.t 4) (.c (.int .i64 30))⟩,⟨some 6,none,.mv (.t 5)⟩,⟨(some 7),(some (6,true)),(.load true 2 (.t 1))⟩,⟨(some 8),(some (6,true)),(.call 70 [(.t 7)])⟩,⟨(some 9),(some (6,true)),(.bin .leq false (.t 8) (.c (.int .i64 8)))⟩,⟨some 10,none,.pick (.t 6) (.t 9) (.c (.bool false))⟩,⟨some 2,none,.mv (.t 10)⟩]) .ret))
theorem GS:Ar Try.prog 46=some ⟨11,Fa,[(.tmp 2)]⟩:=by kernel_rfl
theorem Bk:modes 46=⟨[],.asis,none,false⟩:=by unfold modes; rfl
def FD:SC:=(.seq (.reg [⟨some 1,none,.boxv 26 2 (.t 0)⟩,⟨some 2,none,.mv (.c (.bool false))⟩]) (.seq (.reg [⟨some 3,none,.load true 2 (.t 1)⟩,⟨some 4,none,.call 73 [(.t 3),(.c (.int .i64 30))]⟩,⟨some 5,none,.bin .leq false (.t 4) (.c (.int .i64 30))⟩,⟨some 6,none,.mv (.t 5)⟩,⟨(some 7),(some (6,true)),(.load true 2 (.t 1))⟩,⟨(some 8),(some (6,true)),(.call 74 [(.t 7)])⟩,⟨(some 9),(some (6,true)),(.bin .leq false (.t 8) (.c (.int .i64 8)))⟩,⟨some 10,none,.pick (.t 6) (.t 9) (.c (.bool false))⟩,⟨some 2,none,.mv (.t 10)⟩]) .ret))
theorem HA:Ar Try.prog 56=some ⟨11,FD,[(.tmp 2)]⟩:=by kernel_rfl
theorem BC:modes 56=⟨[],.asis,none,false⟩:=by unfold modes; rfl
def Dy:SC:=(.seq (.reg [⟨some 1,none,.boxv 26 2 (.t 0)⟩,⟨some 2,none,.mv (.c (.bool false))⟩]) (.seq (.reg [⟨some 3,none,.load true 2 (.t 1)⟩,⟨some 4,none,.call 46 [(.t 3)]⟩,⟨some 5,none,.mv (.t 4)⟩,⟨(some 6),(some (5,true)),(.load true 2 (.t 1))⟩,⟨(some 7),(some (5,true)),(.call 51 [(.t 6)])⟩,⟨some 8,none,.pick (.t 5) (.t 7) (.c (.bool false))⟩,⟨some 2,none,.mv (.t 8)⟩]) .ret))
theorem Fb:Ar Try.prog 28=some ⟨9,Dy,[(.tmp 2)]⟩:=by kernel_rfl
theorem A4:modes 28=⟨[],.asis,none,false⟩:=by unfold modes; rfl
def FE:SC:=(.seq (.reg [⟨some 1,none,.boxv 26 2 (.t 0)⟩,⟨some 2,none,.mv (.c (.bool false))⟩]) (.seq (.reg [⟨some 3,none,.load true 2 (.t 1)⟩,⟨some 4,none,.call 56 [(.t 3)]⟩,⟨some 5,none,.mv (.t 4)⟩,⟨(some 6),(some (5,true)),(.load true 2 (.t 1))⟩,⟨(some 7),(some (5,true)),(.call 57 [(.t 6)])⟩,⟨some 8,none,.pick (.t 5) (.t 7) (.c (.bool false))⟩,⟨some 2,none,.mv (.t 8)⟩]) .ret))
theorem HC:Ar Try.prog 32=some ⟨9,FE,[(.tmp 2)]⟩:=by kernel_rfl
theorem Bf:modes 32=⟨[],.asis,none,false⟩:=by unfold modes; rfl
def F2:SC:=(.seq (.reg [⟨some 1,none,.boxv 26 2 (.t 0)⟩,⟨some 2,none,.mv (.c (.bool false))⟩]) (.seq (.reg [⟨some 3,none,.faddr 0 (.t 1)⟩,⟨some 4,none,.load false 1 (.t 3)⟩,⟨(some 5),none,(.bin .eql false (.t 4) (.c (.str ⟨#[61]⟩)))⟩,⟨some 2,none,.mv (.t 5)⟩]) .ret))
theorem IA:Ar Try.prog 40=some ⟨6,F2,[(.tmp 2)]⟩:=by kernel_rfl
theorem Bp:modes 40=⟨[],.asis,none,false⟩:=by unfold modes; rfl
def B8:SC:=(.seq (.reg [⟨some 1,none,.boxv 26 2 (.t 0)⟩,⟨some 2,none,.mv (.c (.bool false))⟩]) (.seq (.seq (.reg [⟨some 3,none,.load true 2 (.t 1)⟩,⟨some 4,none,.call 40 [(.t 3)]⟩]) (.cond (.t 4) (.seq (.reg [⟨some 5,none,.faddr 1 (.t 1)⟩,⟨some 6,none,.load false 1 (.t 5)⟩,⟨some 7,none,.len false (.t 6)⟩,⟨some 8,none,.bin .eql false (.t 7) (.c (.int .i64 2))⟩,⟨some 9,none,.mv (.t 8)⟩,⟨(some 10),(some (9,true)),(.load true 2 (.t 1))⟩,⟨(some 11),(some (9,true)),(.call 46 [(.t 10)])⟩,⟨some 12,none,.pick (.t 9) (.t 11) (.c (.bool false))⟩,⟨some 13,none,.mv (.t 12)⟩,⟨(some 14),(some (13,true)),(.faddr 1 (.t 1))⟩,⟨(some 15),(some (13,true)),(.load false 1 (.t 14))⟩,⟨(some 16),(some (13,true)),(.iaddr 2 (.t 15) (.c (.int .i64 0)))⟩,⟨(some 17),(some (13,true)),(.load true 2 (.t 16))⟩,⟨(some 18),(some (13,true)),(.call 51 [(.t 17)])⟩,⟨some 19,none,.pick (.t 13) (.t 18) (.c (.bool false))⟩,⟨some 20,none,.mv (.t 19)⟩,⟨(some 21),(some (20,true)),(.faddr 1 (.t 1))⟩,⟨(some 22),(some (20,true)),(.load false 1 (.t 21))⟩,⟨(some 23),(some (20,true)),(.iaddr 2 (.t 22) (.c (.int .i64 1)))⟩,⟨(some 24),(some (20,true)),(.load true 2 (.t 23))⟩,⟨(some 25),(some (20,true)),(.call 51 [(.t 24)])⟩,⟨some 26,none,.pick (.t 20) (.t 25) (.c (.bool false))⟩,⟨some 2,none,.mv (.t 26)⟩]) .ret) .skip)) (.seq (.reg [⟨some 27,none,.faddr 0 (.t 1)⟩,⟨some 28,none,.load false 1 (.t 27)⟩,⟨some 29,none,.call 61 [(.t 28)]⟩,⟨some 30,none,.mv (.t 29)⟩,⟨(some 31),(some (30,true)),(.load true 2 (.t 1))⟩,⟨(some 32),(some (30,true)),(.call 28 [(.t 31)])⟩,⟨some 33,none,.pick (.t 30) (.t 32) (.c (.bool false))⟩,⟨some 2,none,.mv (.t 33)⟩]) .ret)))
theorem BO:Ar Try.prog 41=some ⟨34,B8,[(.tmp 2)]⟩:=by kernel_rfl
theorem B9:modes 41=⟨[],.asis,none,false⟩:=by unfold modes; rfl
def Cz:SC:=(.seq (.reg [⟨some 1,none,.boxv 26 2 (.t 0)⟩,⟨some 2,none,.mv (.c (.bool false))⟩]) (.seq (.seq (.reg [⟨some 3,none,.faddr 0 (.t 1)⟩,⟨some 4,none,.load false 1 (.t 3)⟩,⟨(some 5),none,(.bin .eql false (.t 4) (.c (.str ⟨#[61]⟩)))⟩]) (.cond (.t 5) (.seq (.reg [⟨some 6,none,.faddr 1 (.t 1)⟩,⟨some 7,none,.load false 1 (.t 6)⟩,⟨some 8,none,.len false (.t 7)⟩,⟨some 9,none,.bin .eql false (.t 8) (.c (.int .i64 2))⟩,⟨some 10,none,.mv (.t 9)⟩,⟨(some 11),(some (10,true)),(.load true 2 (.t 1))⟩,⟨(some 12),(some (10,true)),(.call 56 [(.t 11)])⟩,⟨some 13,none,.pick (.t 10) (.t 12) (.c (.bool false))⟩,⟨some 14,none,.mv (.t 13)⟩,⟨(some 15),(some (14,true)),(.faddr 1 (.t 1))⟩,⟨(some 16),(some (14,true)),(.load false 1 (.t 15))⟩,⟨(some 17),(some (14,true)),(.iaddr 2 (.t 16) (.c (.int .i64 0)))⟩,⟨(some 18),(some (14,true)),(.load true 2 (.t 17))⟩,⟨(some 19),(some (14,true)),(.call 57 [(.t 18)])⟩,⟨some 20,none,.pick (.t 14) (.t 19) (.c (.bool false))⟩,⟨some 21,none,.mv (.t 20)⟩,⟨(some 22),(some (21,true)),(.faddr 1 (.t 1))⟩,⟨(some 23),(some (21,true)),(.load false 1 (.t 22))⟩,⟨(some 24),(some (21,true)),(.iaddr 2 (.t 23) (.c (.int .i64 1)))⟩,⟨(some 25),(some (21,true)),(.load true 2 (.t 24))⟩,⟨(some 26),(some (21,true)),(.call 57 [(.t 25)])⟩,⟨some 27,none,.pick (.t 21) (.t 26) (.c (.bool false))⟩,⟨some 2,none,.mv (.t 27)⟩]) .ret) .skip)) (.seq (.reg [⟨some 28,none,.faddr 0 (.t 1)⟩,⟨some 29,none,.load false 1 (.t 28)⟩,⟨some 30,none,.call 58 [(.t 29)]⟩,⟨some 31,none,.mv (.t 30)⟩,⟨(some 32),(some (31,true)),(.load true 2 (.t 1))⟩,⟨(some 33),(some (31,true)),(.call 32 [(.t 32)])⟩,⟨some 34,none,.pick (.t 31) (.t 33) (.c (.bool false))⟩,⟨some 2,none,.mv (.t 34)⟩]) .ret)))
theorem CM:Ar Try.prog 33=some ⟨35,Cz,[(.tmp 2)]⟩:=by kernel_rfl
theorem C0:modes 33=⟨[],.asis,none,false⟩:=by unfold modes; rfl
def C6:SC:=(.seq (.reg [⟨some 1,none,.boxv 26 2 (.t 0)⟩,⟨some 2,none,.mv (.c (.bool false))⟩]) (.seq (.reg [⟨some 3,none,.load true 2 (.t 1)⟩,⟨some 4,none,.call 28 [(.t 3)]⟩,⟨some 5,none,.mv (.t 4)⟩,⟨(some 6),(some (5,false)),(.load true 2 (.t 1))⟩,⟨(some 7),(some (5,false)),(.call 40 [(.t 6)])⟩,⟨(some 8),(some (5,false)),(.mv (.t 7))⟩,⟨(some 9),(some (8,true)),(.load true 2 (.t 1))⟩,⟨(some 10),(some (8,true)),(.call 41 [(.t 9)])⟩,⟨(some 11),(some (5,false)),(.pick (.t 8) (.t 10) (.c (.bool false)))⟩,⟨some 12,none,.pick (.t 5) (.c (.bool true)) (.t 11)⟩,⟨some 2,none,.mv (.t 12)⟩]) .ret))
theorem Dp:Ar Try.prog 21=some ⟨13,C6,[(.tmp 2)]⟩:=by kernel_rfl
theorem AI:modes 21=⟨[],.asis,none,false⟩:=by unfold modes; rfl
def Gu:SC:=(.seq (.reg [⟨some 1,none,.boxv 26 2 (.t 0)⟩,⟨some 2,none,.mv (.c (.bool false))⟩]) (.seq (.reg [⟨some 3,none,.load true 2 (.t 1)⟩,⟨some 4,none,.call 32 [(.t 3)]⟩,⟨some 5,none,.mv (.t 4)⟩,⟨(some 6),(some (5,false)),(.load true 2 (.t 1))⟩,⟨(some 7),(some (5,false)),(.call 33 [(.t 6)])⟩,⟨some 8,none,.pick (.t 5) (.c (.bool true)) (.t 7)⟩,⟨some 2,none,.mv (.t 8)⟩]) .ret))
theorem IB:Ar Try.prog 16=some ⟨9,Gu,[(.tmp 2)]⟩:=by kernel_rfl
theorem AN:modes 16=⟨[],.asis,none,false⟩:=by unfold modes; rfl
theorem Jj (x:Tm) (hn:x.nodes≤1099511627776):E 46 [x.sv] []=some (.bool x.small,[]):=by
 have h1:=SN x hn
 have h2:=Qn x hn
 have h3:=Tm.Iy x
 have h4:=Tm.Hu x 30
 unfold Tm.small
 rcases zD 30 x.nodes with h5 | h5
 ·rw [decide_eq_false (by omega),yP]
  refine Af GS Bk (of_decide_eq_true rfl) ?_
  simp (disch:=omega) only [Fa,go_sem,Aa,h1,h2,Er,E9]
 ·rw [decide_eq_true h5,yX]
  refine Af GS Bk (of_decide_eq_true rfl) ?_
  simp (disch:=omega) only [Fa,go_sem,Aa,h1,h2,Er,E9]
  rcases zD 8 x.deep with h6 | h6
  ·rw [decide_eq_false (by omega),Bg (by omega)]
  ·rw [decide_eq_true h6,AV (by omega)]
theorem Ov (x:Tm) (hn:x.nodes≤1099511627776):E 56 [x.sv] []=some (.bool x.small,[]):=by
 have h1:=SO x 30 (by omega) (by omega) hn
 have h2:=M8 x hn
 have h3:=Tm.Iy x
 have h4:=Tm.Hu x 30
 unfold Tm.small
 rcases zD 30 x.nodes with h5 | h5
 ·rw [decide_eq_false (by omega),yP]
  refine Af HA BC (of_decide_eq_true rfl) ?_
  simp (disch:=omega) only [FD,go_sem,Aa,h1,h2,Dr,D9]
 ·rw [decide_eq_true h5,yX]
  refine Af HA BC (of_decide_eq_true rfl) ?_
  simp (disch:=omega) only [FD,go_sem,Aa,h1,h2,Dr,D9]
  rcases zD 8 x.deep with h6 | h6
  ·rw [decide_eq_false (by omega),Bg (by omega)]
  ·rw [decide_eq_true h6,AV (by omega)]
theorem FF (x:Tm) (hn:x.nodes≤1099511627776):E 28 [x.sv] []=some (.bool x.valid,[]):=by
 have h1:=Jj x hn
 have h2:=Gt x hn
 unfold Tm.valid
 cases h3:x.small <;> rw [h3] at h1
 ·refine Af Fb A4 (of_decide_eq_true rfl) ?_
  simp (disch:=omega) only [Dy,go_sem,Aa,h1,h2,Bk,AQ]
 ·refine Af Fb A4 (of_decide_eq_true rfl) ?_
  simp (disch:=omega) only [Dy,go_sem,Aa,h1,h2,Bk,AQ]
theorem Lj (x:Tm) (hn:x.nodes≤1099511627776):E 32 [x.sv] []=some (.bool x.valid,[]):=by
 have h1:=Ov x hn
 have h2:=Hv x hn
 unfold Tm.valid
 cases h3:x.small <;> rw [h3] at h1
 ·refine Af HC Bf (of_decide_eq_true rfl) ?_
  simp (disch:=omega) only [FE,go_sem,Aa,h1,h2,BC,AR]
 ·refine Af HC Bf (of_decide_eq_true rfl) ?_
  simp (disch:=omega) only [FE,go_sem,Aa,h1,h2,BC,AR]
theorem Gv (x:Tm):E 40 [x.sv] []=some (.bool x.eqn,[]):=by
 unfold Tm.eqn
 refine Af IA Bp (of_decide_eq_true rfl) ?_
 simp (disch:=omega) only [F2,go_sem,Aa]
theorem LJ (x:Tm) (hn:x.nodes≤1099511627776):E 41 [x.sv] []=some (.bool x.atom,[]):=by
 have hl:=Tm.length_le x.args
 have hx:=Tm.Aj x
 have h0:=Gv x
 have h1:=Jj x hn
 have h2:=La x.name
 have h3:=FF x hn
 have hE:dec (x.name=⟨#[61]⟩)=x.eqn:=rfl
 unfold Tm.atom
 cases he:x.eqn <;> rw [he] at h0 hE
 ·rw [if_neg (by simp)]
  cases hs:Ep x.name <;> rw [hs] at h2
  ·refine Af BO B9 (of_decide_eq_true rfl) ?_
   simp (disch:=omega) only [B8,go_sem,Aa,h0,h1,h2,h3,hE,Bk,AQ,Bw,A4,Bp]
  ·refine Af BO B9 (of_decide_eq_true rfl) ?_
   simp (disch:=omega) only [B8,go_sem,Aa,h0,h1,h2,h3,hE,Bk,AQ,Bw,A4,Bp]
 ·rw [if_pos rfl]
  by_cases hc:x.args.length=2
  ·have hlt0:0<x.args.length:=by omega
   have hlt1:1<x.args.length:=by omega
   have hg0:=get_at Tm.d hlt0
   have hg1:=get_at Tm.d hlt1
   rw [Tm.d_eq] at hg0 hg1
   have hb0:=Tm.FY x.args 0 hlt0
   have hb1:=Tm.FY x.args 1 hlt1
   have hn0:=Gt x.args[0] (by omega)
   have hn1:=Gt x.args[1] (by omega)
   rw [M3 hc,show (x.args.length == 2)=true by simpa using hc]
   cases hs:x.small <;> rw [hs] at h1
   ·refine Af BO B9 (of_decide_eq_true rfl) ?_
    simp (disch:=omega) only [B8,go_sem,Aa,h0,h1,h2,h3,hE,hg0,hg1,hn0,hn1,hc,Bk,AQ,Bw,A4,Bp]
    try simp
   ·cases hq:(x.args[0]'hlt0).names <;> rw [hq] at hn0
    ·refine Af BO B9 (of_decide_eq_true rfl) ?_
     simp (disch:=omega) only [B8,go_sem,Aa,h0,h1,h2,h3,hE,hg0,hg1,hn0,hn1,hc,Bk,AQ,Bw,A4,Bp]
     try simp
    ·refine Af BO B9 (of_decide_eq_true rfl) ?_
     simp (disch:=omega) only [B8,go_sem,Aa,h0,h1,h2,h3,hE,hg0,hg1,hn0,hn1,hc,Bk,AQ,Bw,A4,Bp]
     try simp
  ·refine Af BO B9 (of_decide_eq_true rfl) ?_
   simp (disch:=omega) only [B8,go_sem,Aa,h0,h1,h2,h3,hE,Bk,AQ,Bw,A4,Bp]
   rw [show (x.args.length == 2)=false by simpa using hc]
   try simp
theorem SR (x:Tm) (hn:x.nodes≤1099511627776):E 33 [x.sv] []=some (.bool x.atom,[]):=by
 have hl:=Tm.length_le x.args
 have hx:=Tm.Aj x
 have h0:=Gv x
 have h1:=Ov x hn
 have h2:=Lb x.name
 have h3:=Lj x hn
 have hE:dec (x.name=⟨#[61]⟩)=x.eqn:=rfl
 unfold Tm.atom
 cases he:x.eqn <;> rw [he] at h0 hE
 ·rw [if_neg (by simp)]
  cases hs:Ep x.name <;> rw [hs] at h2
  ·refine Af CM C0 (of_decide_eq_true rfl) ?_
   simp (disch:=omega) only [Cz,go_sem,Aa,h0,h1,h2,h3,hE,BC,AR,Bx,Bf]
  ·refine Af CM C0 (of_decide_eq_true rfl) ?_
   simp (disch:=omega) only [Cz,go_sem,Aa,h0,h1,h2,h3,hE,BC,AR,Bx,Bf]
 ·rw [if_pos rfl]
  by_cases hc:x.args.length=2
  ·have hlt0:0<x.args.length:=by omega
   have hlt1:1<x.args.length:=by omega
   have hg0:=get_at Tm.d hlt0
   have hg1:=get_at Tm.d hlt1
   rw [Tm.d_eq] at hg0 hg1
   have hb0:=Tm.FY x.args 0 hlt0
   have hb1:=Tm.FY x.args 1 hlt1
   have hn0:=Hv x.args[0] (by omega)
   have hn1:=Hv x.args[1] (by omega)
   rw [M3 hc,show (x.args.length == 2)=true by simpa using hc]
   cases hs:x.small <;> rw [hs] at h1
   ·refine Af CM C0 (of_decide_eq_true rfl) ?_
    simp (disch:=omega) only [Cz,go_sem,Aa,h0,h1,h2,h3,hE,hg0,hg1,hn0,hn1,hc,BC,AR,Bx,Bf]
    try simp
   ·cases hq:(x.args[0]'hlt0).names <;> rw [hq] at hn0
    ·refine Af CM C0 (of_decide_eq_true rfl) ?_
     simp (disch:=omega) only [Cz,go_sem,Aa,h0,h1,h2,h3,hE,hg0,hg1,hn0,hn1,hc,BC,AR,Bx,Bf]
     try simp
    ·refine Af CM C0 (of_decide_eq_true rfl) ?_
     simp (disch:=omega) only [Cz,go_sem,Aa,h0,h1,h2,h3,hE,hg0,hg1,hn0,hn1,hc,BC,AR,Bx,Bf]
     try simp
  ·refine Af CM C0 (of_decide_eq_true rfl) ?_
   simp (disch:=omega) only [Cz,go_sem,Aa,h0,h1,h2,h3,hE,BC,AR,Bx,Bf]
   rw [show (x.args.length == 2)=false by simpa using hc]
   try simp
noncomputable def P1 (a b:ByteArray):Int:=bif strLt a b then -1 else bif dec (a=b) then 0 else 1
def IC (s:ByteArray):Bool:=decide (0<s.size)&&(Nb (H5 s 0) == Bh s)
mutual
def Tm.cok:Tm→Bool
 | .mk n xs=>IC n&&Tm.SS xs
def Tm.SS:List Tm→Bool
 | []=>true
 | x :: xs=>Tm.cok x&&Tm.SS xs
end
theorem Tm.ST (x:Tm):x.cok=(IC x.name&&Tm.SS x.args):=by
 obtain ⟨n,xs⟩:=x
 rw [Tm.cok]; rfl
structure Ord3 {α:Type} (c:α→α→Int) (a b d:α):Prop where
 anti:c b a=- c a b
 zero:c a b=0 ↔ a=b
 trans:c a b<0→c b d<0→c a d<0
def Fc:SC:=(.seq (.reg [⟨some 2,none,.mv (.c (.bool false))⟩]) (.seq (.reg [⟨some 3,none,.mv (.t 0)⟩,⟨some 4,none,.bin .geq false (.t 3) (.c (.int .u8 65))⟩,⟨some 5,none,.mv (.t 4)⟩,⟨(some 6),(some (5,true)),(.mv (.t 0))⟩,⟨(some 7),(some (5,true)),(.bin .leq false (.t 6) (.c (.int .u8 90)))⟩,⟨some 8,none,.pick (.t 5) (.t 7) (.c (.bool false))⟩,⟨some 2,none,.mv (.t 8)⟩]) .ret))
theorem GT:Ar Try.prog 47=some ⟨9,Fc,[(.tmp 2)]⟩:=by kernel_rfl
theorem Fd:modes 47=⟨[],.asis,none,false⟩:=by unfold modes; rfl
theorem HZ {p:Nat→Int→Bool} {s:ByteArray} (h:DL p s s.size=true) (hs:0<s.size):p 0 (H5 s 0)=true:=by
 unfold DL at h
 rw [zZ] at h
 exact h 0 (List.mem_range.2 hs)
theorem Rk {s:ByteArray} (h:Bh s=true):IC s=true:=by
 have h0:=h
 unfold Bh inB at h
 rw [zA,zA,decide_eq_true_eq,decide_eq_true_eq] at h
 have hs:0<s.size:=by omega
 have h1:=HZ h.1 hs
 unfold GO at h1
 unfold IC
 rw [h0]
 simp at h1
 simp [hs,h1]
theorem Rl {s:ByteArray} (hs:0<s.size) (h:Nb (H5 s 0)=false):IC s=true:=by
 have hv:Bh s=false:=by
  rw [Bool.eq_false_iff]
  intro hv
  unfold Bh at hv
  rw [zA] at hv
  have h1:=HZ hv.1 hs
  unfold GO at h1
  rw [h] at h1
  simp at h1
 unfold IC
 rw [hv,h]
 simp [hs]
theorem Rm {s:ByteArray} (h:Ep s=true):IC s=true:=by
 unfold Ep inB at h
 rw [zA,zA,zA,decide_eq_true_eq,decide_eq_true_eq] at h
 have hs:0<s.size:=by omega
 refine Rl hs ?_
 have h1:=HZ h.1.1 hs
 unfold H6 at h1
 simp at h1
 have h2:=h1.1
 unfold Oc at h2
 unfold Nb
 simp at h2 ⊢
 omega
mutual
theorem Tm.Jk:∀ x:Tm,x.names=true→x.cok=true
 | .mk n xs,h=>by
  rw [Tm.names] at h
  rw [Tm.cok,zA]
  split at h
  ·rename_i hv
   have:xs=[]:=by
    rw [beq_iff_eq] at h
    exact zF h
   subst this
   exact ⟨Rk hv,rfl⟩
  ·rw [zA,zA] at h
   exact ⟨Rm h.1.1,Tm.Ia xs h.2⟩
theorem Tm.Ia:∀ xs:List Tm,Tm.Dm xs=true→Tm.SS xs=true
 | [],_=>rfl
 | x :: xs,h=>by
  rw [Tm.Dm,zA] at h
  rw [Tm.SS,zA]
  exact ⟨Tm.Jk x h.1,Tm.Ia xs h.2⟩
end
theorem Rn {s:ByteArray} {k:Nat} (h:k<s.size):G8 s k=H5 s k:=by
 rw [←DV h]
 unfold G8
 rw [show s[k]?=some s[k] from getElem?_pos s k h]; rfl
theorem Ro {s:ByteArray} (h:IC s=true):0<s.size∧(dec (65≤G8 s 0)&&dec (G8 s 0≤90))=Bh s:=by
 unfold IC at h
 rw [zA,decide_eq_true_eq,beq_iff_eq] at h
 refine ⟨h.1,?_⟩
 rw [←h.2,Rn h.1,HQ,HQ]
 unfold Nb
 rfl
theorem Ib (a:ByteArray):strLt a a=false:=by
 unfold strLt
 have key:∀ l:List UInt8,Op.bytesLess l l=false:=by
  intro l
  induction l with
  | nil=>rfl
  | cons x l ih=>simp [Op.bytesLess,ih]
 exact key _
def Fe:SC:=(.seq (.reg [⟨some 2,none,.mv (.c (.bool false))⟩]) (.seq (.reg [⟨some 3,none,.mv (.t 0)⟩,⟨some 4,none,.mv (.t 0)⟩,⟨some 5,none,.bin .neq false (.t 3) (.t 4)⟩,⟨some 2,none,.mv (.t 5)⟩]) .ret))
theorem Ic:Ar Try.prog 81=some ⟨6,Fe,[(.tmp 2)]⟩:=by kernel_rfl
theorem CH:modes 81=⟨[],.asis,none,false⟩:=by unfold modes; rfl
def Cx:SC:=(.seq (.reg [⟨some 4,none,.mv (.c (.int .i64 0))⟩]) (.seq (.reg [⟨some 7,none,.mv (.t 0)⟩,⟨some 8,none,.call 81 [(.t 7)]⟩,⟨some 5,none,.mv (.t 8)⟩]) (.seq (.reg [⟨some 9,none,.mv (.t 1)⟩,⟨some 10,none,.call 81 [(.t 9)]⟩,⟨some 6,none,.mv (.t 10)⟩]) (.seq (.seq (.reg [⟨some 11,none,.mv (.t 5)⟩]) (.cond (.t 11) (.seq (.seq (.reg [⟨some 12,none,.mv (.t 6)⟩]) (.cond (.t 12) (.seq (.reg [⟨some 4,none,.mv (.c (.int .i64 0))⟩]) .ret) .skip)) (.seq (.reg [⟨some 4,none,.mv (.c (.int .i64 (-(0+1))))⟩]) .ret)) .skip)) (.seq (.seq (.reg [⟨some 13,none,.mv (.t 6)⟩]) (.cond (.t 13) (.seq (.reg [⟨some 4,none,.mv (.c (.int .i64 1))⟩]) .ret) .skip)) (.seq (.seq (.reg [⟨some 14,none,.mv (.t 0)⟩,⟨some 15,none,.mv (.t 1)⟩,⟨some 16,none,.bin .lss false (.t 14) (.t 15)⟩]) (.cond (.t 16) (.seq (.reg [⟨some 4,none,.mv (.c (.int .i64 (-(0+1))))⟩]) .ret) .skip)) (.seq (.seq (.reg [⟨some 17,none,.mv (.t 0)⟩,⟨some 18,none,.mv (.t 1)⟩,⟨some 19,none,.bin .gtr false (.t 17) (.t 18)⟩]) (.cond (.t 19) (.seq (.reg [⟨some 4,none,.mv (.c (.int .i64 1))⟩]) .ret) .skip)) (.seq (.reg [⟨some 4,none,.mv (.c (.int .i64 0))⟩]) .ret))))))))
theorem CZ:Ar Try.prog 67=some ⟨20,Cx,[(.tmp 4)]⟩:=by kernel_rfl
theorem Cy:modes 67=⟨[],.asis,none,false⟩:=by unfold modes; rfl
theorem Ow (a:ByteArray):E 81 [.str a] []=some (.bool false,[]):=by
 refine Af Ic CH (of_decide_eq_true rfl) ?_
 simp (disch:=omega) only [Fe,go_sem,Aa]
theorem P2 (a b:ByteArray):E 67 [.str a,.str b] []=some (.int .i64 (P1 a b),[]):=by
 have h1:=Ow a
 have h2:=Ow b
 unfold P1
 cases h3:strLt a b
 ·cases h4:dec (a=b)
  ·refine Af CZ Cy (of_decide_eq_true rfl) ?_
   simp (disch:=omega) only [Cx,go_sem,Aa,h1,h2,h3,h4,CH]
  ·refine Af CZ Cy (of_decide_eq_true rfl) ?_
   simp (disch:=omega) only [Cx,go_sem,Aa,h1,h2,h3,h4,CH]
 ·refine Af CZ Cy (of_decide_eq_true rfl) ?_
  simp (disch:=omega) only [Cx,go_sem,Aa,h1,h2,h3,CH]
def ID:SC:=(.seq (.reg [⟨some 1,none,.boxv 26 2 (.t 0)⟩,⟨some 2,none,.mv (.c (.bool false))⟩]) (.seq (.reg [⟨some 3,none,.faddr 0 (.t 1)⟩,⟨some 4,none,.load false 1 (.t 3)⟩,⟨some 5,none,.idx (.t 4) (.c (.int .i64 0))⟩,⟨some 6,none,.call 47 [(.t 5)]⟩,⟨some 2,none,.mv (.t 6)⟩]) .ret))
theorem Nq:Ar Try.prog 62=some ⟨7,ID,[(.tmp 2)]⟩:=by kernel_rfl
theorem By:modes 62=⟨[],.asis,none,false⟩:=by unfold modes; rfl
theorem Rp (n:Int):E 47 [.int .u8 n] []=some (.bool (dec (65≤n)&&dec (n≤90)),[]):=by
 cases h1:dec (65≤n)
 ·refine Af GT Fd (of_decide_eq_true rfl) ?_
  simp (disch:=omega) only [Fc,go_sem,Aa,h1]
 ·refine Af GT Fd (of_decide_eq_true rfl) ?_
  simp (disch:=omega) only [Fc,go_sem,Aa,h1]
theorem UE (x:Tm) (h:x.cok=true):E 62 [x.sv] []=some (.bool (Bh x.name),[]):=by
 rw [Tm.ST,zA] at h
 obtain ⟨h1,h2⟩:=Ro h.1
 have h3:=Rp (G8 x.name 0)
 rw [h2] at h3
 refine Af Nq By (of_decide_eq_true rfl) ?_
 simp (disch:=omega) only [ID,go_sem,Aa,h3,Fd]
theorem Lk:∀ x y:List UInt8,Op.bytesLess x y=true→Op.bytesLess y x=false
 | [],[],h=>by simp [Op.bytesLess] at h
 | [],_ :: _,_=>rfl
 | _ :: _,[],h=>by simp [Op.bytesLess] at h
 | a :: x,b :: y,h=>by
  simp only [Op.bytesLess,yM,decide_eq_true_eq,zA,beq_iff_eq] at h
  simp only [Op.bytesLess,z6,decide_eq_false_iff_not]
  rcases h with h | ⟨rfl,h⟩
  ·have h2:¬ b<a:=by intro h3; exact absurd (UInt8.lt_trans h h3) (UInt8.lt_irrefl _)
   have h3:(b == a)=false:=by
    rw [beq_eq_false_iff_ne]; rintro rfl; exact UInt8.lt_irrefl _ h
   exact ⟨h2,by rw [h3]; rfl⟩
  ·exact ⟨UInt8.lt_irrefl _,by rw [Lk x y h]; simp⟩
theorem Ll:∀ x y:List UInt8,Op.bytesLess x y=false→Op.bytesLess y x=false→x=y
 | [],[],_,_=>rfl
 | [],_ :: _,h,_=>by simp [Op.bytesLess] at h
 | _ :: _,[],_,h=>by simp [Op.bytesLess] at h
 | a :: x,b :: y,h,k=>by
  simp only [Op.bytesLess,z6,decide_eq_false_iff_not] at h k
  have hab:a=b:=by
   have h1:=h.1; have h2:=k.1
   rw [UInt8.lt_iff_toNat_lt] at h1 h2
   exact UInt8.toNat_inj.1 (by omega)
  subst hab
  have h1:Op.bytesLess x y=false:=by simpa using h.2
  have h2:Op.bytesLess y x=false:=by simpa using k.2
  rw [Ll x y h1 h2]
theorem F3 {a b:ByteArray} (h:strLt a b=true):strLt b a=false:=Lk _ _ h
theorem Es {a b:ByteArray} (h:strLt a b=false) (h':strLt b a=false):a=b:=IV (Ll _ _ h h')
theorem Ox (a b:ByteArray):(strLt a b || dec (a=b))=!strLt b a:=by
 cases h:strLt b a with
 | false =>
  cases h2:strLt a b with
  | false=>rw [AV (Es h2 h)]; rfl
  | true=>rfl
 | true =>
  rw [F3 h,Bg (by rintro rfl; rw [Ib] at h; cases h)]
  rfl
theorem Lm:∀ x y z:List UInt8,Op.bytesLess x y=true→Op.bytesLess y z=true→Op.bytesLess x z=true
 | _,_,[],_,h=>by simp [Op.bytesLess] at h
 | [],[],_ :: _,h,_=>by simp [Op.bytesLess] at h
 | [],_ :: _,_ :: _,_,_=>rfl
 | _ :: _,[],_ :: _,h,_=>by simp [Op.bytesLess] at h
 | a :: x,b :: y,c :: z,h,k=>by
  simp only [Op.bytesLess,yM,decide_eq_true_eq,zA,beq_iff_eq] at h k ⊢
  rcases h with h | ⟨rfl,h⟩
  ·rcases k with k | ⟨rfl,k⟩
   ·exact .inl (UInt8.lt_trans h k)
   ·exact .inl h
  ·rcases k with k | ⟨rfl,k⟩
   ·exact .inl k
   ·exact .inr ⟨rfl,Lm x y z h k⟩
theorem GU {a b c:ByteArray} (h:strLt a b=true) (k:strLt b c=true):strLt a c=true:=Lm _ _ _ h k
theorem Ln {a b:ByteArray} (h:strLt a b=true):¬ a=b:=by rintro rfl; rw [Ib] at h; cases h
theorem Oy (a b:ByteArray):dec (P1 a b<0)=strLt a b:=by
 unfold P1
 cases strLt a b
 ·cases dec (a=b)
  ·exact Bg (by simp)
  ·exact Bg (by simp)
 ·exact AV (by simp)
theorem Rq (a b:ByteArray):dec (P1 a b=0)=dec (a=b):=by
 unfold P1
 cases h:strLt a b
 ·cases h2:dec (a=b)
  ·exact Bg (by simp)
  ·exact AV (by simp)
 ·rw [Bg (Ln h)]
  exact Bg (by simp)
theorem wrap_u64 {n:Int} (h0:0≤n) (h1:n≤18446744073709551615):IntKind.u64.wrap n=n:=Ko (by
 have e1:IntKind.u64.min=0:=by decide
 have e2:IntKind.u64.max=18446744073709551615:=by decide
 unfold inK
 rw [e1,e2]
 exact ⟨h0,h1⟩)
noncomputable def Gc (x:Bd):Bool:=Bh x.var&&(x.term.valid&&!dec (x.term.name=x.var))
noncomputable def Oz (xs:List Bd) (k:Nat):Bool:=match xs[k]? with
 | none=>true
 | some x=>Gc x&&(match k with
  | 0=>true
  | j+1=>match xs[j]? with
   | none=>true
   | some y=>strLt y.var x.var)
noncomputable def FG (xs:List Bd):Nat→Bool
 | 0=>true
 | k+1=>FG xs k&&Oz xs k
theorem Rr {xs:List Bd} {k n:Nat} (h:FG xs k=false) (hn:k≤n):FG xs n=false:=by
 induction n with
 | zero =>
      obtain rfl:k=0:=by omega
      exact h
 | succ n ih =>
  rcases zD n k with h1 | h1
  ·obtain rfl:k=n+1:=by omega
   exact h
  ·rw [FG,ih h1]; rfl
theorem EE {xs:List Bd} (h:0<xs.length):Oz xs 0=Gc xs[0]:=by
 unfold Oz
 rw [zM h]
 simp
theorem Ea {xs:List Bd} {j:Nat} (h:j+1<xs.length):Oz xs (j+1)=(Gc xs[j+1]&&strLt xs[j].var xs[j+1].var):=by
 unfold Oz
 rw [zM h]
 simp only [zM (show j<xs.length by omega)]
theorem Qo {xs:List Bd} {k j:Nat} (h:FG xs k=true) (hj:j<k):Oz xs j=true:=by
 induction k with
 | zero=>omega
 | succ k ih =>
  rw [FG,zA] at h
  rcases zD j k with h1 | h1
  ·exact ih h.1 h1
  ·obtain rfl:j=k:=by omega
   exact h.2
theorem UF {xs:List Bd} {j:Nat} (hl:j<xs.length) (h:Oz xs j=true):Gc xs[j]=true:=by
 cases j with
 | zero=>rw [←EE hl]; exact h
 | succ j=>rw [Ea hl,zA] at h; exact h.1
noncomputable def Sb.ok (x:Sb):Bool:=decide (x.binds.length≤12)&&FG x.binds x.binds.length
theorem Sb.Nr {x:Sb} {k:Nat} (h:FG x.binds k=true) (h':Oz x.binds k=false) (hk:k<x.binds.length):x.ok=false:=by
 have:FG x.binds x.binds.length=false:=Rr (k:=k+1) (by rw [FG,h,h']; rfl) (by omega)
 unfold Sb.ok
 rw [this,zU]
def Sb.tame (x:Sb):Prop:=x.binds.length≤1099511627776∧∀ y∈x.binds,y.term.nodes≤1099511627776
theorem Sb.JZ {x:Sb} (h:x.tame) {k:Nat} (hk:k<x.binds.length):x.binds[k].term.nodes≤1099511627776:=h.2 _ (zH hk)
def Da:SC:=(.seq (.reg [⟨some 1,none,.boxv 31 1 (.t 0)⟩,⟨some 2,none,.mv (.c (.bool false))⟩]) (.seq (.seq (.reg [⟨some 5,none,.faddr 0 (.t 1)⟩,⟨some 6,none,.load false 1 (.t 5)⟩,⟨some 7,none,.len false (.t 6)⟩,⟨some 8,none,.mv (.c (.int .i64 0))⟩]) (.block 0 (.loop [0,1,0,0,0,0,1,1,1,0,0,0,0,0,0,0,0,0,0,0,0,0,0,0,0,0,0,0,0,0,0,0,0,0,0,0,0,0,0,0,0,0,0,0,0,0,0,0,0,0,0,0] (.seq (.reg [⟨some 9,none,.bin .lss false (.t 8) (.t 7)⟩]) (.seq (.cond (.t 9) .skip (.exit 0)) (.seq (.block 1 (.seq (.reg [⟨some 10,none,.mv (.t 8)⟩,⟨some 11,none,.iaddr 3 (.t 6) (.t 8)⟩,⟨some 12,none,.load true 3 (.t 11)⟩,⟨(some 4),none,(.alloc 58 [(.str ⟨#[]⟩),(.str ⟨#[]⟩),.nil])⟩,⟨some 3,none,.mv (.t 10)⟩,⟨none,none,(.store 3 (.t 4) (.t 12))⟩]) (.seq (.dreg [[],[0],[1,0],[2,1,0],[3,2,1,0],[4,3,2,1,0],[5,4,3,2,1,0],[6,5,4,3,2,1,0],[7,6,5,4,3,2,1,0],[8,7,6,5,4,3,2,1,0],[7,6,5,4,3,2,1,0],[10,7,6,5,4,3,2,1,0],[7,6,5,4,3,2,1,0],[12,7,6,5,4,3,2,1,0],[11,10,7,6,5,4,3,2,1,0,13,12],[14,11,10,7,6,5,4,3,2,1,0,13,12],[15,14,11,10,7,6,5,4,3,2,1,0,13,12],[9,8,7,6,5,4,3,2,1,0,16,15,14,11,10,13,12],[7,6,5,4,3,2,1,0,17,9,8,16,15,14,11,10,13,12],[4,3,2,1,0,18,7,6,5,17,9,8,16,15,14,11,10,13,12],[19,4,3,2,1,0,18,7,6,5,17,9,8,16,15,14,11,10,13,12],[20,19,4,3,2,1,0,18,7,6,5,17,9,8,16,15,14,11,10,13,12],[21,20,19,4,3,2,1,0,18,7,6,5,17,9,8,16,15,14,11,10,13,12],[22,21,20,19,4,3,2,1,0,18,7,6,5,17,9,8,16,15,14,11,10,13,12],[23,22,21,20,19,4,3,2,1,0,18,7,6,5,17,9,8,16,15,14,11,10,13,12],[20,19,4,3,2,1,0,18,7,6,5,17,9,8,16,15,14,11,10,13,12,24,23,22,21],[25,20,19,4,3,2,1,0,18,7,6,5,17,9,8,16,15,14,11,10,13,12,24,23,22,21],[26,25,20,19,4,3,2,1,0,18,7,6,5,17,9,8,16,15,14,11,10,13,12,24,23,22,21],[27,26,25,20,19,4,3,2,1,0,18,7,6,5,17,9,8,16,15,14,11,10,13,12,24,23,22,21],[28,27,26,25,20,19,4,3,2,1,0,18,7,6,5,17,9,8,16,15,14,11,10,13,12,24,23,22,21],[26,25,20,19,4,3,2,1,0,18,7,6,5,17,9,8,16,15,14,11,10,13,12,24,23,22,21],[30,26,25,20,19,4,3,2,1,0,18,7,6,5,17,9,8,16,15,14,11,10,13,12,24,23,22,21],[29,28,27,26,25,20,19,4,3,2,1,0,18,7,6,5,17,9,8,16,15,14,11,10,13,12,24,23,22,21,31,30],[26,25,20,19,4,3,2,1,0,18,7,6,5,17,9,8,16,15,14,11,10,13,12,24,23,22,21,32,29,28,27,31,30]] [⟨some 13,none,.faddr 0 (.t 4)⟩,⟨some 14,none,.load false 1 (.t 13)⟩,⟨some 15,none,.call 27 [(.t 14)]⟩,⟨some 16,none,.un .not (.t 15)⟩,⟨some 17,none,.mv (.t 16)⟩,⟨(some 18),(some (17,false)),(.mv (.t 3))⟩,⟨(some 19),(some (17,false)),(.bin .gtr false (.t 18) (.c (.int .i64 0)))⟩,⟨(some 20),(some (17,false)),(.mv (.t 19))⟩,⟨(some 21),(some (20,true)),(.faddr 0 (.t 4))⟩,⟨(some 22),(some (20,true)),(.load false 1 (.t 21))⟩,⟨(some 23),(some (20,true)),(.faddr 0 (.t 1))⟩,⟨(some 24),(some (20,true)),(.load false 1 (.t 23))⟩,⟨(some 25),(some (20,true)),(.mv (.t 3))⟩,⟨(some 26),(some (20,true)),(.bin .sub false (.t 25) (.c (.int .i64 1)))⟩,⟨(some 27),(some (20,true)),(.iaddr 3 (.t 24) (.t 26))⟩,⟨(some 28),(some (20,true)),(.faddr 0 (.t 27))⟩,⟨(some 29),(some (20,true)),(.load false 1 (.t 28))⟩,⟨(some 30),(some (20,true)),(.bin .leq false (.t 22) (.t 29))⟩,⟨(some 31),(some (17,false)),(.pick (.t 20) (.t 30) (.c (.bool false)))⟩,⟨some 32,none,.pick (.t 17) (.c (.bool true)) (.t 31)⟩,⟨some 33,none,.mv (.t 32)⟩,⟨(some 34),(some (33,false)),(.faddr 1 (.t 4))⟩,⟨(some 35),(some (33,false)),(.load true 2 (.t 34))⟩,⟨(some 36),(some (33,false)),(.call 28 [(.t 35)])⟩,⟨(some 37),(some (33,false)),(.un .not (.t 36))⟩,⟨some 38,none,.pick (.t 33) (.c (.bool true)) (.t 37)⟩,⟨some 39,none,.mv (.t 38)⟩,⟨(some 40),(some (39,false)),(.faddr 1 (.t 4))⟩,⟨(some 41),(some (39,false)),(.faddr 0 (.t 40))⟩,⟨(some 42),(some (39,false)),(.load false 1 (.t 41))⟩,⟨(some 43),(some (39,false)),(.faddr 0 (.t 4))⟩,⟨(some 44),(some (39,false)),(.load false 1 (.t 43))⟩,⟨(some 45),(some (39,false)),(.bin .eql false (.t 42) (.t 44))⟩,⟨some 46,none,.pick (.t 39) (.c (.bool true)) (.t 45)⟩]) (.cond (.t 46) (.seq (.reg [⟨some 2,none,.mv (.c (.bool false))⟩]) .ret) .skip)))) (.reg [⟨some 47,none,.bin .add false (.t 8) (.c (.int .i64 1))⟩,⟨some 8,none,.mv (.t 47)⟩]))))))) (.seq (.reg [⟨some 48,none,.faddr 0 (.t 1)⟩,⟨some 49,none,.load false 1 (.t 48)⟩,⟨some 50,none,.len false (.t 49)⟩,⟨some 51,none,.bin .leq false (.t 50) (.c (.int .i64 12))⟩,⟨some 2,none,.mv (.t 51)⟩]) .ret)))
theorem Ff:Ar Try.prog 11=some ⟨52,Da,[(.tmp 2)]⟩:=by kernel_rfl
theorem Aw:modes 11=⟨[],.asis,none,false⟩:=by unfold modes; rfl
def HD:SC:=(.seq (.reg [⟨some 1,none,.boxv 31 1 (.t 0)⟩,⟨some 2,none,.mv (.c (.bool false))⟩]) (.seq (.seq (.reg [⟨some 3,none,.mv (.c (.int .i64 0))⟩]) (.block 0 (.loop [0,1,0,1,0,0,0,0,0,0,0,0,0,0,0,0,0,0,0,0,0,0,0,0,0,0,0,0,0,0,0,0,0,0,0,0,0,0,0,0,0,0,0,0,0,0,0,0,0,0,0,0,0,0,0] (.seq (.seq (.reg [⟨some 5,none,.mv (.t 3)⟩,⟨some 6,none,.faddr 0 (.t 1)⟩,⟨some 7,none,.load false 1 (.t 6)⟩,⟨some 8,none,.len false (.t 7)⟩,⟨some 9,none,.bin .lss false (.t 5) (.t 8)⟩]) (.cond (.t 9) .skip (.exit 0))) (.seq (.block 1 (.seq (.reg [⟨some 12,none,.faddr 0 (.t 1)⟩,⟨some 13,none,.load false 1 (.t 12)⟩,⟨some 14,none,.mv (.t 3)⟩,⟨some 15,none,.iaddr 3 (.t 13) (.t 14)⟩,⟨some 16,none,.load true 3 (.t 15)⟩,⟨(some 4),none,(.alloc 58 [(.str ⟨#[]⟩),(.str ⟨#[]⟩),.nil])⟩,⟨none,none,(.store 3 (.t 4) (.t 16))⟩]) (.seq (.dreg [[],[0],[1,0],[2,1,0],[3,2,1,0],[4,3,2,1,0],[5,4,3,2,1,0],[6,5,4,3,2,1,0],[7,6,5,4,3,2,1,0],[4,3,2,1,0,8,7,6,5],[9,4,3,2,1,0,8,7,6,5],[10,9,4,3,2,1,0,8,7,6,5],[11,10,9,4,3,2,1,0,8,7,6,5],[12,11,10,9,4,3,2,1,0,8,7,6,5],[10,9,4,3,2,1,0,8,7,6,5],[14,10,9,4,3,2,1,0,8,7,6,5],[13,12,11,10,9,4,3,2,1,0,8,7,6,5,15,14],[10,9,4,3,2,1,0,8,7,6,5,16,13,12,11,15,14],[17,10,9,4,3,2,1,0,8,7,6,5,16,13,12,11,15,14],[18,17,10,9,4,3,2,1,0,8,7,6,5,16,13,12,11,15,14],[19,18,17,10,9,4,3,2,1,0,8,7,6,5,16,13,12,11,15,14],[20,19,18,17,10,9,4,3,2,1,0,8,7,6,5,16,13,12,11,15,14],[21,20,19,18,17,10,9,4,3,2,1,0,8,7,6,5,16,13,12,11,15,14],[22,21,20,19,18,17,10,9,4,3,2,1,0,8,7,6,5,16,13,12,11,15,14],[21,20,19,18,17,10,9,4,3,2,1,0,8,7,6,5,16,13,12,11,15,14],[24,21,20,19,18,17,10,9,4,3,2,1,0,8,7,6,5,16,13,12,11,15,14],[23,22,21,20,19,18,17,10,9,4,3,2,1,0,8,7,6,5,16,13,12,11,15,14,25,24],[26,23,22,21,20,19,18,17,10,9,4,3,2,1,0,8,7,6,5,16,13,12,11,15,14,25,24],[27,26,23,22,21,20,19,18,17,10,9,4,3,2,1,0,8,7,6,5,16,13,12,11,15,14,25,24],[21,20,19,18,17,10,9,4,3,2,1,0,8,7,6,5,16,13,12,11,15,14],[29,21,20,19,18,17,10,9,4,3,2,1,0,8,7,6,5,16,13,12,11,15,14],[28,27,26,23,22,21,20,19,18,17,10,9,4,3,2,1,0,8,7,6,5,16,13,12,11,15,14,25,24,30,29],[21,20,19,18,17,10,9,4,3,2,1,0,8,7,6,5,16,13,12,11,15,14,31,28,27,26,23,22,25,24,30,29],[18,17,10,9,4,3,2,1,0,8,7,6,5,16,13,12,11,15,14,32,21,20,19,31,28,27,26,23,22,25,24,30,29]] [⟨some 17,none,.faddr 0 (.t 4)⟩,⟨some 18,none,.load false 1 (.t 17)⟩,⟨some 19,none,.call 34 [(.t 18)]⟩,⟨some 20,none,.un .not (.t 19)⟩,⟨some 21,none,.mv (.t 20)⟩,⟨(some 22),(some (21,false)),(.faddr 1 (.t 4))⟩,⟨(some 23),(some (21,false)),(.load true 2 (.t 22))⟩,⟨(some 24),(some (21,false)),(.call 32 [(.t 23)])⟩,⟨(some 25),(some (21,false)),(.un .not (.t 24))⟩,⟨some 26,none,.pick (.t 21) (.c (.bool true)) (.t 25)⟩,⟨some 27,none,.mv (.t 26)⟩,⟨(some 28),(some (27,false)),(.faddr 1 (.t 4))⟩,⟨(some 29),(some (27,false)),(.faddr 0 (.t 28))⟩,⟨(some 30),(some (27,false)),(.load false 1 (.t 29))⟩,⟨(some 31),(some (27,false)),(.faddr 0 (.t 4))⟩,⟨(some 32),(some (27,false)),(.load false 1 (.t 31))⟩,⟨(some 33),(some (27,false)),(.bin .eql false (.t 30) (.t 32))⟩,⟨some 34,none,.pick (.t 27) (.c (.bool true)) (.t 33)⟩,⟨some 35,none,.mv (.t 34)⟩,⟨(some 36),(some (35,false)),(.mv (.t 3))⟩,⟨(some 37),(some (35,false)),(.bin .gtr false (.t 36) (.c (.int .i64 0)))⟩,⟨(some 38),(some (35,false)),(.mv (.t 37))⟩,⟨(some 39),(some (38,true)),(.faddr 0 (.t 1))⟩,⟨(some 40),(some (38,true)),(.load false 1 (.t 39))⟩,⟨(some 41),(some (38,true)),(.mv (.t 3))⟩,⟨(some 42),(some (38,true)),(.bin .sub false (.t 41) (.c (.int .i64 1)))⟩,⟨(some 43),(some (38,true)),(.iaddr 3 (.t 40) (.t 42))⟩,⟨(some 44),(some (38,true)),(.faddr 0 (.t 43))⟩,⟨(some 45),(some (38,true)),(.load false 1 (.t 44))⟩,⟨(some 46),(some (38,true)),(.faddr 0 (.t 4))⟩,⟨(some 47),(some (38,true)),(.load false 1 (.t 46))⟩,⟨(some 48),(some (38,true)),(.bin .geq false (.t 45) (.t 47))⟩,⟨(some 49),(some (35,false)),(.pick (.t 38) (.t 48) (.c (.bool false)))⟩,⟨some 50,none,.pick (.t 35) (.c (.bool true)) (.t 49)⟩]) (.cond (.t 50) (.seq (.reg [⟨some 2,none,.mv (.c (.bool false))⟩]) .ret) .skip)))) (.reg [⟨some 10,none,.mv (.t 3)⟩,⟨some 11,none,.bin .add false (.t 10) (.c (.int .i64 1))⟩,⟨some 3,none,.mv (.t 11)⟩])))))) (.seq (.reg [⟨some 51,none,.faddr 0 (.t 1)⟩,⟨some 52,none,.load false 1 (.t 51)⟩,⟨some 53,none,.len false (.t 52)⟩,⟨some 54,none,.bin .leq false (.t 53) (.c (.int .i64 12))⟩,⟨some 2,none,.mv (.t 54)⟩]) .ret)))
theorem LK:Ar Try.prog 25=some ⟨55,HD,[(.tmp 2)]⟩:=by kernel_rfl
theorem BS:modes 25=⟨[],.asis,none,false⟩:=by unfold modes; rfl
def HE:SC:=(.seq (.reg [⟨some 2,none,.boxv 31 1 (.t 0)⟩,⟨some 4,none,.mv (.c (.int .i64 0))⟩]) (.seq (.seq (.reg [⟨some 5,none,.mv (.c (.int .i64 0))⟩]) (.block 0 (.loop [0,1,1,0,0,1,0,0,0,0,0,0,0,0,0,0,0,0,0,0,0,0] (.seq (.seq (.reg [⟨some 6,none,.mv (.t 5)⟩,⟨some 7,none,.faddr 0 (.t 2)⟩,⟨some 8,none,.load false 1 (.t 7)⟩,⟨some 9,none,.len false (.t 8)⟩,⟨some 10,none,.bin .lss false (.t 6) (.t 9)⟩]) (.cond (.t 10) .skip (.exit 0))) (.seq (.block 1 (.seq (.reg [⟨some 13,none,.faddr 0 (.t 2)⟩,⟨some 14,none,.load false 1 (.t 13)⟩,⟨some 15,none,.mv (.t 5)⟩,⟨some 16,none,.iaddr 3 (.t 14) (.t 15)⟩,⟨some 17,none,.faddr 0 (.t 16)⟩,⟨some 18,none,.load false 1 (.t 17)⟩,⟨some 19,none,.mv (.t 1)⟩,⟨some 20,none,.bin .eql false (.t 18) (.t 19)⟩]) (.cond (.t 20) (.seq (.reg [⟨some 21,none,.mv (.t 5)⟩,⟨some 4,none,.mv (.t 21)⟩]) .ret) .skip))) (.reg [⟨some 11,none,.mv (.t 5)⟩,⟨some 12,none,.bin .add false (.t 11) (.c (.int .i64 1))⟩,⟨some 5,none,.mv (.t 12)⟩])))))) (.seq (.reg [⟨some 4,none,.mv (.c (.int .i64 (-(0+1))))⟩]) .ret)))
theorem LL:Ar Try.prog 35=some ⟨22,HE,[(.tmp 4)]⟩:=by kernel_rfl
theorem Eg:modes 35=⟨[],.asis,none,false⟩:=by unfold modes; rfl
theorem CO (x:Sb) (hn:x.tame):E 11 [x.sv] []=some (.bool x.ok,[]):=by
  have hl:=hn.1
  refine Af Ff Aw (of_decide_eq_true rfl) ?_
  simp (disch:=omega) only [Da,go_sem,Aa]
  refine go_loop (α:=Int) (fun a=>⟨slots 52 0 [(1,.ptr 0 0),(6,.arr (x.binds.map Bd.d)),(7,.int .i64 x.binds.length),(8,.int .i64 a)],[.box 31 [.arr (x.binds.map Bd.d)]]⟩) (fun a=>∃ k:Nat,a=k∧k≤(x.binds).length∧FG x.binds k=true) (fun a=>(x.binds).length-(a).toNat) 0 ⟨0,rfl,zN _,by rw [FG]⟩ (by simp (disch:=omega) only [go_sem,Aa]) ?_
  rintro i ⟨k,hi,hk,hR⟩
  have hni:i.toNat=k:=by omega
  have hni1:(i+1).toNat=k+1:=by omega
  rcases zD k (x.binds).length with hlt | hge
  · have hg:=get_at Bd.d hlt
    rw [Bd.d_eq] at hg
    have hv:=FF x.binds[k].term (Sb.JZ hn hlt)
    cases k with
    | zero =>
      obtain rfl:i=0:=hi
      cases hA:Bh x.binds[0].var <;> cases hV:x.binds[0].term.valid <;> cases hD:dec (x.binds[0].term.name=x.binds[0].var)
      all_goals
        first
        | (have e:x.ok=false:=Sb.Nr hR (by rw [EE hlt,Gc,hA,hV,hD]; rfl) hlt
           rw [e]
           simp (disch:=omega) only [go_sem,Aa,hni,hg,hv,hA,hV,hD,A4,Bm,Di]
           done)
        | (simp (disch:=omega) only [go_sem,Aa,hni,hg,hv,hA,hV,hD,A4,Bm,Di]
           exact ⟨1,⟨1,rfl,hlt,by rw [FG,hR,EE hlt,Gc,hA,hV,hD]; rfl⟩,by omega,by first | trivial | rfl⟩)
    | succ j =>
      have hj:j<x.binds.length:=by omega
      have hg2:=get_at Bd.d hj
      rw [Bd.d_eq] at hg2
      have hni2:(i-1).toNat=j:=by omega
      have hLe:=Ox x.binds[j+1].var x.binds[j].var
      cases hS:strLt x.binds[j].var x.binds[j+1].var <;> cases hA:Bh x.binds[j+1].var <;> cases hV:x.binds[j+1].term.valid <;> cases hD:dec (x.binds[j+1].term.name=x.binds[j+1].var)
      all_goals
        first
        | (have e:x.ok=false:=Sb.Nr hR (by rw [Ea hlt,Gc,hA,hV,hD,hS]; rfl) hlt
           rw [e]
           simp (disch:=omega) only [go_sem,Aa,hni,hg,hv,hA,hV,hD,A4,Bm,Di,hS,hni2,hg2,hLe]
           done)
        | (simp (disch:=omega) only [go_sem,Aa,hni,hg,hv,hA,hV,hD,A4,Bm,Di,hS,hni2,hg2,hLe]
           exact ⟨i+1,⟨j+1+1,by omega,hlt,by rw [FG,hR,Ea hlt,Gc,hA,hV,hD,hS]; rfl⟩,by omega,by first | trivial | rfl⟩)
  · obtain rfl:k=x.binds.length:=by omega
    simp (disch:=omega) only [go_sem,Aa,hni]
    unfold Sb.ok
    rw [hR,zT,HQ]
    exact decide_eq_decide.2 (by omega)
theorem SU (x:Sb) (hn:x.tame):E 25 [x.sv] []=some (.bool x.ok,[]):=by
  have hl:=hn.1
  refine Af LK BS (of_decide_eq_true rfl) ?_
  simp (disch:=omega) only [HD,go_sem,Aa]
  refine go_loop (α:=Int) (fun a=>⟨slots 55 0 [(1,.ptr 0 0),(3,.int .i64 a)],[.box 31 [.arr (x.binds.map Bd.d)]]⟩) (fun a=>∃ k:Nat,a=k∧k≤(x.binds).length∧FG x.binds k=true) (fun a=>(x.binds).length-(a).toNat) 0 ⟨0,rfl,zN _,by rw [FG]⟩ (by simp (disch:=omega) only [go_sem,Aa]) ?_
  rintro i ⟨k,hi,hk,hR⟩
  have hni:i.toNat=k:=by omega
  have hni1:(i+1).toNat=k+1:=by omega
  rcases zD k (x.binds).length with hlt | hge
  · have hg:=get_at Bd.d hlt
    rw [Bd.d_eq] at hg
    have hv:=Lj x.binds[k].term (Sb.JZ hn hlt)
    cases k with
    | zero =>
      obtain rfl:i=0:=hi
      cases hA:Bh x.binds[0].var <;> cases hV:x.binds[0].term.valid <;> cases hD:dec (x.binds[0].term.name=x.binds[0].var)
      all_goals
        first
        | (have e:x.ok=false:=Sb.Nr hR (by rw [EE hlt,Gc,hA,hV,hD]; rfl) hlt
           rw [e]
           simp (disch:=omega) only [go_sem,Aa,hni,hg,hv,hA,hV,hD,Bf,Ap,Bt]
           done)
        | (simp (disch:=omega) only [go_sem,Aa,hni,hg,hv,hA,hV,hD,Bf,Ap,Bt]
           exact ⟨1,⟨1,rfl,hlt,by rw [FG,hR,EE hlt,Gc,hA,hV,hD]; rfl⟩,by omega,by first | trivial | rfl⟩)
    | succ j =>
      have hj:j<x.binds.length:=by omega
      have hg2:=get_at Bd.d hj
      rw [Bd.d_eq] at hg2
      have hni2:(i-1).toNat=j:=by omega
      have hLe:=Ox x.binds[j+1].var x.binds[j].var
      cases hS:strLt x.binds[j].var x.binds[j+1].var <;> cases hA:Bh x.binds[j+1].var <;> cases hV:x.binds[j+1].term.valid <;> cases hD:dec (x.binds[j+1].term.name=x.binds[j+1].var)
      all_goals
        first
        | (have e:x.ok=false:=Sb.Nr hR (by rw [Ea hlt,Gc,hA,hV,hD,hS]; rfl) hlt
           rw [e]
           simp (disch:=omega) only [go_sem,Aa,hni,hg,hv,hA,hV,hD,Bf,Ap,Bt,hS,hni2,hg2,hLe]
           done)
        | (simp (disch:=omega) only [go_sem,Aa,hni,hg,hv,hA,hV,hD,Bf,Ap,Bt,hS,hni2,hg2,hLe]
           exact ⟨i+1,⟨j+1+1,by omega,hlt,by rw [FG,hR,Ea hlt,Gc,hA,hV,hD,hS]; rfl⟩,by omega,by first | trivial | rfl⟩)
  · obtain rfl:k=x.binds.length:=by omega
    simp (disch:=omega) only [go_sem,Aa,hni]
    unfold Sb.ok
    rw [hR,zT,HQ]
    exact decide_eq_decide.2 (by omega)
theorem SW (x:Sb) (n:ByteArray) (hl:x.binds.length≤1099511627776):E 35 [x.sv,.str n] []=some (.int .i64 (Fl (fun b=>dec (b.var=n)) x.binds 0),[]):=by
 refine Af LL Eg (of_decide_eq_true rfl) ?_
 simp (disch:=omega) only [HE,go_sem,Aa]
 refine go_loop (α:=Int) (fun a=>⟨slots 22 0 [(1,.str n),(2,.ptr 0 0),(5,.int .i64 a)],[.box 31 [.arr (x.binds.map Bd.d)]]⟩) (fun a=>∃ k:Nat,a=k∧k≤(x.binds).length∧Fl (fun b=>dec (b.var=n)) (x.binds.drop k) a=Fl (fun b=>dec (b.var=n)) x.binds 0) (fun a=>(x.binds).length-(a).toNat) 0 ⟨0,rfl,zN _,by rw [zY]⟩ (by simp (disch:=omega) only [go_sem,Aa]) ?_
 rintro i ⟨k,hi,hk,hR⟩
 have hni:i.toNat=k:=by omega
 have hni1:(i+1).toNat=k+1:=by omega
 rcases zD k (x.binds).length with hlt | hge
 ·have hg:=get_at Bd.d hlt
  rw [Bd.d_eq] at hg
  rw [zO hlt,Fl] at hR
  cases hp:dec (x.binds[k].var=n) with
  | true =>
   rw [hp] at hR
   simp (disch:=omega) only [go_sem,Aa,hni,hg,hp]
   simpa using hR
  | false =>
   rw [hp] at hR
   simp (disch:=omega) only [go_sem,Aa,hni,hg,hp]
   exact ⟨i+1,⟨k+1,by omega,hlt,by simpa using hR⟩,by omega,by first | trivial | rfl⟩
 ·rw [zQ hge,Fl] at hR
  simp (disch:=omega) only [go_sem,Aa,hni]
  exact hR
def Jl (xs:List Bd):Prop:=∀ j k (h:j<k) (hk:k<xs.length),strLt xs[j].var xs[k].var=true
theorem UG {xs:List Bd} (h:FG xs xs.length=true):Jl xs:=by
 intro j k hjk hk
 induction k with
 | zero=>omega
 | succ k ih =>
  have h1:=Qo h hk
  rw [Ea hk,zA] at h1
  rcases zD j k with h2 | h2
  ·exact GU (ih h2 (by omega)) h1.2
  ·obtain rfl:j=k:=by omega
   exact h1.2
theorem Sb.Vg {x:Sb} (h:x.ok=true):Jl x.binds:=by
 unfold Sb.ok at h
 rw [zA] at h
 exact UG h.2
def AM:List Bd→ByteArray→Nat
 | [],_=>0
 | x :: xs,n=>if strLt x.var n then AM xs n+1 else 0
theorem Ka (n:ByteArray):∀ xs:List Bd,AM xs n≤xs.length
 | []=>z1 _
 | x :: xs=>by
  have:=Ka n xs
  rw [AM]; simp only [z7]; split <;> omega
theorem GV (n:ByteArray):∀ (xs:List Bd) (j:Nat) (h:j<xs.length),j<AM xs n→strLt xs[j].var n=true
 | [],j,h,_=>absurd h (by simp)
 | x :: xs,j,h,hj=>by
  rw [AM] at hj
  split at hj
  ·rename_i hx
   cases j with
   | zero=>exact hx
   | succ j=>exact GV n xs j (by simpa using h) (by omega)
  ·omega
theorem Ns (n:ByteArray):∀ (xs:List Bd) (h:AM xs n<xs.length),strLt (xs[AM xs n]).var n=false
 | [],h=>absurd h (by simp)
 | x :: xs,h=>by
  cases hx:strLt x.var n with
  | false =>
   have e:AM (x :: xs) n=0:=by rw [AM,if_neg (by rw [hx]; simp)]
   simp only [e,List.getElem_cons_zero]; exact hx
  | true =>
   have e:AM (x :: xs) n=AM xs n+1:=by rw [AM,if_pos hx]
   have h2:AM xs n<xs.length:=by rw [e] at h; simpa using h
   simp only [e,yF]; exact Ns n xs h2
theorem SY {xs:List Bd} (hs:Jl xs) (n:ByteArray) {m:Nat} (h:m<xs.length):strLt xs[m].var n=true ↔ m<AM xs n:=by
 constructor
 ·intro h1
  rcases zD m (AM xs n) with h2 | h2
  ·exact h2
  ·have h3:=Ns n xs (by omega)
   rcases zD (AM xs n) m with h4 | h4
   ·rw [GU (hs _ _ h4 h) h1] at h3; cases h3
   ·have e:AM xs n=m:=by omega
    simp only [e] at h3
    rw [h1] at h3; cases h3
 ·exact GV n xs m h
noncomputable def Eb (xs:List Bd) (n:ByteArray):Bool:=match xs[AM xs n]? with
 | none=>false
 | some b=>dec (b.var=n)
def Db:SC:=(.seq (.reg [⟨some 2,none,.boxv 58 3 (.t 0)⟩,⟨some 4,none,.mv (.c (.int .i64 0))⟩]) (.seq (.reg [⟨some 5,none,.faddr 0 (.t 2)⟩,⟨some 6,none,.load false 1 (.t 5)⟩,⟨some 7,none,.mv (.t 1)⟩,⟨some 8,none,.call 67 [(.t 6),(.t 7)]⟩,⟨some 4,none,.mv (.t 8)⟩]) .ret))
theorem Fg:Ar Try.prog 83=some ⟨9,Db,[(.tmp 4)]⟩:=by kernel_rfl
theorem BE:modes 83=⟨[],.asis,none,false⟩:=by unfold modes; rfl
theorem Cs:JK Try.prog 83=true:=by kernel_rfl
def AY:SC:=(.seq (.reg [⟨some 6,none,.mv (.c (.int .i64 0))⟩,⟨some 7,none,.mv (.c (.bool false))⟩]) (.seq (.reg [⟨some 12,none,.mv (.t 0)⟩,⟨some 13,none,.len false (.t 12)⟩,⟨some 8,none,.mv (.t 13)⟩]) (.seq (.reg [⟨some 14,none,.mv (.t 8)⟩,⟨some 9,none,.mv (.c (.int .i64 0))⟩,⟨some 10,none,.mv (.t 14)⟩]) (.seq (.block 0 (.loop [1,1,1,0,0,0,0,0,1,1,1,0,0,0,0,0,0,0,0,0,0,0,0,0,0,0,0,0,0,0,0,0,0,0,0,0,0,0,0,0,0,0,0,0,0,0,0,0,0] (.seq (.seq (.reg [⟨some 15,none,.mv (.t 9)⟩,⟨some 16,none,.mv (.t 10)⟩,⟨some 17,none,.bin .lss false (.t 15) (.t 16)⟩]) (.cond (.t 17) .skip (.exit 0))) (.block 1 (.seq (.reg [⟨some 18,none,.mv (.t 9)⟩,⟨some 19,none,.mv (.t 10)⟩,⟨some 20,none,.bin .add false (.t 18) (.t 19)⟩,⟨some 21,none,.conv .u64 (.t 20)⟩,⟨some 22,none,.bin .shr false (.t 21) (.c (.int .u64 1))⟩,⟨some 23,none,.conv .i64 (.t 22)⟩,⟨some 11,none,.mv (.t 23)⟩]) (.seq (.reg [⟨some 24,none,.mv (.t 2)⟩,⟨some 25,none,.mv (.t 0)⟩,⟨some 26,none,.mv (.t 11)⟩,⟨some 27,none,.iaddr 3 (.t 25) (.t 26)⟩,⟨some 28,none,.load true 3 (.t 27)⟩,⟨some 29,none,.mv (.t 1)⟩,⟨some 30,none,.callv (.t 24) [(.t 28),(.t 29)]⟩,⟨some 31,none,.bin .lss false (.t 30) (.c (.int .i64 0))⟩]) (.cond (.t 31) (.reg [⟨some 32,none,.mv (.t 11)⟩,⟨some 33,none,.bin .add false (.t 32) (.c (.int .i64 1))⟩,⟨some 9,none,.mv (.t 33)⟩]) (.reg [⟨some 34,none,.mv (.t 11)⟩,⟨some 10,none,.mv (.t 34)⟩])))))))) (.seq (.reg [⟨some 35,none,.mv (.t 9)⟩,⟨some 36,none,.mv (.t 9)⟩,⟨some 37,none,.mv (.t 8)⟩,⟨some 38,none,.bin .lss false (.t 36) (.t 37)⟩,⟨some 39,none,.mv (.t 38)⟩,⟨(some 40),(some (39,true)),(.mv (.t 2))⟩,⟨(some 41),(some (39,true)),(.mv (.t 0))⟩,⟨(some 42),(some (39,true)),(.mv (.t 9))⟩,⟨(some 43),(some (39,true)),(.iaddr 3 (.t 41) (.t 42))⟩,⟨(some 44),(some (39,true)),(.load true 3 (.t 43))⟩,⟨(some 45),(some (39,true)),(.mv (.t 1))⟩,⟨(some 46),(some (39,true)),(.callv (.t 40) [(.t 44),(.t 45)])⟩,⟨(some 47),(some (39,true)),(.bin .eql false (.t 46) (.c (.int .i64 0)))⟩,⟨some 48,none,.pick (.t 39) (.t 47) (.c (.bool false))⟩,⟨some 6,none,.mv (.t 35)⟩,⟨some 7,none,.mv (.t 48)⟩]) .ret)))))
theorem BP:Ar Try.prog 82=some ⟨49,AY,[(.tmp 6),(.tmp 7)]⟩:=by kernel_rfl
theorem AB:modes 82=⟨[],.asis,none,false⟩:=by unfold modes; rfl
def C1:SC:=(.seq (.reg [⟨some 2,none,.boxv 31 1 (.t 0)⟩,⟨(some 4),none,(.alloc 26 [(.str ⟨#[]⟩),.nil])⟩,⟨some 5,none,.mv (.c (.bool false))⟩]) (.seq (.reg [⟨some 9,none,.faddr 0 (.t 2)⟩,⟨some 10,none,.load false 1 (.t 9)⟩,⟨some 11,none,.mv (.t 1)⟩,⟨some 12,none,.call 82 [(.t 10),(.t 11),(.c (.fn 83 []))]⟩,⟨some 8,none,.mv (.t 12)⟩,⟨some 13,none,.ext (.t 8) 0⟩,⟨some 14,none,.ext (.t 8) 1⟩,⟨some 6,none,.mv (.t 13)⟩,⟨some 7,none,.mv (.t 14)⟩]) (.seq (.seq (.reg [⟨some 15,none,.mv (.t 7)⟩,⟨some 16,none,.un .not (.t 15)⟩]) (.cond (.t 16) (.seq (.reg [⟨(some 17),none,(.build [(.str ⟨#[]⟩),.nil] [])⟩,⟨none,none,(.store 2 (.t 4) (.t 17))⟩,⟨some 5,none,.mv (.c (.bool false))⟩]) .ret) .skip)) (.seq (.reg [⟨some 18,none,.faddr 0 (.t 2)⟩,⟨some 19,none,.load false 1 (.t 18)⟩,⟨some 20,none,.mv (.t 6)⟩,⟨some 21,none,.iaddr 3 (.t 19) (.t 20)⟩,⟨some 22,none,.faddr 1 (.t 21)⟩,⟨some 23,none,.load true 2 (.t 22)⟩,⟨none,none,(.store 2 (.t 4) (.t 23))⟩,⟨some 5,none,.mv (.c (.bool true))⟩]) .ret))))
theorem Ds:Ar Try.prog 68=some ⟨24,C1,[(.cell 4 true 2),(.tmp 5)]⟩:=by kernel_rfl
theorem BT:modes 68=⟨[],.frz,none,false⟩:=by unfold modes; rfl
theorem Qp (b:Bd) (n:ByteArray):E 83 [b.sv,.str n] []=some (.int .i64 (P1 b.var n),[]):=by
 have h:=P2 b.var n
 refine Af Fg BE (of_decide_eq_true rfl) ?_
 simp (disch:=omega) only [Db,go_sem,Aa,h,Cy]
theorem M9 (xs:List Bd) (n:ByteArray) (hl:xs.length≤1099511627776) (hs:Jl xs):E 82 [.arr (xs.map Bd.d),.str n,.fn 83 []] []=some (.tup [.int .i64 (AM xs n:Nat),.bool (Eb xs n)],[]):=by
 have hlow:=Ka n xs
 obtain ⟨L,hL⟩:∃ L:Int,L=(AM xs n:Nat):=⟨_,rfl⟩
 rw [←hL]
 refine Af BP AB (of_decide_eq_true rfl) ?_
 simp (disch:=omega) only [AY,go_sem,Aa]
 refine go_loop (α:=Int × Int) (fun a=>⟨slots 49 0 [(0,.arr (xs.map Bd.d)),(1,.str n),(2,.fn 83 []),(8,.int .i64 xs.length),(9,.int .i64 a.1),(10,.int .i64 a.2)],[]⟩) (fun a=>0≤a.1∧a.1≤L∧L≤a.2∧a.2≤xs.length) (fun a=>(a.2-a.1).toNat) (0,xs.length) ⟨by simp,by dsimp only; omega,by dsimp only; omega,by dsimp only; omega⟩ (by simp (disch:=omega) only [go_sem,Aa]) ?_
 rintro ⟨i,j⟩ ⟨h0,h1,h2,h3⟩
 dsimp only at h0 h1 h2 h3
 rcases Int.lt_or_le i j with hij | hij
 ·obtain ⟨m,hm⟩:∃ m:Nat,(i+j) / 2=(m:Int):=⟨((i+j) / 2).toNat,by omega⟩
  have hlt:m<xs.length:=by omega
  have hni:(m:Int).toNat=m:=yG m
  have hg:=get_at Bd.d hlt
  rw [Bd.d_eq] at hg
  have hc:=Qp xs[m] n
  have hw:IntKind.u64.wrap (i+j)=i+j:=wrap_u64 (by omega) (by omega)
  have hi:=SY hs n hlt
  obtain ⟨M,hM⟩:∃ M:Int,(i+j) / 2=M:=⟨_,rfl⟩
  have hni:M.toNat=m:=by omega
  cases hq:strLt xs[m].var n with
  | true =>
   have hi2:=hi.1 hq
   simp (disch:=omega) only [go_sem,Aa,hw,hni,hg,hc,Cs,BE,Oy,hq,hM]
   exact ⟨(M+1,j),⟨by dsimp only; omega,by dsimp only; omega,by dsimp only; omega,by dsimp only; omega⟩,by dsimp only; omega,by first | trivial | rfl⟩
  | false =>
   have hi2:¬ m<AM xs n:=by rw [←hi,hq]; simp
   simp (disch:=omega) only [go_sem,Aa,hw,hni,hg,hc,Cs,BE,Oy,hq,hM]
   exact ⟨(i,M),⟨by dsimp only; omega,by dsimp only; omega,by dsimp only; omega,by dsimp only; omega⟩,by dsimp only; omega,by first | trivial | rfl⟩
 ·obtain rfl:i=L:=by omega
  rcases zD (AM xs n) xs.length with hlt | hge
  ·have hg:=get_at Bd.d hlt
   rw [Bd.d_eq] at hg
   have hni:i.toNat=AM xs n:=by omega
   have hc:=Qp xs[AM xs n] n
   have hh:Eb xs n=dec (xs[AM xs n].var=n):=by unfold Eb; rw [zM hlt]
   rw [hh]
   simp (disch:=omega) only [go_sem,Aa,hni,hg,hc,Cs,BE,Rq]
  ·have hh:Eb xs n=false:=by unfold Eb; rw [yI hge]
   rw [hh]
   simp (disch:=omega) only [go_sem,Aa]
theorem O0 {α:Type} (p:α→Bool):∀ (xs:List α) (k:Nat) (i:Int) (h:k<xs.length),(∀ j (hj:j<k),p xs[j]=false)→p xs[k]=true→Fl p xs i=i+k
 | [],k,i,h,_,_=>absurd h (by simp)
 | x :: xs,0,i,h,_,hp=>by rw [Fl,if_pos (show p x=true from hp)]; simp
 | x :: xs,k+1,i,h,hb,hp=>by
  have h0:p x=false:=hb 0 (by omega)
  have:=O0 p xs k (i+1) (by simpa using h) (fun j hj=>hb (j+1) (by omega)) hp
  rw [Fl,if_neg (by rw [h0]; simp),this]; omega
theorem Nt {α:Type} (p:α→Bool):∀ (xs:List α) (i:Int),(∀ j (hj:j<xs.length),p xs[j]=false)→Fl p xs i=-1
 | [],i,_=>by rw [Fl]
 | x :: xs,i,h=>by
  have h0:p x=false:=h 0 (by simp)
  rw [Fl,if_neg (by rw [h0]; simp)]
  exact Nt p xs (i+1) fun j hj=>h (j+1) (by simpa using hj)
theorem O1 {xs:List Bd} (hs:Jl xs) (n:ByteArray):Fl (fun b=>dec (b.var=n)) xs 0=if Eb xs n then ((AM xs n:Nat):Int) else -1:=by
 have before:∀ j (hj:j<xs.length),j<AM xs n→dec (xs[j].var=n)=false:=fun j hj hL=>Bg (Ln (GV n xs j hj hL))
 rcases zD (AM xs n) xs.length with hlt | hge
 ·have hh:Eb xs n=dec (xs[AM xs n].var=n):=by unfold Eb; rw [zM hlt]
  cases hq:dec (xs[AM xs n].var=n) with
  | true =>
   rw [hh,hq,if_pos rfl,O0 _ xs (AM xs n) 0 hlt (fun j hj=>before j (by omega) hj) hq]; omega
  | false =>
   rw [hh,hq,if_neg (by simp)]
   refine Nt _ xs 0 fun j hj=>?_
   rcases Nat.lt_trichotomy j (AM xs n) with h | h | h
   ·exact before j hj h
   ·subst h; exact hq
   ·refine Bg fun e=>?_
    have h1:=hs _ _ h hj
    rw [e,Ns n xs hlt] at h1
    cases h1
 ·have hh:Eb xs n=false:=by unfold Eb; rw [yI hge]
  rw [hh,if_neg (by simp)]
  exact Nt _ xs 0 fun j hj=>before j hj (by omega)
theorem Hw {xs:List Bd} {n:ByteArray} (h:Eb xs n=true):AM xs n<xs.length:=by
 rcases zD (AM xs n) xs.length with h1 | h1
 ·exact h1
 ·unfold Eb at h; rw [yI h1] at h; cases h
noncomputable def Sb.look (x:Sb) (n:ByteArray):Option Tm:=if h:Eb x.binds n=true then some (x.binds[AM x.binds n]'(Hw h)).term else none
theorem P3 (x:Sb) (hx:Jl x.binds) (n:ByteArray) (hl:x.binds.length≤1099511627776) (hh:Eb x.binds n=true) (hlt:AM x.binds n<x.binds.length):E 68 [x.sv,.str n] []=some (.tup [(x.binds[AM x.binds n]).term.sv,.bool true],[]):=by
 have hb:=M9 x.binds n hl hx
 have hg:=get_at Bd.d hlt
 rw [Bd.d_eq] at hg
 have hni:((AM x.binds n:Nat):Int).toNat=AM x.binds n:=yG _
 refine Af Ds BT (of_decide_eq_true rfl) ?_
 simp (disch:=omega) only [C1,go_sem,Aa,hb,hni,hg,hh,AB]
theorem Rs (x:Sb) (hx:Jl x.binds) (n:ByteArray) (hl:x.binds.length≤1099511627776) (hh:Eb x.binds n=false):E 68 [x.sv,.str n] []=some (.tup [.agg [.str ⟨#[]⟩,.arr []],.bool false],[]):=by
 have hb:=M9 x.binds n hl hx
 refine Af Ds BT (of_decide_eq_true rfl) ?_
 simp (disch:=omega) only [C1,go_sem,Aa,hb,hh,AB]
mutual
noncomputable def Tm.ap (f:ByteArray→Option Tm):Tm→Tm
 | .mk name args=>if Bh name then (f name).getD (.mk name []) else .mk name (Tm.apL f args)
noncomputable def Tm.apL (f:ByteArray→Option Tm):List Tm→List Tm
 | []=>[]
 | x :: xs=>Tm.ap f x :: Tm.apL f xs
end
theorem Tm.Fh (f:ByteArray→Option Tm) (x:Tm):x.ap f=if Bh x.name then (f x.name).getD (.mk x.name []) else .mk x.name (Tm.apL f x.args):=by
 obtain ⟨name,args⟩:=x
 rw [Tm.ap]; rfl
theorem Tm.Nu (f:ByteArray→Option Tm):∀ xs:List Tm,(Tm.apL f xs).length=xs.length
 | []=>by rw [Tm.apL]
 | x :: xs=>by rw [Tm.apL]; simp only [z7,Tm.Nu f xs]
theorem Tm.Gw (f:ByteArray→Option Tm):∀ xs:List Tm,Tm.apL f xs=xs.map (Tm.ap f)
 | []=>by rw [Tm.apL]; rfl
 | x :: xs=>by rw [Tm.apL,Tm.Gw f xs]; rfl
def okF (f:ByteArray→Option Tm):Prop:=∀ n t,f n=some t→t.names=true∧t.nodes≤30
theorem Tm.Lo (f:ByteArray→Option Tm):∀ xs:List Tm,(∀ y∈xs,(y.ap f).names=true)→Tm.Dm (Tm.apL f xs)=true
 | [],_=>by rw [Tm.apL,Tm.Dm]
 | x :: xs,h=>by rw [Tm.apL,Tm.Dm,h x (by simp),Tm.Lo f xs fun y hy=>h y (by simp [hy])]; rfl
theorem Tm.Lp {f:ByteArray→Option Tm} (hf:okF f) (x:Tm) (hx:x.names=true):(x.ap f).names=true:=by
 rw [Tm.Fh]
 rw [Tm.EW] at hx
 split
 ·rename_i hv
  cases hq:f x.name with
  | none =>
   rw [yT,Tm.EW]
   show (if Bh x.name then _ else _)=true
   rw [if_pos hv]; rfl
  | some t=>exact (hf _ _ hq).1
 ·rename_i hv
  rw [if_neg hv,zA,zA] at hx
  rw [Tm.EW]
  show (if Bh x.name then _ else Ep x.name&&decide ((Tm.apL f x.args).length≤4)&&Tm.Dm (Tm.apL f x.args))=true
  rw [if_neg hv,Tm.Nu,hx.1.1,hx.1.2,Tm.Lo f x.args fun y hy=>Tm.Lp hf y (by
   have:=hx.2
   rw [Tm.DX,zZ] at this
   exact this y hy)]
  rfl
termination_by SizeOf.sizeOf x
decreasing_by exact Tm.A8 hy
theorem Tm.O2 {f:ByteArray→Option Tm}:∀ xs:List Tm,(∀ y∈xs,(y.ap f).nodes≤30*y.nodes)→Tm.AK (Tm.apL f xs)≤30*Tm.AK xs
 | [],_=>by rw [Tm.apL,Tm.AK]; omega
 | x :: xs,h=>by
  have h1:=h x (by simp)
  have h2:=Tm.O2 xs fun y hy=>h y (by simp [hy])
  rw [Tm.apL,Tm.AK,Tm.AK]; omega
theorem Tm.O3 {f:ByteArray→Option Tm} (hf:okF f) (x:Tm):(x.ap f).nodes≤30*x.nodes:=by
 have hp:=Tm.M2 x
 rw [Tm.Fh]
 split
 ·cases hq:f x.name with
  | none =>
   have:(Tm.mk x.name []).nodes=1+Tm.AK []:=Tm.Aj (Tm.mk x.name [])
   rw [Tm.AK] at this
   rw [yT]; omega
  | some t=>have:=(hf _ _ hq).2; rw [yS]; omega
 ·have h1:(Tm.mk x.name (Tm.apL f x.args)).nodes=1+Tm.AK (Tm.apL f x.args):=Tm.Aj (Tm.mk x.name (Tm.apL f x.args))
  have h2:=Tm.O2 (f:=f) x.args fun y hy=>Tm.O3 hf y
  have h3:=Tm.Aj x
  omega
termination_by SizeOf.sizeOf x
decreasing_by exact Tm.A8 hy
theorem Tm.Wl {f:ByteArray→Option Tm} (hf:okF f) (x:Tm) (hx:(x.valid || x.atom)=true):((x.ap f).valid || (x.ap f).atom)=(x.ap f).small:=by
 cases hs:(x.ap f).small with
 | false =>
  have h1:(x.ap f).valid=false:=by unfold Tm.valid; rw [hs]; rfl
  have h2:(x.ap f).atom=false:=by
   unfold Tm.atom; split
   ·rw [hs,zU,yP]
   ·rw [h1,zU]
  rw [h1,h2]; rfl
 | true =>
  cases hn:x.names with
  | true =>
   have:(x.ap f).valid=true:=by unfold Tm.valid; rw [hs,Tm.Lp hf x hn]; rfl
   rw [this]; rfl
  | false =>
   have hv:x.valid=false:=by unfold Tm.valid; rw [hn,zU]
   rw [hv,yL] at hx
   unfold Tm.atom at hx
   split at hx
   ·rename_i he
    rw [zA,zA] at hx
    have hname:x.name=⟨#[61]⟩:=by unfold Tm.eqn at he; exact At.1 he
    have hnv0:Bh ⟨#[61]⟩=false:=by kernel_rfl
    have hnv:¬ (Bh x.name=true):=by rw [hname,hnv0]; simp
    have e:x.ap f=.mk x.name (Tm.apL f x.args):=by rw [Tm.Fh,if_neg hnv]
    have:(x.ap f).atom=true:=by
     have he2:(x.ap f).eqn=true:=by rw [e]; exact he
     unfold Tm.atom
     rw [if_pos he2,hs]
     rw [e]
     show ((Tm.apL f x.args).length == 2&&true&&Tm.Dm (Tm.apL f x.args))=true
     rw [Tm.Nu,hx.1.1,Tm.Lo f x.args fun y hy=>Tm.Lp hf y (by
      have:=hx.2
      rw [Tm.DX,zZ] at this
      exact this y hy)]
     rfl
    rw [this,Bool.or_true]
   ·rw [hv,zU] at hx; cases hx
theorem Tm.EF {x:Tm} (h:x.names=true) (hv:Bh x.name=true):x.args=[]:=by
 rw [Tm.EW,if_pos hv] at h
 exact zF (by simpa using h)
theorem Tm.EG {x:Tm} (h:x.names=true) {y:Tm} (hy:y∈x.args):y.names=true:=by
 rw [Tm.EW] at h
 split at h
 ·have:x.args=[]:=zF (by simpa using h)
  rw [this] at hy; cases hy
 ·rw [zA,Tm.DX,zZ] at h
  exact h.2 y hy
theorem Sb.SZ {x:Sb} (h:x.ok=true) {k:Nat} (hk:k<x.binds.length):Gc x.binds[k]=true:=by
 unfold Sb.ok at h
 rw [zA] at h
 exact UF hk (Qo h.2 hk)
theorem Ta {x:Bd} (h:Gc x=true):Bh x.var=true:=by unfold Gc at h; rw [zA] at h; exact h.1
theorem P4 {x:Bd} (h:Gc x=true):x.term.valid=true:=by unfold Gc at h; rw [zA,zA] at h; exact h.2.1
theorem Nv {xs:List Bd} {n:ByteArray} (h:Eb xs n=true) (hlt:AM xs n<xs.length):(xs[AM xs n]).var=n:=by
 have hh:Eb xs n=dec (xs[AM xs n].var=n):=by unfold Eb; rw [zM hlt]
 rw [hh] at h
 exact At.1 h
theorem Sb.O4 {x:Sb} (h:x.ok=true):okF x.look:=by
 intro n t ht
 unfold Sb.look at ht
 split at ht
 ·rename_i hh
  have hv:=P4 (Sb.SZ h (Hw hh))
  obtain rfl:=zK ht
  unfold Tm.valid Tm.small at hv
  rw [zA,zA,decide_eq_true_eq] at hv
  exact ⟨hv.2,hv.1.1⟩
 ·cases ht
theorem Sb.IE {x:Sb} {n:ByteArray} (h:Eb x.binds n=true) (hlt:AM x.binds n<x.binds.length):x.look n=some (x.binds[AM x.binds n]).term:=by
 unfold Sb.look; rw [dif_pos h]
theorem Sb.Kb {x:Sb} {n:ByteArray} (h:Eb x.binds n=false):x.look n=none:=by
 unfold Sb.look; rw [dif_neg (by rw [h]; simp)]
def Sb.fine (s:Sb):Prop:=Jl s.binds∧∀ b∈s.binds,Bh b.var=true
theorem Sb.Qq {s:Sb} (h:s.ok=true):s.fine:=⟨Sb.Vg h,fun b hb=>by
 obtain ⟨k,hk,rfl⟩:=List.getElem_of_mem hb
 exact Ta (Sb.SZ h hk)⟩
def BM:SC:=(.seq (.reg [⟨some 2,none,.boxv 31 1 (.t 0)⟩,⟨some 3,none,.boxv 26 2 (.t 1)⟩,⟨(some 4),none,(.alloc 26 [(.str ⟨#[]⟩),.nil])⟩]) (.seq (.seq (.reg [⟨some 10,none,.faddr 1 (.t 3)⟩,⟨some 11,none,.load false 1 (.t 10)⟩,⟨some 12,none,.len false (.t 11)⟩,⟨some 13,none,.bin .eql false (.t 12) (.c (.int .i64 0))⟩]) (.cond (.t 13) (.seq (.seq (.reg [⟨some 15,none,.load true 1 (.t 2)⟩,⟨some 16,none,.faddr 0 (.t 3)⟩,⟨some 17,none,.load false 1 (.t 16)⟩,⟨some 18,none,.call 68 [(.t 15),(.t 17)]⟩,⟨some 14,none,.mv (.t 18)⟩,⟨some 19,none,.ext (.t 14) 0⟩,⟨some 20,none,.ext (.t 14) 1⟩,⟨(some 5),none,(.alloc 26 [(.str ⟨#[]⟩),.nil])⟩,⟨none,none,(.store 2 (.t 5) (.t 19))⟩,⟨some 6,none,.mv (.t 20)⟩]) (.seq (.reg [⟨some 21,none,.mv (.t 6)⟩]) (.cond (.t 21) (.seq (.reg [⟨some 22,none,.load true 2 (.t 5)⟩,⟨some 23,none,.call 64 [(.t 22)]⟩,⟨none,none,(.store 2 (.t 4) (.t 23))⟩]) .ret) .skip))) (.seq (.reg [⟨some 24,none,.faddr 0 (.t 3)⟩,⟨some 25,none,.load false 1 (.t 24)⟩,⟨(some 26),none,(.build [(.str ⟨#[]⟩),.nil] [(0,(1,(.t 25)))])⟩,⟨none,none,(.store 2 (.t 4) (.t 26))⟩]) .ret)) .skip)) (.seq (.dreg [[],[0],[],[2],[3,2],[4,3,2],[1,0,5,4,3,2],[],[7,6,1,0,5,4,3,2]] [⟨some 27,none,.faddr 0 (.t 3)⟩,⟨some 28,none,.load false 1 (.t 27)⟩,⟨some 29,none,.faddr 1 (.t 3)⟩,⟨some 30,none,.load false 1 (.t 29)⟩,⟨some 31,none,.len false (.t 30)⟩,⟨(some 32),none,(.mkslice 26 2 40 [(.str ⟨#[]⟩),.nil] (.t 31))⟩,⟨(some 33),none,(.build [(.str ⟨#[]⟩),.nil] [(0,(1,(.t 28))),(1,(1,(.t 32)))])⟩,⟨(some 7),none,(.alloc 26 [(.str ⟨#[]⟩),.nil])⟩,⟨none,none,(.store 2 (.t 7) (.t 33))⟩]) (.seq (.seq (.reg [⟨some 34,none,.faddr 1 (.t 3)⟩,⟨some 35,none,.load false 1 (.t 34)⟩,⟨some 36,none,.len false (.t 35)⟩,⟨some 37,none,.mv (.c (.int .i64 0))⟩]) (.block 0 (.loop [0,0,1,0,1,0,0,1,0,0,0,0,0,0,0,0,0,0,0,0,0,0,0,0,0,0,0,0,0,0,0,0,0,0,0,1,1,1,0,0,0,0,0,0,0,0,0,0,0,0,0] (.seq (.reg [⟨some 38,none,.bin .lss false (.t 37) (.t 36)⟩]) (.seq (.cond (.t 38) .skip (.exit 0)) (.seq (.block 1 (.seq (.reg [⟨some 39,none,.mv (.t 37)⟩,⟨some 40,none,.iaddr 2 (.t 35) (.t 37)⟩,⟨some 41,none,.load true 2 (.t 40)⟩,⟨(some 9),none,(.alloc 26 [(.str ⟨#[]⟩),.nil])⟩,⟨some 8,none,.mv (.t 39)⟩,⟨none,none,(.store 2 (.t 9) (.t 41))⟩]) (.dreg [[],[0],[],[],[],[3,4],[1,0,2,3,4,5],[6,1,0,2,3,4,5]] [⟨some 42,none,.faddr 1 (.t 7)⟩,⟨some 43,none,.load false 1 (.t 42)⟩,⟨some 44,none,.mv (.t 8)⟩,⟨some 45,none,.load true 1 (.t 2)⟩,⟨some 46,none,.load true 2 (.t 9)⟩,⟨some 47,none,.call 45 [(.t 45),(.t 46)]⟩,⟨some 48,none,.iaddr 2 (.t 43) (.t 44)⟩,⟨none,none,(.store 2 (.t 48) (.t 47))⟩]))) (.reg [⟨some 49,none,.bin .add false (.t 37) (.c (.int .i64 1))⟩,⟨some 37,none,.mv (.t 49)⟩]))))))) (.seq (.reg [⟨some 50,none,.load true 2 (.t 7)⟩,⟨none,none,(.store 2 (.t 4) (.t 50))⟩]) .ret)))))
theorem Cu:Ar Try.prog 45=some ⟨51,BM,[(.cell 4 true 2)]⟩:=by kernel_rfl
theorem Bj:modes 45=⟨[],.own [none,some (26,2)],none,false⟩:=by unfold modes; rfl
def DB:SC:=(.seq (.reg [⟨some 2,none,.boxv 31 1 (.t 0)⟩,⟨some 3,none,.boxv 26 2 (.t 1)⟩,⟨(some 4),none,(.alloc 26 [(.str ⟨#[]⟩),.nil])⟩]) (.seq (.seq (.reg [⟨some 8,none,.faddr 0 (.t 3)⟩,⟨some 9,none,.load false 1 (.t 8)⟩,⟨some 10,none,.call 34 [(.t 9)]⟩]) (.cond (.t 10) (.seq (.seq (.reg [⟨some 11,none,.load true 1 (.t 2)⟩,⟨some 12,none,.faddr 0 (.t 3)⟩,⟨some 13,none,.load false 1 (.t 12)⟩,⟨some 14,none,.call 35 [(.t 11),(.t 13)]⟩,⟨some 5,none,.mv (.t 14)⟩]) (.seq (.reg [⟨some 15,none,.mv (.t 5)⟩,⟨some 16,none,.bin .geq false (.t 15) (.c (.int .i64 0))⟩]) (.cond (.t 16) (.seq (.reg [⟨some 17,none,.faddr 0 (.t 2)⟩,⟨some 18,none,.load false 1 (.t 17)⟩,⟨some 19,none,.mv (.t 5)⟩,⟨some 20,none,.iaddr 3 (.t 18) (.t 19)⟩,⟨some 21,none,.faddr 1 (.t 20)⟩,⟨some 22,none,.load true 2 (.t 21)⟩,⟨some 23,none,.call 36 [(.t 22)]⟩,⟨none,none,(.store 2 (.t 4) (.t 23))⟩]) .ret) .skip))) (.seq (.reg [⟨some 24,none,.faddr 0 (.t 3)⟩,⟨some 25,none,.load false 1 (.t 24)⟩,⟨(some 26),none,(.build [(.str ⟨#[]⟩),.nil] [(0,(1,(.t 25)))])⟩,⟨none,none,(.store 2 (.t 4) (.t 26))⟩]) .ret)) .skip)) (.seq (.reg [⟨some 27,none,.faddr 0 (.t 3)⟩,⟨some 28,none,.load false 1 (.t 27)⟩,⟨(some 29),none,(.build [(.str ⟨#[]⟩),.nil] [(0,(1,(.t 28)))])⟩,⟨(some 6),none,(.alloc 26 [(.str ⟨#[]⟩),.nil])⟩,⟨none,none,(.store 2 (.t 6) (.t 29))⟩]) (.seq (.seq (.reg [⟨some 7,none,.mv (.c (.int .i64 0))⟩]) (.block 0 (.loop [0,0,1,1,1,0,1,1,0,0,0,0,0,0,0,0,0,0,0,0,0,0,0,0,0,0,0,0,0,0,0,0,0,0,0,0,0,0,0,0,0,0,0,0,0,0,0,0,0,0] (.seq (.seq (.reg [⟨some 30,none,.mv (.t 7)⟩,⟨some 31,none,.faddr 1 (.t 3)⟩,⟨some 32,none,.load false 1 (.t 31)⟩,⟨some 33,none,.len false (.t 32)⟩,⟨some 34,none,.bin .lss false (.t 30) (.t 33)⟩]) (.cond (.t 34) .skip (.exit 0))) (.seq (.block 1 (.dreg [[],[0],[],[],[3],[],[4,3,5],[6,4,3,5],[2,7,6,4,3,5],[8,2,7,6,4,3,5],[1,0,9,8,2,7,6,4,3,5],[0,1,2,3,4,5,6,7,8,9,10],[11,0,1,2,3,4,5,6,7,8,9,10]] [⟨some 37,none,.faddr 1 (.t 6)⟩,⟨some 38,none,.load false 1 (.t 37)⟩,⟨some 39,none,.load true 1 (.t 2)⟩,⟨some 40,none,.faddr 1 (.t 3)⟩,⟨some 41,none,.load false 1 (.t 40)⟩,⟨some 42,none,.mv (.t 7)⟩,⟨some 43,none,.iaddr 2 (.t 41) (.t 42)⟩,⟨some 44,none,.load true 2 (.t 43)⟩,⟨some 45,none,.call 17 [(.t 39),(.t 44)]⟩,⟨(some 46),none,(.mkrow 26 2 [(.str ⟨#[]⟩),.nil] 1 [(0,(.t 45))])⟩,⟨(some 47),none,(.append 26 2 40 [(.str ⟨#[]⟩),.nil] (.t 38) (.t 46))⟩,⟨some 48,none,.faddr 1 (.t 6)⟩,⟨none,none,(.store 1 (.t 48) (.t 47))⟩])) (.reg [⟨some 35,none,.mv (.t 7)⟩,⟨some 36,none,.bin .add false (.t 35) (.c (.int .i64 1))⟩,⟨some 7,none,.mv (.t 36)⟩])))))) (.seq (.reg [⟨some 49,none,.load true 2 (.t 6)⟩,⟨none,none,(.store 2 (.t 4) (.t 49))⟩]) .ret)))))
theorem Fi:Ar Try.prog 17=some ⟨50,DB,[(.cell 4 true 2)]⟩:=by kernel_rfl
theorem AZ:modes 17=⟨[],.own [none,some (26,2)],none,false⟩:=by unfold modes; rfl
theorem O5 (s:Sb) (hs:s.fine) (ht:s.tame) (x:Tm) (hx:Bh x.name=true→x.args=[]) (hn:x.nodes≤1099511627776) (ih:∀ y∈x.args,E 45 [s.sv,y.sv] []=some ((y.ap s.look).osv,(y.ap s.look).obs)):E 45 [s.sv,x.sv] []=some ((x.ap s.look).osv,(x.ap s.look).obs):=by
 have hsl:=ht.1
 have hl:=Tm.length_le x.args
 have hne:=Tm.Aj x
 rcases zJ x.args.length with h0 | h0
 ·have hx0:x.args=[]:=zF h0
  cases hh:Eb s.binds x.name with
  | true =>
   have hlt:=Hw hh
   have hc:=P3 s hs.1 x.name hsl hh hlt
   have hd:=EX (s.binds[AM s.binds x.name]).term (Sb.JZ ht hlt)
   have hv:Bh x.name=true:=by rw [←Nv hh hlt]; exact hs.2 _ (zH hlt)
   have e:x.ap s.look=(s.binds[AM s.binds x.name]).term:=by rw [Tm.Fh,if_pos hv,Sb.IE hh hlt]; rfl
   rw [e]
   refine Af Cu Bj (of_decide_eq_true rfl) ?_
   simp (disch:=omega) only [BM,go_sem,Aa,hx0,hc,hd,zL,yA,BT,Ax,Tm.osv,Tm.obs]
  | false =>
   have hc:=Rs s hs.1 x.name hsl hh
   have e:x.ap s.look=.mk x.name []:=by
    rw [Tm.Fh,Sb.Kb hh,hx0]
    split
    ·rfl
    ·rw [Tm.apL]
   rw [e]
   have e1:(Tm.mk x.name []).osv=.agg [.str x.name,.ref 0]:=rfl
   have e2:(Tm.mk x.name []).obs=[.row 26 2 []]:=rfl
   rw [e1,e2]
   refine Af Cu Bj (of_decide_eq_true rfl) ?_
   simp (disch:=omega) only [BM,go_sem,Aa,hx0,hc,zL,yA,BT]
 ·have hv:¬ Bh x.name=true:=fun h=>by rw [hx h] at h0; simp at h0
  have e:x.ap s.look=.mk x.name (x.args.map (Tm.ap s.look)):=by rw [Tm.Fh,if_neg hv,Tm.Gw]
  rw [e]
  have e1:(Tm.mk x.name (x.args.map (Tm.ap s.look))).osv=.agg [.str x.name,.ref 0]:=rfl
  have e2:(Tm.mk x.name (x.args.map (Tm.ap s.look))).obs=[.row 26 2 ((x.args.map (Tm.ap s.look)).map Tm.o)]:=rfl
  rw [e1,e2]
  have hrl:zE x.args.length ([.str ⟨#[]⟩,.ow []]:List OT)=EV Tm.o [.str ⟨#[]⟩,.ow []] (x.args.map (Tm.ap s.look)) 0:=by rw [Ld,zX]
  refine Af Cu Bj (of_decide_eq_true rfl) ?_
  simp (disch:=omega) only [BM,go_sem,Aa]
  refine go_loop (α:=Int) (fun a=>⟨slots 51 0 [(2,.ptr 0 0),(4,.ptr 1 0),(7,.ptr 2 0),(35,.arr (x.args.map Tm.d)),(36,.int .i64 x.args.length),(37,.int .i64 a)],[.box 31 [.arr (s.binds.map Bd.d)],.box 26 [.str ⟨#[]⟩,.nil],.box 26 [.str x.name,.ref 3],.row 26 2 (EV Tm.o [.str ⟨#[]⟩,.ow []] (x.args.map (Tm.ap s.look)) a.toNat)]⟩) (fun a=>∃ k:Nat,a=k∧k≤(x.args).length) (fun a=>(x.args).length-(a).toNat) 0 ⟨0,rfl,zN _⟩ (by simp (disch:=omega) only [go_sem,Aa,hrl,Int.toNat_zero]) ?_
  rintro i ⟨k,hi,hk⟩
  have hni:i.toNat=k:=by omega
  have hni1:(i+1).toNat=k+1:=by omega
  rcases zD k (x.args).length with hlt | hge
  ·have hg:=get_at Tm.d hlt
   rw [Tm.d_eq] at hg
   have hltm:k<(x.args.map (Tm.ap s.look)).length:=by rw [zX]; exact hlt
   have hz:=M0 Tm.o [.str ⟨#[]⟩,.ow []] hltm
   have hc:=ih x.args[k] (zH hlt)
   have hse:=M1 Tm.o [.str ⟨#[]⟩,.ow []] hltm
   rw [Tm.Hz,yJ] at hse
   simp (disch:=omega) only [go_sem,Aa,hni,hg,hc,hz,My,zX,Bj,Tm.osv,Tm.obs]
   refine ⟨i+1,⟨k+1,by omega,hlt⟩,by omega,?_⟩
   simp (disch:=omega) only [go_sem,Aa,hni1,hse]
  ·obtain rfl:k=x.args.length:=by omega
   have hend:EV Tm.o [.str ⟨#[]⟩,.ow []] (x.args.map (Tm.ap s.look)) x.args.length=(x.args.map (Tm.ap s.look)).map Tm.o:=by
    have:=Mz Tm.o [.str ⟨#[]⟩,.ow []] (xs:=x.args.map (Tm.ap s.look))
    rwa [zX] at this
   simp (disch:=omega) only [go_sem,Aa,hni,hend]
theorem Qr (s:Sb) (hs:s.fine) (ht:s.tame) (x:Tm) (hx:x.names=true) (hn:x.nodes≤1099511627776):E 45 [s.sv,x.sv] []=some ((x.ap s.look).osv,(x.ap s.look).obs) :=
 O5 s hs ht x (Tm.EF hx) hn fun y hy=>Qr s hs ht y (Tm.EG hx hy) (by have:=Tm.AU hy; have:=Tm.Aj x; omega)
termination_by SizeOf.sizeOf x
decreasing_by exact Tm.A8 hy
theorem UH (s:Sb) (hs:s.ok=true) (ht:s.tame) (x:Tm) (hx:x.names=true) (hn:x.nodes≤1099511627776):E 45 [s.sv,x.sv] []=some ((x.ap s.look).osv,(x.ap s.look).obs):=Qr s (Sb.Qq hs) ht x hx hn
theorem P5 (s:Sb) (hs:s.fine) (ht:s.tame) (x:Tm) (hn:x.nodes≤1099511627776) (ih:∀ y∈x.args,E 17 [s.sv,y.sv] []=some ((y.ap s.look).osv,(y.ap s.look).obs)):E 17 [s.sv,x.sv] []=some ((x.ap s.look).osv,(x.ap s.look).obs):=by
 have hsl:=ht.1
 have hl:=Tm.length_le x.args
 have hne:=Tm.Aj x
 have hf:=SW s x.name hsl
 rw [O1 hs.1] at hf
 cases hv:Bh x.name with
 | true =>
  cases hh:Eb s.binds x.name with
  | true =>
   have hlt:=Hw hh
   have hg:=get_at Bd.d hlt
   rw [Bd.d_eq] at hg
   have hni:((AM s.binds x.name:Nat):Int).toNat=AM s.binds x.name:=yG _
   have hd:=JY (s.binds[AM s.binds x.name]).term (Sb.JZ ht hlt)
   have e:x.ap s.look=(s.binds[AM s.binds x.name]).term:=by rw [Tm.Fh,if_pos hv,Sb.IE hh hlt]; rfl
   rw [hh,if_pos rfl] at hf
   rw [e]
   refine Af Fi AZ (of_decide_eq_true rfl) ?_
   simp (disch:=omega) only [DB,go_sem,Aa,hv,hf,hg,hni,hd,Eg,Ap,Bt,Cw,Tm.osv,Tm.obs]
  | false =>
   have e:x.ap s.look=.mk x.name []:=by rw [Tm.Fh,if_pos hv,Sb.Kb hh]; rfl
   rw [hh,if_neg (by simp)] at hf
   rw [e]
   skip
   refine Af Fi AZ (of_decide_eq_true rfl) ?_
   simp (disch:=omega) only [DB,go_sem,Aa,hv,hf,zL,Eg,Ap,Bt,Tm.osv,Tm.obs]
   all_goals exact ⟨rfl,rfl⟩
 | false =>
  have e:x.ap s.look=.mk x.name (x.args.map (Tm.ap s.look)):=by rw [Tm.Fh,if_neg (by rw [hv]; simp),Tm.Gw]
  rw [e]
  skip
  have h10:((1:Int)=0)=False:=by simp
  have hfu:=Tm.D5 (x.args.map (Tm.ap s.look))
  have her:=Tm.FA (x.args.map (Tm.ap s.look))
  refine Af Fi AZ (of_decide_eq_true rfl) ?_
  simp (disch:=omega) only [DB,go_sem,Aa,hv,Eg,Ap,Bt]
  refine go_loop (α:=Int) (fun a=>⟨slots 50 0 [(2,.ptr 0 0),(3,.ptr 1 0),(4,.ptr 2 0),(6,.ptr 3 0),(7,.int .i64 a)],(if a=0 then [.box 31 [.arr (s.binds.map Bd.d)],.box 26 [.str x.name,.arr (x.args.map Tm.d)],.box 26 [.str ⟨#[]⟩,.nil],.box 26 [.str x.name,.nil]] else [.box 31 [.arr (s.binds.map Bd.d)],.box 26 [.str x.name,.arr (x.args.map Tm.d)],.box 26 [.str ⟨#[]⟩,.nil],.box 26 [.str x.name,.ref 4],.row 26 2 (((x.args.map (Tm.ap s.look)).take a.toNat).map Tm.o)])⟩) (fun a=>∃ k:Nat,a=k∧k≤(x.args).length) (fun a=>(x.args).length-(a).toNat) 0 ⟨0,rfl,zN _⟩ (by simp (disch:=omega) only [go_sem,Aa,eq_self,if_true]) ?_
  rintro i ⟨k,hi,hk⟩
  have hni:i.toNat=k:=by omega
  have hni1:(i+1).toNat=k+1:=by omega
  rcases zD k (x.args).length with hlt | hge
  ·have hg:=get_at Tm.d hlt
   rw [Tm.d_eq] at hg
   have hltm:k<(x.args.map (Tm.ap s.look)).length:=by rw [zX]; exact hlt
   have hc:=ih x.args[k] (zH hlt)
   have hse:=Oq Tm.o hltm
   rw [Tm.Hz,yJ] at hse
   rcases zJ k with h0 | h0
   ·subst h0
    obtain rfl:i=0:=hi
    rw [yV,zL,yU] at hse
    simp (disch:=omega) only [go_sem,Aa,hni,hg,hc,AZ,eq_self,if_true,Tm.osv,Tm.obs]
    refine ⟨1,⟨1,rfl,hlt⟩,by omega,?_⟩
    simp (disch:=omega) only [go_sem,Aa,h10,if_false,hse]
   ·have hi0:(i=0)=False:=by simp; omega
    have hi1:(i+1=0)=False:=by simp; omega
    have htl:((x.args.map (Tm.ap s.look)).take k).length=k:=by rw [List.length_take]; omega
    simp (disch:=omega) only [go_sem,Aa,hni,hg,hc,AZ,hi0,if_false,htl,Tm.osv,Tm.obs]
    refine ⟨i+1,⟨k+1,by omega,hlt⟩,by omega,?_⟩
    simp (disch:=omega) only [go_sem,Aa,hni1,hi1,if_false,hse]
  ·obtain rfl:k=x.args.length:=by omega
   have hta:(x.args.map (Tm.ap s.look)).take x.args.length=x.args.map (Tm.ap s.look):=by
    have:=List.take_length (l:=x.args.map (Tm.ap s.look))
    rwa [zX] at this
   rcases zJ x.args.length with h0 | h0
   ·have hx:x.args=[]:=zF h0
    obtain rfl:i=0:=by omega
    simp (disch:=omega) only [go_sem,Aa,hni,hx,eq_self,if_true,zL,yA,Tm.osv,Tm.obs]
    all_goals (first | exact ⟨rfl,rfl⟩ | simp [Tm.name,Tm.args,hx])
   ·have hi0:(i=0)=False:=by simp; omega
    simp (disch:=omega) only [go_sem,Aa,hni,hi0,if_false,hta,hfu,her,Tm.osv,Tm.obs]
    all_goals exact ⟨rfl,rfl⟩
theorem MA (s:Sb) (hs:s.fine) (ht:s.tame) (x:Tm) (hn:x.nodes≤1099511627776):E 17 [s.sv,x.sv] []=some ((x.ap s.look).osv,(x.ap s.look).obs) :=
 P5 s hs ht x hn fun y hy=>MA s hs ht y (by have:=Tm.AU hy; have:=Tm.Aj x; omega)
termination_by SizeOf.sizeOf x
decreasing_by exact Tm.A8 hy
theorem Tm.expr_small {x:Tm} (h:x.expr=true):x.small=true:=by
 unfold Tm.expr Tm.atom Tm.valid at h
 cases hs:x.small with
 | true=>rfl
 | false =>
  rw [hs] at h
  split at h <;> simp at h
theorem Tm.Id {x:Tm} (h:x.expr=true):x.nodes≤30:=by
 have:=Tm.expr_small h
 unfold Tm.small at this
 rw [zA,decide_eq_true_eq] at this
 exact this.1
theorem Tm.UI {x:Tm} (h:x.eqn=true):Bh x.name=false:=by
 unfold Tm.eqn at h
 rw [At.1 h]
 kernel_rfl
theorem Tm.Lq {x:Tm} (h:x.expr=true):x.names=true∨(x.eqn=true∧Tm.Dm x.args=true):=by
 unfold Tm.expr Tm.valid at h
 cases hn:x.names with
 | true=>exact .inl rfl
 | false =>
  rw [hn,zU,yL] at h
  unfold Tm.atom at h
  split at h
  ·rename_i he
   rw [zA] at h
   exact .inr ⟨he,h.2⟩
  ·unfold Tm.valid at h; rw [hn,zU,zU] at h; cases h
theorem Tm.Tc {x:Tm} (h:x.expr=true):Bh x.name=true→x.args=[]:=by
 intro hv
 rcases Tm.Lq h with h1 | ⟨h1,h2⟩
 ·exact Tm.EF h1 hv
 ·rw [Tm.UI h1] at hv; cases hv
theorem Tm.Td {x:Tm} (h:x.expr=true) {y:Tm} (hy:y∈x.args):y.names=true:=by
 rcases Tm.Lq h with h1 | ⟨h1,h2⟩
 ·exact Tm.EG h1 hy
 ·rw [Tm.DX,zZ] at h2; exact h2 y hy
theorem Dc (x:Tm) (hn:x.nodes≤1099511627776):E 21 [x.sv] []=some (.bool x.expr,[]):=by
 have h1:=FF x hn
 have h2:=Gv x
 have h3:=LJ x hn
 unfold Tm.expr
 cases hv:x.valid with
 | true =>
  rw [hv] at h1
  rw [Bool.true_or]
  refine Af Dp AI (of_decide_eq_true rfl) ?_
  simp (disch:=omega) only [C6,go_sem,Aa,h1,A4]
 | false =>
  rw [hv] at h1
  rw [yL]
  cases he:x.eqn with
  | true =>
   rw [he] at h2
   refine Af Dp AI (of_decide_eq_true rfl) ?_
   simp (disch:=omega) only [C6,go_sem,Aa,h1,h2,h3,A4,Bp,B9]
  | false =>
   rw [he] at h2
   have ha:x.atom=false:=by unfold Tm.atom; rw [if_neg (by rw [he]; simp),hv,zU]
   rw [ha]
   refine Af Dp AI (of_decide_eq_true rfl) ?_
   simp (disch:=omega) only [C6,go_sem,Aa,h1,h2,A4,Bp]
theorem Nw (x:Tm) (hn:x.nodes≤1099511627776):E 16 [x.sv] []=some (.bool x.expr,[]):=by
 have h1:=Lj x hn
 have h3:=SR x hn
 unfold Tm.expr
 cases hv:x.valid with
 | true =>
  rw [hv] at h1
  rw [Bool.true_or]
  refine Af IB AN (of_decide_eq_true rfl) ?_
  simp (disch:=omega) only [Gu,go_sem,Aa,h1,Bf]
 | false =>
  rw [hv] at h1
  rw [yL]
  refine Af IB AN (of_decide_eq_true rfl) ?_
  simp (disch:=omega) only [Gu,go_sem,Aa,h1,h3,Bf,C0]
end Go.Proofs.Ytjkcamgfimpggaa
