/-
  This text holds, one behind the other: This text gives the steps of runs once more, of a kind where no draw is taken back: no function is told apart there. No condition.
  This text tells what the comparison of literals answers, as a function that takes no draw back. No condition.
  This text tells what the equality of terms answers in both packages. No condition.
  This text tells what copies of terms answer in both packages. No condition.
  This text holds a rule for runs of which a part of the answer is left open. No condition.
  This text tells what the reference's copies of terms answer. No condition.
  This text tells what making a clause of a list of literals answers in both packages: the list in order, without repeats. No condition.
  This text tells what the reference's making of a clause answers. No condition.
  This text holds plain laws of the order of names. No condition.
  This text tells what the validity of substitutions answers in both packages, and the place of a binding. No condition.
  This text tells what the search for a binding answers. No condition.
  This text holds the plain laws of applying a substitution to a term. No condition.
  This text tells what applying a substitution answers in both packages. No condition.
  This text holds plain laws of expressions and of the sizes of terms. No condition.
  This text tells what ApplySubstitution answers in both packages. No condition.
  This text holds plain laws of atoms. No condition.
  This text tells what applying a substitution to a clause answers in both packages. No condition.
  This text holds a plain law of atoms. No condition.
  This text tells what the variables of a term answer in both packages. No condition.
  This text tells what the variables of a clause answer. No condition.
  This text tells what the reference's application of a substitution to a clause answers, and ApplyToClause of both packages. No condition.
  This text holds plain laws of renaming variables: maps from names to names, fresh names. No condition.
  This text holds plain laws of numerals: no two numbers have the same; numbered names, the next one that is not taken. No condition.
  This text holds plain laws of renaming the variables of clauses. No condition.
  This text tells what renaming a term by a map and printing a number answer. No condition.
  This text tells what copying, renaming and normalizing a clause answer in the program. No condition.
  This text tells what renaming and normalizing a clause answer in the program. No condition.
  This text tells what renaming a clause apart, and literals left out and joined, answer in the program. No condition.
  This text shows that renaming a normal clause apart keeps its order. No condition.
  This text holds the plain laws of composing substitutions. No condition.
  This text tells what the laws' marks answer. No condition.
-/
import Derived.Test.YtibdknkacmimgaaGreatDoorK49c
set_option maxHeartbeats 16000000
open Bool renaming and_eq_true → zA, and_false → zM, true_and → yH, and_true → yK, false_and → yM, false_or → y5
open Nat renaming lt_or_ge → zB, zero_le → zF, eq_zero_or_pos → zH, le_refl → zO
open List renaming length_map → zC, getElem_mem → zD, eq_nil_of_length_eq_zero → zE, drop_eq_getElem_cons → zG, drop_eq_nil_of_le → zI, drop_zero → zJ, map_cons → zK, map_nil → zL, all_eq_true → zN, length_cons → zP, length_take → zQ, take_length → zR, getElem?_eq_getElem → zT, nil_append → zU, length_append → zV, getElem_of_mem → zX, length_nil → zY, pairwise_cons → zZ, take_zero → z7, foldl_cons → z8, cons_append → yB, getElem_map → yC, map_append → yF, take_succ_eq_append_getElem → yG, take_of_length_le → yI, mem_map → yJ, mem_cons → yL, map_map → yN, pairwise_iff_getElem → yO, getElem_cons_succ → yR, getElem_cons_zero → yS, getElem?_eq_none → yT, mem_append → yV, mem_singleton → yX, getElem?_append_right → yZ, flatten_cons → y2, append_assoc → y3, foldl_append → y4, append_nil → y7, foldl_nil → y9
open Option.some renaming injEq → zS, inj → yP
open Int renaming tdiv_eq_ediv_of_nonneg → zW, toNat_zero → yD, toNat_natCast → yQ, tmod_eq_emod_of_nonneg → yY
open Prod.mk renaming injEq → yA
open ByteArray renaming data_append → yU, size_append → y8
open Array renaming toList_append → yW
open Option renaming getD_none → y6
open List.Pairwise renaming nil → xA
set_option maxRecDepth 100000
set_option linter.unusedSimpArgs false
set_option linter.unusedVariables false
set_option linter.unusedSectionVars false
namespace Go.Proofs.YtibdknkacmimgaaGreatDoor
open Go.RowKit
namespace Wd
def modes:FuncId→FM:=fun _=>⟨[],.asis,none,false⟩
theorem mode (f:FuncId):modes f=⟨[],.asis,none,false⟩:=rfl
theorem MC:@No Qj Tryz.prog modes:=fun _ _ _ _ _ _ hg _=>by cases hg
noncomputable def E:FEnv:=ev Tryz.prog modes
noncomputable def calls:CallF:=Dd modes E
theorem E_told {f:FuncId} {xs:List SV} {ob:List Ob} {r:SV} {ob':List Ob} (h:E f xs ob=some (r,ob')):QdJ Tryz.prog f xs ob r ob':=@Qaf Qj _ _ Qcf MC f xs ob r ob' h
noncomputable def run (n0:Nat):SC→St→Option (X × St):=fr Tryz.prog calls (Jw n0)
def go (n0:Nat) (sc:SC) (st:St) (K:X→St→Prop):Prop:=∃ x st',run n0 sc st=some (x,st')∧K x st'
def Rp (n0:Nat) (b:SC) (K:X→St→Prop):X→St→Prop
 | .normal,st=>go n0 b st K
 | .exit i,st=>K (.exit i) st
 | .ret,st=>K .ret st
def blk (id:Nat) (K:X→St→Prop):X→St→Prop
 | .normal,st=>K .normal st
 | .exit i,st=>if i=id then K .normal st else K (.exit i) st
 | .ret,st=>K .ret st
def Rq (r:Option St) (k:X→St→Prop):Prop :=
 match r with
 | some st=>k .normal st
 | none=>False
def Rr (anc:List (List Nat)) (r:Option (List Ent × St)) (k:X→St→Prop):Prop :=
 match r with
 | some (es,st)=>obB anc [] (GI es) 0=true∧k .normal st
 | none=>False
def HP (v:SV) (a b:Unit→Prop):Prop :=
 match v with
 | .bool true=>a ()
 | .bool false=>b ()
 | _=>False
noncomputable def MD (ops:List SOper) (st:St):Option St:=PO Tryz.prog calls ops st
noncomputable def ME (ops:List SOper) (acc:List Ent) (st:St):Option (List Ent × St):=Iu Tryz.prog calls ops acc st
section
variable {n0:Nat} {st:St} {K:X→St→Prop}
theorem go_skip:go n0 .skip st K=K .normal st:=by
 refine propext ⟨fun ⟨x,st',h,k⟩=>?_,fun k=>⟨_,_,rfl,k⟩⟩
 obtain ⟨rfl,rfl⟩:X.normal=x∧st=st':=by simpa [run,fr] using h
 exact k
theorem UT {i:Nat}:go n0 (.exit i) st K=K (.exit i) st:=by
 refine propext ⟨fun ⟨x,st',h,k⟩=>?_,fun k=>⟨_,_,rfl,k⟩⟩
 obtain ⟨rfl,rfl⟩:X.exit i=x∧st=st':=by simpa [run,fr] using h
 exact k
theorem go_ret:go n0 .ret st K=K .ret st:=by
 refine propext ⟨fun ⟨x,st',h,k⟩=>?_,fun k=>⟨_,_,rfl,k⟩⟩
 obtain ⟨rfl,rfl⟩:X.ret=x∧st=st':=by simpa [run,fr] using h
 exact k
theorem YN {ops:List SOper}:go n0 (.reg ops) st K=Rq (MD ops st) K:=by
 unfold Rq MD
 refine propext ⟨fun ⟨x,st',h,k⟩=>?_,fun k=>?_⟩
 ·simp only [run,fr] at h
  split at h
  ·rename_i s hs
   simp only [zS,yA] at h
   obtain ⟨rfl,rfl⟩:=h
   first | exact k | (simp only [hs]; exact k)
  ·cases h
 ·split at k
  ·rename_i s hs
   exact ⟨.normal,s,by simp only [run,fr,hs],k⟩
  ·exact k.elim
theorem UU {anc:List (List Nat)} {ops:List SOper}:go n0 (.dreg anc ops) st K=Rr anc (ME ops [] st) K:=by
 unfold Rr ME
 refine propext ⟨fun ⟨x,st',h,k⟩=>?_,fun k=>?_⟩
 ·simp only [run,fr] at h
  split at h
  ·rename_i es s hs
   obtain ⟨h1,h2⟩:=Aq h
   simp only [zS,yA] at h2
   obtain ⟨rfl,rfl⟩:=h2
   first | exact ⟨h1,k⟩ | (simp only [hs]; exact ⟨h1,k⟩)
  ·cases h
 ·split at k
  ·rename_i es s hs
   exact ⟨.normal,s,by simp only [run,fr,hs,k.1,cond_true],k.2⟩
  ·exact k.elim
theorem YO {a b:SC}:go n0 (.seq a b) st K=go n0 a st (Rp n0 b K):=by
 refine propext ⟨fun ⟨x,st',h,k⟩=>?_,fun ⟨x,st',h,k⟩=>?_⟩
 ·simp only [run,fr,C8] at h
  split at h
  ·rename_i s hs
   exact ⟨.normal,s,hs,x,st',h,k⟩
  ·rename_i i s hs
   simp only [zS,yA] at h
   obtain ⟨rfl,rfl⟩:=h
   exact ⟨_,_,hs,k⟩
  ·rename_i s hs
   simp only [zS,yA] at h
   obtain ⟨rfl,rfl⟩:=h
   exact ⟨_,_,hs,k⟩
  ·cases h
 ·simp only [run] at h
  cases x with
  | normal =>
   obtain ⟨x2,st2,h2,k2⟩:=k
   exact ⟨x2,st2,by simp only [run,fr,C8,h]; exact h2,k2⟩
  | exit i=>exact ⟨_,st',by simp only [run,fr,C8,h],k⟩
  | ret=>exact ⟨_,st',by simp only [run,fr,C8,h],k⟩
theorem Rs {id:Nat} {b:SC}:go n0 (.block id b) st K=go n0 b st (blk id K):=by
  refine propext ⟨fun ⟨x,st',h,k⟩=>?_,fun ⟨x,st',h,k⟩=>?_⟩
  · simp only [run,fr,Fa] at h
    split at h
    · rename_i s hs
      simp only [zS,yA] at h
      obtain ⟨rfl,rfl⟩:=h
      exact ⟨.normal,s,hs,k⟩
    · rename_i i s hs
      refine ⟨.exit i,s,hs,?_⟩
      simp only [blk]
      by_cases hi:i=id
      · simp only [if_pos hi,zS,yA] at h ⊢
        obtain ⟨rfl,rfl⟩:=h
        exact k
      · simp only [if_neg hi,zS,yA] at h ⊢
        obtain ⟨rfl,rfl⟩:=h
        exact k
    · rename_i s hs
      simp only [zS,yA] at h
      obtain ⟨rfl,rfl⟩:=h
      exact ⟨_,s,hs,k⟩
    · cases h
  · simp only [run] at h
    cases x with
    | normal=>exact ⟨_,st',by simp only [run,fr,Fa,h],k⟩
    | exit i =>
      simp only [blk] at k
      by_cases hi:i=id
      · simp only [if_pos hi] at k
        exact ⟨.normal,st',by simp only [run,fr,Fa,h,if_pos hi],k⟩
      · simp only [if_neg hi] at k
        exact ⟨.exit i,st',by simp only [run,fr,Fa,h,if_neg hi],k⟩
    | ret=>exact ⟨_,st',by simp only [run,fr,Fa,h],k⟩
theorem Aa {q:SX} {a b:SC}:go n0 (.cond q a b) st K=HP (A5 (gets st.sl) q) (fun _=>go n0 a st K) (fun _=>go n0 b st K):=by
 unfold HP
 refine propext ⟨fun ⟨x,st',h,k⟩=>?_,fun k=>?_⟩
 ·simp only [run,fr] at h
  split at h
  ·rename_i t ht
   simp only [ht]
   cases t with
   | true=>exact ⟨x,st',h,k⟩
   | false=>exact ⟨x,st',h,k⟩
  ·cases h
 ·split at k
  ·rename_i ht
   obtain ⟨x,st',h,k⟩:=k
   exact ⟨x,st',by simp only [run,fr,ht,cond_true]; exact h,k⟩
  ·rename_i ht
   obtain ⟨x,st',h,k⟩:=k
   exact ⟨x,st',by simp only [run,fr,ht,cond_false]; exact h,k⟩
  ·exact k.elim
theorem UV {a b:Unit→Prop}:HP (.bool true) a b=a ():=rfl
theorem UW {a b:Unit→Prop}:HP (.bool false) a b=b ():=rfl
theorem UX {t:Bool} {a b:Unit→Prop}:HP (.bool (!t)) a b=HP (.bool t) b a:=by cases t <;> rfl
theorem YP {b:SC}:Rp n0 b K .normal st=go n0 b st K:=rfl
theorem YQ {b:SC} {i:Nat}:Rp n0 b K (.exit i) st=K (.exit i) st:=rfl
theorem YR {b:SC}:Rp n0 b K .ret st=K .ret st:=rfl
theorem Qc2 {id:Nat}:blk id K .normal st=K .normal st:=rfl
theorem Qc3 {id i:Nat}:blk id K (.exit i) st=if i=id then K .normal st else K (.exit i) st:=rfl
theorem Qc4 {id:Nat}:blk id K .ret st=K .ret st:=rfl
theorem UY:Rq (some st) K=K .normal st:=rfl
def quiet:List Ent→Bool
 | []=>true
 | ⟨_,_,[],_⟩ :: r=>quiet r
 | ⟨_,_,_ :: _,_⟩ :: _=>false
theorem Hp {anc:List (List Nat)} {rd:List Nat} {j:Nat}:∀ {l:List Ent} {i:Nat},quiet l=true→SJ anc rd [] j (GI l) i=true
 | [],i,_=>rfl
 | ⟨_,_,[],rdi⟩ :: r,i,h=>by
  have:=Hp (anc:=anc) (rd:=rd) (j:=j) (l:=r) (i:=i+1) h
  simp only [GI,zK,zL] at this ⊢
  simp only [SJ,this,yK]
  have e1:meets [] (rd++[])=false:=rfl
  have e2:meets rdi []=false:=by cases rdi <;> simp [meets]
  rw [e1,e2]; rfl
theorem OB {l l':List Ent} (h:quiet l=true) (h':quiet l'=true):quiet (l++l')=true:=by
 induction l with
 | nil=>exact h'
 | cons x r ih =>
  obtain ⟨a,b,c,d⟩:=x
  cases c with
  | nil=>exact ih h
  | cons _ _=>cases h
theorem IP {anc:List (List Nat)}:∀ {l pre:List Ent} {j:Nat},quiet pre=true→quiet l=true→obB anc (GI pre) (GI l) j=true
 | [],pre,j,_,_=>rfl
 | ⟨a,b,[],rd⟩ :: r,pre,j,hp,h=>by
  have e:=IP (anc:=anc) (l:=r) (pre:=pre++[⟨a,b,[],rd⟩]) (j:=j+1) (OB hp rfl) h
  have e2:=Hp (anc:=anc) (rd:=rd) (j:=j) (i:=0) hp
  simp only [GI,yF,zK,zL] at e e2 ⊢
  simp only [obB,e2,e,Bool.and_self]
theorem UZ {anc:List (List Nat)} {es:List Ent}:Rr anc (some (es,st)) K=match quiet es with
  | true=>K .normal st
  | false=>obB anc [] (GI es) 0=true∧K .normal st:=by
 show (obB anc [] (GI es) 0=true∧K .normal st)=_
 cases h:quiet es with
 | true=>exact propext ⟨fun h=>h.2,fun h'=>⟨IP (pre:=[]) rfl h,h'⟩⟩
 | false=>rfl
noncomputable def YS (r:List SOper) (e:Option (Ent × St)):Option St :=
 match e with
 | some (_,st)=>MD r st
 | none=>none
noncomputable def YT (r:List SOper) (acc:List Ent) (e:Option (Ent × St)):Option (List Ent × St) :=
 match e with
 | some (x,st)=>ME r (acc++[x]) st
 | none=>none
noncomputable def opF (so:SOp) (sl:List SV) (ob:List Ob):Option R3:=fOp Tryz.prog calls so sl ob
theorem Rt:MD [] st=some st:=rfl
theorem OC {d:Option Tmp} {so:SOp} {r:List SOper} {sl:List SV} {ob:List Ob}:MD (⟨d,none,so⟩ :: r) ⟨sl,ob⟩=YS r (Hd d ⟨sl,ob⟩ (opF so sl ob)):=rfl
noncomputable def gdF (d:Option Tmp) (so:SOp) (want:Bool) (sl:List SV) (ob:List Ob) (v:SV):Option (Ent × St) :=
 match v with
 | .bool b=>bif SL b want then Hd d ⟨sl,ob⟩ (opF so sl ob) else some (⟨false,.tup [],[],[]⟩,⟨ER sl d (.tup []),ob⟩)
 | .tup []=>some (⟨false,.tup [],[],[]⟩,⟨ER sl d (.tup []),ob⟩)
 | _=>none
theorem Va {d:Option Tmp} {k:Nat} {want:Bool} {so:SOp} {r:List SOper} {sl:List SV} {ob:List Ob}:MD (⟨d,some (k,want),so⟩ :: r) ⟨sl,ob⟩=YS r (gdF d so want sl ob (gets sl k)):=rfl
theorem Ru {acc:List Ent}:ME [] acc st=some (acc,st):=rfl
theorem OD {d:Option Tmp} {so:SOp} {r:List SOper} {acc:List Ent} {sl:List SV} {ob:List Ob}:ME (⟨d,none,so⟩ :: r) acc ⟨sl,ob⟩=YT r acc (Hd d ⟨sl,ob⟩ (opF so sl ob)):=rfl
theorem Vb {d:Option Tmp} {k:Nat} {want:Bool} {so:SOp} {r:List SOper} {acc:List Ent} {sl:List SV} {ob:List Ob}:ME (⟨d,some (k,want),so⟩ :: r) acc ⟨sl,ob⟩=YT r acc (gdF d so want sl ob (gets sl k)):=rfl
theorem YU {r:List SOper} {e:Ent}:YS r (some (e,st))=MD r st:=rfl
theorem YV {r:List SOper} {acc:List Ent} {e:Ent}:YT r acc (some (e,st))=ME r (acc++[e]) st:=rfl
theorem Qc5 {d:Option Tmp} {so:SOp} {sl:List SV} {ob:List Ob}:gdF d so true sl ob (.bool true)=Hd d ⟨sl,ob⟩ (opF so sl ob):=rfl
theorem YW {d:Option Tmp} {so:SOp} {sl:List SV} {ob:List Ob}:gdF d so false sl ob (.bool false)=Hd d ⟨sl,ob⟩ (opF so sl ob):=rfl
theorem YX {d:Option Tmp} {so:SOp} {sl:List SV} {ob:List Ob}:gdF d so true sl ob (.bool false)=some (⟨false,.tup [],[],[]⟩,⟨ER sl d (.tup []),ob⟩):=rfl
theorem YY {d:Option Tmp} {so:SOp} {sl:List SV} {ob:List Ob}:gdF d so false sl ob (.bool true)=some (⟨false,.tup [],[],[]⟩,⟨ER sl d (.tup []),ob⟩):=rfl
theorem Qc6 {d:Option Tmp} {so:SOp} {want:Bool} {sl:List SV} {ob:List Ob}:gdF d so want sl ob (.tup [])=some (⟨false,.tup [],[],[]⟩,⟨ER sl d (.tup []),ob⟩):=rfl
theorem YZ {d:Option Tmp} {x:SV} {rd:List Nat}:Hd d st (some (x,[],rd))=some (⟨true,x,[],rd⟩,⟨ER st.sl d x,st.ob⟩):=rfl
theorem Za {d:Option Tmp} {x:SV} {q:Nat × Ob} {u:List (Nat × Ob)} {rd:List Nat}:Hd d st (some (x,q :: u,rd))=bif W2 (Dx st.ob (q :: u)).length (q :: u) then some (⟨true,x,q :: u,rd⟩,⟨ER st.sl d x,Dx st.ob (q :: u)⟩) else none:=rfl
def KB (ob:List Ob) (xs:List SV) (sel:List Nat) (r:Option (SV × List Ob)) (n:Nat):Option R3 :=
 match r with
 | some (r,fob')=>bif decide (n≤fob'.length) then some (Eu sel (Bk sel xs) ob.length r fob') else none
 | none=>none
def Zb (hd:List Bool) (f:FuncId) (xs:List SV) (ob:List Ob) (sel:List Nat) (e:List SV→List Ob→Option (SV × List Ob)) (b:Option (List Ob)):Option R3 :=
 match b with
 | some fob=>bif nodupB sel&&Iv ob.length sel&&FV fob.length fob then KB ob xs sel (e (F6 hd (Ap ob) sel xs) fob) fob.length else none
 | none=>none
def Rv (hd:List Bool) (f:FuncId) (xs:List SV) (ob:List Ob) (sel:List Nat) (e:List SV→List Ob→Option (SV × List Ob)):Option R3:=Zb hd f xs ob sel e (EJ sel ob sel)
theorem Rw {f:FuncId} {xs:List SV} {ob:List Ob}:calls f xs ob=E8 (modes f).res (Rv (modes f).hand f xs ob (reach ob 64 (Gh (modes f).hand xs) []) (E f)):=rfl
theorem Zc {r:Option R3}:E8 .asis r=r:=rfl
theorem Zd {r:Option R3}:E8 .frz r=r:=rfl
theorem Ze {l:List (Option (Nat × Nat))} {r:Option R3}:E8 (.own l) r=r:=rfl
theorem Zf {l:List (Option (Nat × Nat))} {r:Option R3}:E8 (.tr l) r=r:=rfl
theorem Zg {l:List Nat} {r:Option R3}:E8 (.frl l) r=r:=rfl
theorem Zh {r:R3}:E8 .late (some r)=QM r:=rfl
theorem ET:∀ u:List (Nat × Ob),CX [] u=u
 | []=>rfl
 | (g,o) :: u=>by rw [CX,ET u]; rfl
theorem Zi {m:RM} {b:Bool} {u:List (Nat × Ob)} {rd:List Nat}:E8 m (some (.bool b,u,rd))=some (.bool b,u,rd):=by
 cases m <;> first | rfl | (show some (SV.bool b,CX [] u,rd)=_; rw [ET])
theorem Zj {m:RM} {k:IntKind} {n:Int} {u:List (Nat × Ob)} {rd:List Nat}:E8 m (some (.int k n,u,rd))=some (.int k n,u,rd):=by
 cases m <;> first | rfl | (show some (SV.int k n,CX [] u,rd)=_; rw [ET])
theorem OE {hd:List Bool} {f:FuncId} {xs:List SV} {ob:List Ob} {e:List SV→List Ob→Option (SV × List Ob)}:Rv hd f xs ob [] e=KB ob xs [] (e (F6 hd (Ap ob) [] xs) []) 0:=rfl
theorem MG {hd:List Bool} {f:FuncId} {xs:List SV} {ob:List Ob} {g:Nat} {r:List Nat} {e:List SV→List Ob→Option (SV × List Ob)}:Rv hd f xs ob (g :: r) e=Zb hd f xs ob (g :: r) e (EJ (g :: r) ob (g :: r)):=rfl
theorem Vd {ob:List Ob} {xs:List SV} {r:SV} {fob':List Ob}:KB ob xs [] (some (r,fob')) 0=some (Eu [] (Bk [] xs) ob.length r fob'):=rfl
theorem Ve {ob:List Ob} {xs:List SV} {sel:List Nat} {r:SV} {fob':List Ob} {n:Nat}:KB ob xs sel (some (r,fob')) n=bif decide (n≤fob'.length) then some (Eu sel (Bk sel xs) ob.length r fob') else none:=rfl
theorem Zk {hd:List Bool} {f:FuncId} {xs:List SV} {ob:List Ob} {sel:List Nat} {fob:List Ob} {e:List SV→List Ob→Option (SV × List Ob)}:Zb hd f xs ob sel e (some fob)=bif nodupB sel&&Iv ob.length sel&&FV fob.length fob then KB ob xs sel (e (F6 hd (Ap ob) sel xs) fob) fob.length else none:=rfl
theorem OF {p:Nat} {r:SV}:Eu [] [] p r []=(r.ren (sgp [] p),[],[]):=rfl
def Ed {α:Type} (n0:Nat) (keep:List Nat) (H:α→St) (R:α→Prop) (μ:α→Nat) (a:α) (K:X→St→Prop):X→St→Prop
 | .normal,st'=>∃ y,R y∧μ y < μ a∧canon n0 keep st'=H y
 | .exit i,st'=>K (.exit i) st'
 | .ret,st'=>K .ret st'
theorem Rx {α:Type} {keep:List Nat} {H:α→St} {R:α→Prop} {μ:α→Nat} {a:α} {st':St}:Ed n0 keep H R μ a K .normal st'=∃ y,R y∧μ y < μ a∧canon n0 keep st'=H y:=rfl
theorem Ry {α:Type} {keep:List Nat} {H:α→St} {R:α→Prop} {μ:α→Nat} {a:α} {i:Nat} {st':St}:Ed n0 keep H R μ a K (.exit i) st'=K (.exit i) st':=rfl
theorem Rz {α:Type} {keep:List Nat} {H:α→St} {R:α→Prop} {μ:α→Nat} {a:α} {st':St}:Ed n0 keep H R μ a K .ret st'=K .ret st':=rfl
theorem go_loop {α:Type} {keep:List Nat} {b:SC} (H:α→St) (R:α→Prop) (μ:α→Nat) (a0:α) (hR:R a0) (h0:canon n0 keep st=H a0) (round:∀ a,R a→go n0 b (H a) (Ed n0 keep H R μ a K)):go n0 (.loop keep b) st K:=by
  have key:∀ (n:Nat) (a:α) (st:St),μ a≤n→R a→canon n0 keep st=H a→∃ x st',QX n0 keep (run n0 b) st=some (x,st')∧K x st':=by
    intro n
    induction n with
    | zero =>
      intro a st hn hR hc
      obtain ⟨x,st',h,k⟩:=round a hR
      cases x with
      | normal =>
        obtain ⟨y,_,h2,_⟩:=k
        omega
      | exit i=>exact ⟨_,st',by rw [E9,hc,h]; rfl,k⟩
      | ret=>exact ⟨_,st',by rw [E9,hc,h]; rfl,k⟩
    | succ n ih =>
      intro a st hn hR hc
      obtain ⟨x,st',h,k⟩:=round a hR
      cases x with
      | normal =>
        obtain ⟨y,h1,h2,h3⟩:=k
        obtain ⟨x2,st2,h4,k2⟩:=ih y st' (by omega) h1 h3
        exact ⟨x2,st2,by rw [E9,hc,h]; exact h4,k2⟩
      | exit i=>exact ⟨_,st',by rw [E9,hc,h]; rfl,k⟩
      | ret=>exact ⟨_,st',by rw [E9,hc,h]; rfl,k⟩
  exact key (μ a0) a0 st (zO _) hR h0
def J1 (n0:Nat) (keep keepO:List Nat) (H:EL→St) (F:X × St) (p:EL):X→St→Prop
 | .normal,st'=>canon n0 keep st'=H p
 | .exit i,st'=>F=(.exit i,canon n0 keepO st')
 | .ret,st'=>F=(.ret,canon n0 keepO st')
def WO (n0:Nat) (keepO:List Nat) (F:X × St):X→St→Prop
 | .normal,_=>False
 | .exit i,st'=>F=(.exit i,canon n0 keepO st')
 | .ret,st'=>F=(.ret,canon n0 keepO st')
theorem OG {keep keepO:List Nat} {H:EL→St} {F:X × St} {p:EL} {st':St}:J1 n0 keep keepO H F p .normal st'=(canon n0 keep st'=H p):=rfl
theorem OH {keep keepO:List Nat} {H:EL→St} {F:X × St} {p:EL} {i:Nat} {st':St}:J1 n0 keep keepO H F p (.exit i) st'=(F=(.exit i,canon n0 keepO st')):=rfl
theorem OI {keep keepO:List Nat} {H:EL→St} {F:X × St} {p:EL} {st':St}:J1 n0 keep keepO H F p .ret st'=(F=(.ret,canon n0 keepO st')):=rfl
theorem Vf {keepO:List Nat} {F:X × St} {i:Nat} {st':St}:WO n0 keepO F (.exit i) st'=(F=(.exit i,canon n0 keepO st')):=rfl
theorem Vg {keepO:List Nat} {F:X × St} {st':St}:WO n0 keepO F .ret st'=(F=(.ret,canon n0 keepO st')):=rfl
end
def slots:Nat→Nat→List (Nat × SV)→List SV
 | 0,_,_=>[]
 | n+1,k,[]=>.any :: slots n (k+1) []
 | n+1,k,(j,x) :: r=>bif j == k then x :: slots n (k+1) r else .any :: slots n (k+1) ((j,x) :: r)
def ST (res:RM) (n0:Nat) (rs:List RX) (out:SV × List Ob) (x:X) (st:St):Prop:=fin res n0 rs x st=some out
def Zl (res:RM) (n0:Nat) (r:Option (SV × List Ob)):Option (SV × List Ob) :=
 match r with
 | some (r,ob)=>order res n0 r ob
 | none=>none
def Nx (res:RM) (n0:Nat) (ob:List Ob) (r:Option SV):Option (SV × List Ob) :=
 match r with
 | some r0=>Zl res n0 (gc n0 r0 ob)
 | none=>none
theorem Zm {res:RM} {n0:Nat} {rs:List RX} {out:SV × List Ob} {sl:List SV} {ob:List Ob}:ST res n0 rs out .ret ⟨sl,ob⟩=(Nx res n0 ob (Ow ⟨sl,ob⟩ rs)=some out):=rfl
theorem Zn {res:RM} {n0:Nat} {rs:List RX} {out:SV × List Ob} {sl:List SV} {ob:List Ob}:ST res n0 rs out .normal ⟨sl,ob⟩=(Nx res n0 ob (Ow ⟨sl,ob⟩ rs)=some out):=rfl
theorem Vh {res:RM} {n0:Nat} {ob:List Ob} {r:SV}:Nx res n0 ob (some r)=Zl res n0 (gc n0 r ob):=rfl
theorem Zo {n0:Nat} {r:SV} {ob:List Ob} {res:RM}:Zl res n0 (some (r,ob))=order res n0 r ob:=rfl
theorem Ad {f:FuncId} {fc:FC} {hand:List Bool} {res:RM} {tr:Bool} {xs:List SV} {ob:List Ob} {out:SV × List Ob} (hc:codeOf Tryz.prog f=some fc) (hr:modes f=⟨hand,res,none,tr⟩) (hn:xs.length≤fc.nt) (h:go ob.length (HM res fc.sc) ⟨xs++LQ (fc.nt-xs.length),entry tr ob⟩ (ST res ob.length fc.rs out)):E f xs ob=some out:=by
 obtain ⟨x,st',h1,h2⟩:=h
 unfold E
 rw [Qcq]
 unfold Hg
 rw [hc,hr]
 simp only
 rw [decide_eq_true hn,cond_true]
 have h1:fr Tryz.prog (Dd modes (ev Tryz.prog modes)) (Jw ob.length) (HM res fc.sc) ⟨xs++LQ (fc.nt-xs.length),entry tr ob⟩=some (x,st'):=h1
 rw [h1]
 exact h2
end Wd
namespace Wd
attribute [local go_sem] F6 TB SV.isNil Ob.idsB SV.idsB SV.Ni List.getElem?_cons_zero List.getElem?_cons_succ OT.AP OT.Dw OT.full entry toTree W9 TI W8 Gy GS EZ ZR Q0 Yv OT.erss OT.ers OT.er OT.Cx OT.EW OT.noSh quiet obB SJ GI meets Jn go_skip UT go_ret YN UU YO Rs UV UW UX YP YQ YR Qc2 Qc3 Qc4 UY UZ Rt OC Va Ru OD Vb YU YV Qc5 YW YX YY Qc6 YZ Za Rw Zc Zd Ze Zf Zg Zh Zi Zj QM TF CX seen OE MG Vd Ve Zk OF Eu Rx Ry Rz Zm Zn Vh Zo order opF fOp FA Ww Qcg Wu Wv ZQ Js eqK A5 gets Ap QB ER Dx M4 PN AN W2 SV.cellsN SV.one Kq splice E2 U7 Kp LY Ea BE Ci B9 Kr Ks VZ eOp.mkEs eOp.addS D.sv OT.sv D.ot It nodupB reach SV.refs SV.QK SV.ptrs SV.QL Ob.refs Ob.liveB Gh EJ SV.back SV.Nk Ob.back Is IJ CN Bk Bv Iv FV SV.ren SV.M6 Ob.ren mkU sgp gc Nl names MA ZV ZW ZX O0 QaX ZZ Qaa Qab Qac Qad Qae SC.mark QR Gi slots Ow Wq rxV LQ TE SV.noSh SV.Nh Ob.noSh SV.own SV.SM Gx cond_true cond_false zP zY zK zL List.drop_succ_cons zJ List.drop_nil List.take_succ_cons z7 List.take_nil y7 zU yB List.all_cons List.all_nil List.getD_cons_zero List.getD_cons_succ List.any_cons List.any_nil List.contains_cons List.contains_nil List.isEmpty_nil List.isEmpty_cons y2 List.flatten_nil List.replicate_succ List.replicate_zero List.set_cons_zero List.set_cons_succ Nat.add_zero Nat.zero_add zO zF yK yH Bool.and_self Bool.or_false y5 Bool.true_or Bool.or_true Bool.not_true Bool.not_false yM zM decide_true decide_false beq_self_eq_true if_true if_false Option.map_some Option.map_none zS Option.getD_some y6 yQ true_and and_true and_self eq_self_iff_true zC Bool.false_eq_true Bool.true_eq_false yA SV.int.injEq SV.bool.injEq SV.str.injEq SV.agg.injEq SV.tup.injEq SV.arr.injEq List.cons.injEq St.mk.injEq Int.zero_add Qc7 Qc8 Qam Ay A8 QeK svK svD QaL svM MV.sv VY Wy QJ Wz GZ St.app UG MK.sv OG OH OI Vf Vg mode
def CC:SC:=(.seq (.reg [⟨some 2,none,.mv (.c (.bool false))⟩]) (.seq (.reg [⟨some 3,none,.mv (.t 0)⟩,⟨some 4,none,.mv (.t 0)⟩,⟨some 5,none,.bin .neq false (.t 3) (.t 4)⟩,⟨some 2,none,.mv (.t 5)⟩]) .ret))
theorem EV:codeOf Tryz.prog 168=some ⟨6,CC,[(.tmp 2)]⟩:=by kernel_rfl
theorem Bi:modes 168=⟨[],.asis,none,false⟩:=by unfold modes; rfl
def DC:SC:=(.seq (.reg [⟨some 2,none,.mv (.c (.bool false))⟩]) (.seq (.reg [⟨some 3,none,.mv (.t 0)⟩,⟨some 4,none,.mv (.t 0)⟩,⟨some 5,none,.bin .neq false (.t 3) (.t 4)⟩,⟨some 2,none,.mv (.t 5)⟩]) .ret))
theorem G0:codeOf Tryz.prog 156=some ⟨6,DC,[(.tmp 2)]⟩:=by kernel_rfl
theorem BA:modes 156=⟨[],.asis,none,false⟩:=by unfold modes; rfl
def AT:SC:=(.seq (.reg [⟨some 4,none,.mv (.c (.int .i64 0))⟩]) (.seq (.reg [⟨some 7,none,.mv (.t 0)⟩,⟨some 8,none,.call 168 [(.t 7)]⟩,⟨some 5,none,.mv (.t 8)⟩]) (.seq (.reg [⟨some 9,none,.mv (.t 1)⟩,⟨some 10,none,.call 168 [(.t 9)]⟩,⟨some 6,none,.mv (.t 10)⟩]) (.seq (.seq (.reg [⟨some 11,none,.mv (.t 5)⟩]) (.cond (.t 11) (.seq (.seq (.reg [⟨some 12,none,.mv (.t 6)⟩]) (.cond (.t 12) (.seq (.reg [⟨some 4,none,.mv (.c (.int .i64 0))⟩]) .ret) .skip)) (.seq (.reg [⟨some 4,none,.mv (.c (.int .i64 (-(0+1))))⟩]) .ret)) .skip)) (.seq (.seq (.reg [⟨some 13,none,.mv (.t 6)⟩]) (.cond (.t 13) (.seq (.reg [⟨some 4,none,.mv (.c (.int .i64 1))⟩]) .ret) .skip)) (.seq (.seq (.reg [⟨some 14,none,.mv (.t 0)⟩,⟨some 15,none,.mv (.t 1)⟩,⟨some 16,none,.bin .lss false (.t 14) (.t 15)⟩]) (.cond (.t 16) (.seq (.reg [⟨some 4,none,.mv (.c (.int .i64 (-(0+1))))⟩]) .ret) .skip)) (.seq (.seq (.reg [⟨some 17,none,.mv (.t 0)⟩,⟨some 18,none,.mv (.t 1)⟩,⟨some 19,none,.bin .gtr false (.t 17) (.t 18)⟩]) (.cond (.t 19) (.seq (.reg [⟨some 4,none,.mv (.c (.int .i64 1))⟩]) .ret) .skip)) (.seq (.reg [⟨some 4,none,.mv (.c (.int .i64 0))⟩]) .ret))))))))
theorem Bx:codeOf Tryz.prog 136=some ⟨20,AT,[(.tmp 4)]⟩:=by kernel_rfl
theorem AB:modes 136=⟨[],.asis,none,false⟩:=by unfold modes; rfl
def Br:SC:=(.seq (.reg [⟨some 4,none,.mv (.c (.int .i64 0))⟩]) (.seq (.reg [⟨some 7,none,.mv (.t 0)⟩,⟨some 8,none,.call 156 [(.t 7)]⟩,⟨some 5,none,.mv (.t 8)⟩]) (.seq (.reg [⟨some 9,none,.mv (.t 1)⟩,⟨some 10,none,.call 156 [(.t 9)]⟩,⟨some 6,none,.mv (.t 10)⟩]) (.seq (.seq (.reg [⟨some 11,none,.mv (.t 5)⟩]) (.cond (.t 11) (.seq (.seq (.reg [⟨some 12,none,.mv (.t 6)⟩]) (.cond (.t 12) (.seq (.reg [⟨some 4,none,.mv (.c (.int .i64 0))⟩]) .ret) .skip)) (.seq (.reg [⟨some 4,none,.mv (.c (.int .i64 (-(0+1))))⟩]) .ret)) .skip)) (.seq (.seq (.reg [⟨some 13,none,.mv (.t 6)⟩]) (.cond (.t 13) (.seq (.reg [⟨some 4,none,.mv (.c (.int .i64 1))⟩]) .ret) .skip)) (.seq (.seq (.reg [⟨some 14,none,.mv (.t 0)⟩,⟨some 15,none,.mv (.t 1)⟩,⟨some 16,none,.bin .lss false (.t 14) (.t 15)⟩]) (.cond (.t 16) (.seq (.reg [⟨some 4,none,.mv (.c (.int .i64 (-(0+1))))⟩]) .ret) .skip)) (.seq (.seq (.reg [⟨some 17,none,.mv (.t 0)⟩,⟨some 18,none,.mv (.t 1)⟩,⟨some 19,none,.bin .gtr false (.t 17) (.t 18)⟩]) (.cond (.t 19) (.seq (.reg [⟨some 4,none,.mv (.c (.int .i64 1))⟩]) .ret) .skip)) (.seq (.reg [⟨some 4,none,.mv (.c (.int .i64 0))⟩]) .ret))))))))
theorem BO:codeOf Tryz.prog 122=some ⟨20,Br,[(.tmp 4)]⟩:=by kernel_rfl
theorem AI:modes 122=⟨[],.asis,none,false⟩:=by unfold modes; rfl
def Fh:SC:=(.seq (.reg [⟨some 2,none,.mv (.c (.int .i64 0))⟩]) (.seq (.reg [⟨some 3,none,.mv (.c (.int .i64 0))⟩]) (.seq (.seq (.reg [⟨some 6,none,.mv (.t 0)⟩,⟨some 7,none,.len false (.t 6)⟩,⟨some 8,none,.mv (.c (.int .i64 0))⟩]) (.block 0 (.loop [0,0,0,1,0,0,1,1,1,0,0,0,0,0,0,0,0,0] (.seq (.reg [⟨some 9,none,.bin .lss false (.t 8) (.t 7)⟩]) (.seq (.cond (.t 9) .skip (.exit 0)) (.seq (.block 1 (.seq (.reg [⟨some 10,none,.iaddr 1 (.t 6) (.t 8)⟩,⟨some 11,none,.load false 1 (.t 10)⟩,⟨some 5,none,.mv (.t 11)⟩]) (.seq (.reg [⟨some 12,none,.mv (.t 5)⟩,⟨some 13,none,.mv (.t 3)⟩,⟨some 14,none,.bin .neq false (.t 12) (.t 13)⟩]) (.cond (.t 14) (.seq (.reg [⟨some 15,none,.mv (.t 5)⟩,⟨some 2,none,.mv (.t 15)⟩]) .ret) .skip)))) (.reg [⟨some 16,none,.bin .add false (.t 8) (.c (.int .i64 1))⟩,⟨some 8,none,.mv (.t 16)⟩]))))))) (.seq (.reg [⟨some 17,none,.mv (.t 3)⟩,⟨some 2,none,.mv (.t 17)⟩]) .ret))))
theorem J6:codeOf Tryz.prog 120=some ⟨18,Fh,[(.tmp 2)]⟩:=by kernel_rfl
theorem C4:modes 120=⟨[],.asis,none,false⟩:=by unfold modes; rfl
theorem KF (a:ByteArray):E 168 [.str a] []=some (.bool false,[]):=by
 refine Ad EV Bi (of_decide_eq_true rfl) ?_
 simp (disch:=omega) only [CC,go_sem,Aa]
theorem KG (a:Int):E 156 [.int .i64 a] []=some (.bool false,[]):=by
 refine Ad G0 BA (of_decide_eq_true rfl) ?_
 simp (disch:=omega) only [DC,go_sem,Aa]
theorem J7 (a b:ByteArray):E 136 [.str a,.str b] []=some (.int .i64 (Ev a b),[]):=by
 have h1:=KF a
 have h2:=KF b
 unfold Ev
 cases h3:strLt a b
 ·cases h4:dec (a=b)
  ·refine Ad Bx AB (of_decide_eq_true rfl) ?_
   simp (disch:=omega) only [AT,go_sem,Aa,h1,h2,h3,h4,Bi]
  ·refine Ad Bx AB (of_decide_eq_true rfl) ?_
   simp (disch:=omega) only [AT,go_sem,Aa,h1,h2,h3,h4,Bi]
 ·refine Ad Bx AB (of_decide_eq_true rfl) ?_
  simp (disch:=omega) only [AT,go_sem,Aa,h1,h2,h3,Bi]
theorem Hw (a b:Int):E 122 [.int .i64 a,.int .i64 b] []=some (.int .i64 (GK a b),[]):=by
 have h1:=KG a
 have h2:=KG b
 unfold GK
 cases h3:dec (a<b)
 ·cases h4:dec (b<a)
  ·refine Ad BO AI (of_decide_eq_true rfl) ?_
   simp (disch:=omega) only [Br,go_sem,Aa,h1,h2,h3,h4,BA]
  ·refine Ad BO AI (of_decide_eq_true rfl) ?_
   simp (disch:=omega) only [Br,go_sem,Aa,h1,h2,h3,h4,BA]
 ·refine Ad BO AI (of_decide_eq_true rfl) ?_
  simp (disch:=omega) only [Br,go_sem,Aa,h1,h2,h3,BA]
def orL:List Int→Int
 | []=>0
 | x :: xs=>if x=0 then orL xs else x
theorem QeQ (xs:List Int) (hl:xs.length≤1099511627776):E 120 [.arr (xs.map fun n=>[D.int n])] []=some (.int .i64 (orL xs),[]):=by
 refine Ad J6 C4 (of_decide_eq_true rfl) ?_
 simp (disch:=omega) only [Fh,go_sem,Aa]
 refine go_loop (α:=Int) (fun a=>⟨slots 18 0 [(3,.int .i64 0),(6,.arr (xs.map fun n=>[D.int n])),(7,.int .i64 xs.length),(8,.int .i64 a)],[]⟩) (fun a=>∃ k:Nat,a=k∧k≤(xs).length∧orL (xs.drop k)=orL xs) (fun a=>(xs).length-(a).toNat) 0 ⟨0,rfl,zF _,by rw [zJ]⟩ (by simp (disch:=omega) only [go_sem,Aa]) ?_
 rintro i ⟨k,hi,hk,hR⟩
 have hni:i.toNat=k:=by omega
 have hni1:(i+1).toNat=k+1:=by omega
 rcases zB k (xs).length with hlt | hge
 ·have hg:=get_at (fun n=>[D.int n]) hlt
  rw [zG hlt,orL] at hR
  by_cases h0:xs[k]=0
  ·rw [if_pos h0] at hR
   simp (disch:=omega) only [go_sem,Aa,hni,hg,h0]
   exact ⟨i+1,⟨k+1,by omega,hlt,hR⟩,by omega,by first | trivial | rfl⟩
  ·rw [if_neg h0] at hR
   simp (disch:=omega) only [go_sem,Aa,hni,hg,h0]
   exact hR
 ·rw [zI hge,orL] at hR
  simp (disch:=omega) only [go_sem,Aa,hni]
  exact hR
theorem WV (a b:Int):E 120 [.arr [[.int a],[.int b]]] []=some (.int .i64 (orZ a b),[]):=by
 have h:=QeQ [a,b] (by simp)
 have e:orL [a,b]=orZ a b:=by
  simp only [orL,orZ]
  split
  ·split <;> omega
  ·rfl
 rw [e] at h
 exact h
def CD:SC:=(.seq (.reg [⟨some 2,none,.mv (.c (.bool false))⟩]) (.seq (.reg [⟨some 3,none,.mv (.t 0)⟩,⟨some 4,none,.bin .geq false (.t 3) (.c (.int .u8 65))⟩,⟨some 5,none,.mv (.t 4)⟩,⟨(some 6),(some (5,true)),(.mv (.t 0))⟩,⟨(some 7),(some (5,true)),(.bin .leq false (.t 6) (.c (.int .u8 90)))⟩,⟨some 8,none,.pick (.t 5) (.t 7) (.c (.bool false))⟩,⟨some 2,none,.mv (.t 8)⟩]) .ret))
theorem Eh:codeOf Tryz.prog 129=some ⟨9,CD,[(.tmp 2)]⟩:=by kernel_rfl
theorem CE:modes 129=⟨[],.asis,none,false⟩:=by unfold modes; rfl
def Fj:SC:=(.seq (.reg [⟨some 1,none,.boxv 71 2 (.t 0)⟩,⟨some 2,none,.mv (.c (.bool false))⟩]) (.seq (.reg [⟨some 3,none,.faddr 0 (.t 1)⟩,⟨some 4,none,.load false 1 (.t 3)⟩,⟨some 5,none,.idx (.t 4) (.c (.int .i64 0))⟩,⟨some 6,none,.call 129 [(.t 5)]⟩,⟨some 2,none,.mv (.t 6)⟩]) .ret))
theorem J8:codeOf Tryz.prog 89=some ⟨7,Fj,[(.tmp 2)]⟩:=by kernel_rfl
theorem Ak:modes 89=⟨[],.asis,none,false⟩:=by unfold modes; rfl
theorem ON (n:Int):E 129 [.int .u8 n] []=some (.bool (dec (65≤n)&&dec (n≤90)),[]):=by
 cases h1:dec (65≤n)
 ·refine Ad Eh CE (of_decide_eq_true rfl) ?_
  simp (disch:=omega) only [CD,go_sem,Aa,h1]
 ·refine Ad Eh CE (of_decide_eq_true rfl) ?_
  simp (disch:=omega) only [CD,go_sem,Aa,h1]
theorem Di (x:Tm) (h:x.cok=true):E 89 [x.sv] []=some (.bool (Ao x.name),[]):=by
 rw [Tm.K8,zA] at h
 obtain ⟨h1,h2⟩:=Uf h.1
 have h3:=ON (Jo x.name 0)
 rw [h2] at h3
 refine Ad J8 Ak (of_decide_eq_true rfl) ?_
 simp (disch:=omega) only [Fj,go_sem,Aa,h3,CE]
def At:SC:=(.seq (.reg [⟨some 6,none,.mv (.c (.int .i64 0))⟩]) (.seq (.seq (.reg [⟨some 11,none,.mv (.t 0)⟩,⟨some 12,none,.len false (.t 11)⟩,⟨some 13,none,.mv (.c (.int .i64 0))⟩]) (.block 0 (.loop [1,1,1,0,0,0,0,0,0,0,0,1,1,1,0,0,0,0,0,0,0,0,0,0,0,0,0,0,0,0,0,0,0,0,0,0,0,0,0] (.seq (.reg [⟨some 14,none,.bin .lss false (.t 13) (.t 12)⟩]) (.seq (.cond (.t 14) .skip (.exit 0)) (.seq (.block 1 (.seq (.reg [⟨some 15,none,.mv (.t 13)⟩,⟨some 16,none,.iaddr 2 (.t 11) (.t 13)⟩,⟨some 17,none,.load true 2 (.t 16)⟩,⟨(some 8),none,(.alloc 71 [(.str ⟨#[]⟩),.nil])⟩,⟨some 7,none,.mv (.t 15)⟩,⟨none,none,(.store 2 (.t 8) (.t 17))⟩]) (.seq (.seq (.reg [⟨some 18,none,.mv (.t 7)⟩,⟨some 19,none,.mv (.t 1)⟩,⟨some 20,none,.len false (.t 19)⟩,⟨some 21,none,.bin .geq false (.t 18) (.t 20)⟩]) (.cond (.t 21) (.seq (.reg [⟨some 6,none,.mv (.c (.int .i64 1))⟩]) .ret) .skip)) (.seq (.reg [⟨some 22,none,.mv (.t 1)⟩,⟨some 23,none,.mv (.t 7)⟩,⟨some 24,none,.iaddr 2 (.t 22) (.t 23)⟩,⟨some 25,none,.load true 2 (.t 24)⟩,⟨(some 9),none,(.alloc 71 [(.str ⟨#[]⟩),.nil])⟩,⟨none,none,(.store 2 (.t 9) (.t 25))⟩]) (.seq (.reg [⟨some 26,none,.mv (.t 2)⟩,⟨some 27,none,.load true 2 (.t 8)⟩,⟨some 28,none,.load true 2 (.t 9)⟩,⟨some 29,none,.callv (.t 26) [(.t 27),(.t 28)]⟩,⟨some 10,none,.mv (.t 29)⟩]) (.seq (.reg [⟨some 30,none,.mv (.t 10)⟩,⟨some 31,none,.bin .neq false (.t 30) (.c (.int .i64 0))⟩]) (.cond (.t 31) (.seq (.reg [⟨some 32,none,.mv (.t 10)⟩,⟨some 6,none,.mv (.t 32)⟩]) .ret) .skip))))))) (.reg [⟨some 33,none,.bin .add false (.t 13) (.c (.int .i64 1))⟩,⟨some 13,none,.mv (.t 33)⟩]))))))) (.seq (.seq (.reg [⟨some 34,none,.mv (.t 0)⟩,⟨some 35,none,.len false (.t 34)⟩,⟨some 36,none,.mv (.t 1)⟩,⟨some 37,none,.len false (.t 36)⟩,⟨some 38,none,.bin .lss false (.t 35) (.t 37)⟩]) (.cond (.t 38) (.seq (.reg [⟨some 6,none,.mv (.c (.int .i64 (-(0+1))))⟩]) .ret) .skip)) (.seq (.reg [⟨some 6,none,.mv (.c (.int .i64 0))⟩]) .ret))))
theorem AC:codeOf Tryz.prog 155=some ⟨39,At,[(.tmp 6)]⟩:=by kernel_rfl
theorem Au:modes 155=⟨[],.asis,none,false⟩:=by unfold modes; rfl
def B4:SC:=(.seq (.reg [⟨some 2,none,.boxv 71 2 (.t 0)⟩,⟨some 3,none,.boxv 71 2 (.t 1)⟩,⟨some 4,none,.mv (.c (.int .i64 0))⟩]) (.seq (.dreg [[],[0],[],[2,1,0],[1,0,3,2],[3,2,1,0,4]] [⟨some 8,none,.load true 2 (.t 2)⟩,⟨some 9,none,.call 89 [(.t 8)]⟩,⟨some 10,none,.load true 2 (.t 3)⟩,⟨some 11,none,.call 89 [(.t 10)]⟩,⟨some 5,none,.mv (.t 9)⟩,⟨some 6,none,.mv (.t 11)⟩]) (.seq (.block 0 (.seq (.reg [⟨some 13,none,.mv (.t 5)⟩,⟨some 14,none,.mv (.t 13)⟩,⟨(some 15),(some (14,true)),(.mv (.t 6))⟩,⟨(some 16),(some (14,true)),(.un .not (.t 15))⟩,⟨some 17,none,.pick (.t 14) (.t 16) (.c (.bool false))⟩,⟨some 12,none,.mv (.t 17)⟩]) (.cond (.t 12) (.seq (.reg [⟨some 4,none,.mv (.c (.int .i64 (-(0+1))))⟩]) .ret) (.seq (.reg [⟨some 19,none,.mv (.t 6)⟩,⟨some 20,none,.mv (.t 19)⟩,⟨(some 21),(some (20,true)),(.mv (.t 5))⟩,⟨(some 22),(some (20,true)),(.un .not (.t 21))⟩,⟨some 23,none,.pick (.t 20) (.t 22) (.c (.bool false))⟩,⟨some 18,none,.mv (.t 23)⟩]) (.cond (.t 18) (.seq (.reg [⟨some 4,none,.mv (.c (.int .i64 1))⟩]) .ret) .skip))))) (.seq (.seq (.dreg [[],[0],[],[2],[1,0,3,2],[],[5],[6,5],[],[8],[9,8],[7,6,5,10,9,8,4,1,0,3,2],[4,1,0,3,2,11,7,6,5,10,9,8],[12,4,1,0,3,2,11,7,6,5,10,9,8],[13,12,4,1,0,3,2,11,7,6,5,10,9,8]] [⟨some 24,none,.faddr 0 (.t 2)⟩,⟨some 25,none,.load false 1 (.t 24)⟩,⟨some 26,none,.faddr 0 (.t 3)⟩,⟨some 27,none,.load false 1 (.t 26)⟩,⟨some 28,none,.call 136 [(.t 25),(.t 27)]⟩,⟨some 29,none,.faddr 1 (.t 2)⟩,⟨some 30,none,.load false 1 (.t 29)⟩,⟨some 31,none,.len false (.t 30)⟩,⟨some 32,none,.faddr 1 (.t 3)⟩,⟨some 33,none,.load false 1 (.t 32)⟩,⟨some 34,none,.len false (.t 33)⟩,⟨some 35,none,.call 122 [(.t 31),(.t 34)]⟩,⟨some 36,none,.mkrow 3 1 [(.int .i64 0)] 2 [(0,(.t 28)),(1,(.t 35))]⟩,⟨some 37,none,.call 120 [(.t 36)]⟩,⟨some 7,none,.mv (.t 37)⟩]) (.seq (.reg [⟨some 38,none,.mv (.t 7)⟩,⟨some 39,none,.bin .neq false (.t 38) (.c (.int .i64 0))⟩]) (.cond (.t 39) (.seq (.reg [⟨some 40,none,.mv (.t 7)⟩,⟨some 4,none,.mv (.t 40)⟩]) .ret) .skip))) (.seq (.reg [⟨some 41,none,.faddr 1 (.t 2)⟩,⟨some 42,none,.load false 1 (.t 41)⟩,⟨some 43,none,.faddr 1 (.t 3)⟩,⟨some 44,none,.load false 1 (.t 43)⟩,⟨some 45,none,.call 155 [(.t 42),(.t 44),(.c (.fn 121 []))]⟩,⟨some 4,none,.mv (.t 45)⟩]) .ret)))))
theorem C0:codeOf Tryz.prog 121=some ⟨46,B4,[(.tmp 4)]⟩:=by kernel_rfl
theorem AZ:modes 121=⟨[],.asis,none,false⟩:=by unfold modes; rfl
theorem E5:LP Tryz.prog 121=true:=by kernel_rfl
theorem I3 (fid:Nat) (xs ys:List Tm) (hl:xs.length≤1099511627776) (hl':ys.length≤1099511627776) (hg:LP Tryz.prog fid=true) (hm:(modes fid).hand=[]) (hE:∀ x∈xs,∀ y∈ys,E fid [x.sv,y.sv] []=some (.int .i64 (x.cmp y),[])):E 155 [.arr (xs.map Tm.d),.arr (ys.map Tm.d),.fn fid []] []=some (.int .i64 (Tm.cmpL xs ys),[]):=by
  refine Ad AC Au (of_decide_eq_true rfl) ?_
  simp (disch:=omega) only [At,go_sem,Aa]
  refine go_loop (α:=Int) (fun a=>⟨slots 39 0 [(0,.arr (xs.map Tm.d)),(1,.arr (ys.map Tm.d)),(2,.fn fid []),(11,.arr (xs.map Tm.d)),(12,.int .i64 xs.length),(13,.int .i64 a)],[]⟩) (fun a=>∃ k:Nat,a=k∧k≤(xs).length∧k≤ys.length∧Tm.cmpL (xs.drop k) (ys.drop k)=Tm.cmpL xs ys) (fun a=>(xs).length-(a).toNat) 0 ⟨0,rfl,zF _,zF _,by rw [zJ,zJ]⟩ (by simp (disch:=omega) only [go_sem,Aa]) ?_
  rintro i ⟨k,hi,hk,hR⟩
  have hni:i.toNat=k:=by omega
  have hni1:(i+1).toNat=k+1:=by omega
  rcases zB k (xs).length with hlt | hge
  · obtain ⟨hk',hR⟩:=hR
    have hgx:=get_at Tm.d hlt
    rw [Tm.d_eq] at hgx
    rcases zB k ys.length with hlt' | hge'
    · have hgy:=get_at Tm.d hlt'
      rw [Tm.d_eq] at hgy
      have hc:=hE xs[k] (zD hlt) ys[k] (zD hlt')
      rw [OL hlt hlt'] at hR
      by_cases h0:xs[k].cmp ys[k]=0
      · rw [orZ,if_pos h0] at hR
        rw [h0] at hc
        simp (disch:=omega) only [go_sem,Aa,hni,hgx,hgy,hc,hg,hm]
        exact ⟨i+1,⟨k+1,by omega,hlt,hlt',hR⟩,by omega,by first | trivial | rfl⟩
      · rw [orZ,if_neg h0] at hR
        simp (disch:=omega) only [go_sem,Aa,hni,hgx,hgy,hc,hg,hm,h0]
        exact hR
    · rw [R8 hlt hge'] at hR
      simp (disch:=omega) only [go_sem,Aa,hni,hgx]
      exact hR
  · obtain ⟨hk',hR⟩:=hR
    obtain rfl:k=xs.length:=by omega
    rcases zB xs.length ys.length with hlt' | hge'
    · rw [WU (zO _) hlt'] at hR
      simp (disch:=omega) only [go_sem,Aa,hni]
      exact hR
    · rw [OM (zO _) hge'] at hR
      simp (disch:=omega) only [go_sem,Aa,hni]
      exact hR
abbrev SZ (f:FuncId) (x y:Tm):Prop:=x.cok=true→y.cok=true→x.nodes≤1099511627776→y.nodes≤1099511627776→E f [x.sv,y.sv] []=some (.int .i64 (x.cmp y),[])
theorem G3 (x:Tm) (ih:∀ x'∈x.args,∀ y,SZ 121 x' y) (y:Tm):SZ 121 x y:=by
 intro hx hy hnx hny
 have lx:=Tm.length_le x.args
 have ly:=Tm.length_le y.args
 have nx:=Tm.An x
 have ny:=Tm.An y
 have h1:=Di x hx
 have h2:=Di y hy
 have h3:=J7 x.name y.name
 have h4:=Hw x.args.length y.args.length
 have h5:=WV (Ev x.name y.name) (GK x.args.length y.args.length)
 rw [Tm.K8,zA] at hx hy
 have h6:=I3 121 x.args y.args (by omega) (by omega) E5 (by rw [AZ]) fun x' hx' y' hy'=>ih x' hx' y' (Tm.Hl hx.2 hx') (Tm.Hl hy.2 hy') (by have:=Tm.AX hx'; omega) (by have:=Tm.AX hy'; omega)
 rw [Tm.UO]
 cases vx:Ao x.name <;> rw [vx] at h1 <;> cases vy:Ao y.name <;> rw [vy] at h2
 all_goals
  simp only [Bool.not_true,Bool.not_false,yK,zM,yH,yM,if_true,if_false,Bool.false_eq_true]
  by_cases h0:orZ (Ev x.name y.name) (GK x.args.length y.args.length)=0
  ·rw [h0] at h5
   try rw [h0]
   refine Ad C0 AZ (of_decide_eq_true rfl) ?_
   simp (disch:=omega) only [B4,go_sem,Aa,h1,h2,h3,h4,h5,h6,Ak,AB,AI,C4,Au]
   try rfl
  ·try rw [orZ.eq_1 (orZ _ _) _,if_neg h0]
   refine Ad C0 AZ (of_decide_eq_true rfl) ?_
   simp (disch:=omega) only [B4,go_sem,Aa,h0,h1,h2,h3,h4,h5,Ak,AB,AI,C4]
theorem Ei (x y:Tm):SZ 121 x y:=G3 x (fun x' hx' y'=>Ei x' y') y
termination_by SizeOf.sizeOf x
decreasing_by exact Tm.Aw hx'
def Ej:SC:=(.seq (.reg [⟨some 2,none,.mv (.c (.int .i64 0))⟩]) (.seq (.seq (.reg [⟨some 3,none,.mv (.t 0)⟩]) (.cond (.t 3) (.seq (.reg [⟨some 2,none,.mv (.c (.int .i64 1))⟩]) .ret) .skip)) (.seq (.reg [⟨some 2,none,.mv (.c (.int .i64 0))⟩]) .ret)))
theorem Gm:codeOf Tryz.prog 123=some ⟨4,Ej,[(.tmp 2)]⟩:=by kernel_rfl
theorem Ek:modes 123=⟨[],.asis,none,false⟩:=by unfold modes; rfl
def BP:SC:=(.seq (.reg [⟨some 2,none,.boxv 73 3 (.t 0)⟩,⟨some 3,none,.boxv 73 3 (.t 1)⟩,⟨some 4,none,.mv (.c (.int .i64 0))⟩]) (.seq (.dreg [[],[0],[],[2],[1,0,3,2],[],[5],[6,5,4,1,0,3,2],[],[8],[9,8,7,6,5,4,1,0,3,2],[7,6,5,4,1,0,3,2,10,9,8],[4,1,0,3,2,11,7,6,5,10,9,8],[12,4,1,0,3,2,11,7,6,5,10,9,8],[13,12,4,1,0,3,2,11,7,6,5,10,9,8]] [⟨some 5,none,.faddr 1 (.t 2)⟩,⟨some 6,none,.load true 2 (.t 5)⟩,⟨some 7,none,.faddr 1 (.t 3)⟩,⟨some 8,none,.load true 2 (.t 7)⟩,⟨some 9,none,.call 121 [(.t 6),(.t 8)]⟩,⟨some 10,none,.faddr 0 (.t 2)⟩,⟨some 11,none,.load false 1 (.t 10)⟩,⟨some 12,none,.call 123 [(.t 11)]⟩,⟨some 13,none,.faddr 0 (.t 3)⟩,⟨some 14,none,.load false 1 (.t 13)⟩,⟨some 15,none,.call 123 [(.t 14)]⟩,⟨some 16,none,.call 122 [(.t 12),(.t 15)]⟩,⟨some 17,none,.mkrow 3 1 [(.int .i64 0)] 2 [(0,(.t 9)),(1,(.t 16))]⟩,⟨some 18,none,.call 120 [(.t 17)]⟩,⟨some 4,none,.mv (.t 18)⟩]) .ret))
theorem D3:codeOf Tryz.prog 83=some ⟨19,BP,[(.tmp 4)]⟩:=by kernel_rfl
theorem Bj:modes 83=⟨[],.asis,none,false⟩:=by unfold modes; rfl
theorem R9 (b:Bool):E 123 [.bool b] []=some (.int .i64 (Hm b),[]):=by
 cases b
 ·refine Ad Gm Ek (of_decide_eq_true rfl) ?_
  simp (disch:=omega) only [Ej,go_sem,Aa]
  rfl
 ·refine Ad Gm Ek (of_decide_eq_true rfl) ?_
  simp (disch:=omega) only [Ej,go_sem,Aa]
  rfl
theorem compareLiterals_E (x y:Lt) (hx:x.atom.cok=true) (hy:y.atom.cok=true) (hnx:x.atom.nodes≤1099511627776) (hny:y.atom.nodes≤1099511627776):E 83 [x.sv,y.sv] []=some (.int .i64 (x.cmp y),[]):=by
 have h1:=Ei x.atom y.atom hx hy hnx hny
 have h2:=R9 x.pos
 have h3:=R9 y.pos
 have h4:=Hw (Hm x.pos) (Hm y.pos)
 have h5:=WV (x.atom.cmp y.atom) (GK (Hm x.pos) (Hm y.pos))
 unfold Lt.cmp
 refine Ad D3 Bj (of_decide_eq_true rfl) ?_
 simp (disch:=omega) only [BP,go_sem,Aa,h1,h2,h3,h4,h5,AZ,Ek,AI,C4]
end Wd
theorem N6 (x y:Lt) (hx:x.atom.cok=true) (hy:y.atom.cok=true) (hnx:x.atom.nodes≤1099511627776) (hny:y.atom.nodes≤1099511627776):QdJ Tryz.prog 83 [x.sv,y.sv] [] (.int .i64 (x.cmp y)) []:=Wd.E_told (Wd.compareLiterals_E x y hx hy hnx hny)
def AD:SC:=(.seq (.reg [⟨some 6,none,.mv (.c (.bool false))⟩]) (.seq (.seq (.reg [⟨some 10,none,.mv (.t 0)⟩,⟨some 11,none,.len false (.t 10)⟩,⟨some 12,none,.mv (.t 1)⟩,⟨some 13,none,.len false (.t 12)⟩,⟨some 14,none,.bin .neq false (.t 11) (.t 13)⟩]) (.cond (.t 14) (.seq (.reg [⟨some 6,none,.mv (.c (.bool false))⟩]) .ret) .skip)) (.seq (.seq (.reg [⟨some 15,none,.mv (.t 0)⟩,⟨some 16,none,.len false (.t 15)⟩,⟨some 17,none,.mv (.c (.int .i64 0))⟩]) (.block 0 (.loop [0,1,1,0,0,0,0,0,0,0,0,0,0,0,0,1,1,1,0,0,0,0,0,0,0,0,0,0,0,0,0,0] (.seq (.reg [⟨some 18,none,.bin .lss false (.t 17) (.t 16)⟩]) (.seq (.cond (.t 18) .skip (.exit 0)) (.seq (.block 1 (.seq (.reg [⟨some 19,none,.mv (.t 17)⟩,⟨some 20,none,.iaddr 2 (.t 15) (.t 17)⟩,⟨some 21,none,.load true 2 (.t 20)⟩,⟨(some 8),none,(.alloc 71 [(.str ⟨#[]⟩),.nil])⟩,⟨some 7,none,.mv (.t 19)⟩,⟨none,none,(.store 2 (.t 8) (.t 21))⟩]) (.seq (.reg [⟨some 22,none,.mv (.t 1)⟩,⟨some 23,none,.mv (.t 7)⟩,⟨some 24,none,.iaddr 2 (.t 22) (.t 23)⟩,⟨some 25,none,.load true 2 (.t 24)⟩,⟨(some 9),none,(.alloc 71 [(.str ⟨#[]⟩),.nil])⟩,⟨none,none,(.store 2 (.t 9) (.t 25))⟩]) (.seq (.reg [⟨some 26,none,.mv (.t 2)⟩,⟨some 27,none,.load true 2 (.t 8)⟩,⟨some 28,none,.load true 2 (.t 9)⟩,⟨some 29,none,.callv (.t 26) [(.t 27),(.t 28)]⟩,⟨some 30,none,.un .not (.t 29)⟩]) (.cond (.t 30) (.seq (.reg [⟨some 6,none,.mv (.c (.bool false))⟩]) .ret) .skip))))) (.reg [⟨some 31,none,.bin .add false (.t 17) (.c (.int .i64 1))⟩,⟨some 17,none,.mv (.t 31)⟩]))))))) (.seq (.reg [⟨some 6,none,.mv (.c (.bool true))⟩]) .ret))))
theorem Be:codeOf Tryz.prog 128=some ⟨32,AD,[(.tmp 6)]⟩:=by kernel_rfl
theorem AE:modes 128=⟨[],.asis,none,false⟩:=by unfold modes; rfl
def Fl:SC:=(.seq (.reg [⟨some 2,none,.boxv 71 2 (.t 0)⟩,⟨some 3,none,.boxv 71 2 (.t 1)⟩,⟨some 4,none,.mv (.c (.bool false))⟩]) (.seq (.reg [⟨some 5,none,.faddr 0 (.t 2)⟩,⟨some 6,none,.load false 1 (.t 5)⟩,⟨some 7,none,.faddr 0 (.t 3)⟩,⟨some 8,none,.load false 1 (.t 7)⟩,⟨some 9,none,.bin .eql false (.t 6) (.t 8)⟩,⟨some 10,none,.mv (.t 9)⟩,⟨(some 11),(some (10,true)),(.faddr 1 (.t 2))⟩,⟨(some 12),(some (10,true)),(.load false 1 (.t 11))⟩,⟨(some 13),(some (10,true)),(.faddr 1 (.t 3))⟩,⟨(some 14),(some (10,true)),(.load false 1 (.t 13))⟩,⟨(some 15),(some (10,true)),(.call 128 [(.t 12),(.t 14),(.c (.fn 88 []))])⟩,⟨some 16,none,.pick (.t 10) (.t 15) (.c (.bool false))⟩,⟨some 4,none,.mv (.t 16)⟩]) .ret))
theorem HV:codeOf Tryz.prog 88=some ⟨17,Fl,[(.tmp 4)]⟩:=by kernel_rfl
theorem Ae:modes 88=⟨[],.asis,none,false⟩:=by unfold modes; rfl
theorem N7:LP Tryz.prog 88=true:=by kernel_rfl
def FY:SC:=(.seq (.reg [⟨some 2,none,.boxv 71 2 (.t 0)⟩,⟨some 3,none,.boxv 71 2 (.t 1)⟩,⟨some 4,none,.mv (.c (.bool false))⟩]) (.seq (.seq (.reg [⟨some 6,none,.faddr 0 (.t 2)⟩,⟨some 7,none,.load false 1 (.t 6)⟩,⟨some 8,none,.faddr 0 (.t 3)⟩,⟨some 9,none,.load false 1 (.t 8)⟩,⟨some 10,none,.bin .neq false (.t 7) (.t 9)⟩,⟨some 11,none,.mv (.t 10)⟩,⟨(some 12),(some (11,false)),(.faddr 1 (.t 2))⟩,⟨(some 13),(some (11,false)),(.load false 1 (.t 12))⟩,⟨(some 14),(some (11,false)),(.len false (.t 13))⟩,⟨(some 15),(some (11,false)),(.faddr 1 (.t 3))⟩,⟨(some 16),(some (11,false)),(.load false 1 (.t 15))⟩,⟨(some 17),(some (11,false)),(.len false (.t 16))⟩,⟨(some 18),(some (11,false)),(.bin .neq false (.t 14) (.t 17))⟩,⟨some 19,none,.pick (.t 11) (.c (.bool true)) (.t 18)⟩]) (.cond (.t 19) (.seq (.reg [⟨some 4,none,.mv (.c (.bool false))⟩]) .ret) .skip)) (.seq (.seq (.reg [⟨some 5,none,.mv (.c (.int .i64 0))⟩]) (.block 0 (.loop [0,0,1,1,0,1,0,0,0,0,0,0,0,0,0,0,0,0,0,0,0,0,0,0,0,0,0,0,0,0,0,0,0,0,0,0,0,0,0] (.seq (.seq (.reg [⟨some 20,none,.mv (.t 5)⟩,⟨some 21,none,.faddr 1 (.t 2)⟩,⟨some 22,none,.load false 1 (.t 21)⟩,⟨some 23,none,.len false (.t 22)⟩,⟨some 24,none,.bin .lss false (.t 20) (.t 23)⟩]) (.cond (.t 24) .skip (.exit 0))) (.seq (.block 1 (.seq (.dreg [[],[0],[],[1,0,2],[3,1,0,2],[],[5],[],[6,5,7],[8,6,5,7],[4,3,1,0,2,9,8,6,5,7],[10,4,3,1,0,2,9,8,6,5,7]] [⟨some 27,none,.faddr 1 (.t 2)⟩,⟨some 28,none,.load false 1 (.t 27)⟩,⟨some 29,none,.mv (.t 5)⟩,⟨some 30,none,.iaddr 2 (.t 28) (.t 29)⟩,⟨some 31,none,.load true 2 (.t 30)⟩,⟨some 32,none,.faddr 1 (.t 3)⟩,⟨some 33,none,.load false 1 (.t 32)⟩,⟨some 34,none,.mv (.t 5)⟩,⟨some 35,none,.iaddr 2 (.t 33) (.t 34)⟩,⟨some 36,none,.load true 2 (.t 35)⟩,⟨some 37,none,.call 68 [(.t 31),(.t 36)]⟩,⟨some 38,none,.un .not (.t 37)⟩]) (.cond (.t 38) (.seq (.reg [⟨some 4,none,.mv (.c (.bool false))⟩]) .ret) .skip))) (.reg [⟨some 25,none,.mv (.t 5)⟩,⟨some 26,none,.bin .add false (.t 25) (.c (.int .i64 1))⟩,⟨some 5,none,.mv (.t 26)⟩])))))) (.seq (.reg [⟨some 4,none,.mv (.c (.bool true))⟩]) .ret))))
theorem I6:codeOf Tryz.prog 68=some ⟨39,FY,[(.tmp 4)]⟩:=by kernel_rfl
theorem Ai:modes 68=⟨[],.asis,none,false⟩:=by unfold modes; rfl
theorem PA {α:Type} {xs ys:List α} {k:Nat} (hx:k<xs.length) (hy:k<ys.length):xs.drop k=ys.drop k ↔ xs[k]=ys[k]∧xs.drop (k+1)=ys.drop (k+1):=by
 rw [zG hx,zG hy,List.cons.injEq]
theorem WW (fid:Nat) (xs ys:List Tm) (hl:xs.length≤1099511627776) (hl':ys.length≤1099511627776) (hg:LP Tryz.prog fid=true) (hm:(modes fid).hand=[]) (hE:∀ x∈xs,∀ y∈ys,E fid [x.sv,y.sv] []=some (.bool (dec (x=y)),[])):E 128 [.arr (xs.map Tm.d),.arr (ys.map Tm.d),.fn fid []] []=some (.bool (dec (xs=ys)),[]):=by
  by_cases hlen:xs.length=ys.length
  · have hq:((xs.length:Int)=(ys.length:Int))=True:=by first | exact eq_true (by omega) | exact eq_false (by omega)
    refine Ad Be AE (of_decide_eq_true rfl) ?_
    simp (disch:=omega) only [AD,go_sem,Aa,hq]
    refine go_loop (α:=Int) (fun a=>⟨slots 32 0 [(1,.arr (ys.map Tm.d)),(2,.fn fid []),(15,.arr (xs.map Tm.d)),(16,.int .i64 xs.length),(17,.int .i64 a)],[]⟩) (fun a=>∃ k:Nat,a=k∧k≤(xs).length∧dec (xs.drop k=ys.drop k)=dec (xs=ys)) (fun a=>(xs).length-(a).toNat) 0 ⟨0,rfl,zF _,by rw [zJ,zJ]⟩ (by simp (disch:=omega) only [go_sem,Aa]) ?_
    rintro i ⟨k,hi,hk,hR⟩
    have hni:i.toNat=k:=by omega
    have hni1:(i+1).toNat=k+1:=by omega
    rcases zB k (xs).length with hlt | hge
    · have hgx:=get_at Tm.d hlt
      rw [Tm.d_eq] at hgx
      have hlt':k<ys.length:=by omega
      have hgy:=get_at Tm.d hlt'
      rw [Tm.d_eq] at hgy
      have hc:=hE xs[k] (zD hlt) ys[k] (zD hlt')
      rw [Fd (PA hlt hlt')] at hR
      by_cases h0:xs[k]=ys[k]
      · rw [Ay h0] at hc
        rw [Fd (and_iff_right h0)] at hR
        simp (disch:=omega) only [go_sem,Aa,hni,hgx,hgy,hc,hg,hm]
        exact ⟨i+1,⟨k+1,by omega,hlt,hR⟩,by omega,by first | trivial | rfl⟩
      · rw [A8 h0] at hc
        rw [A8 (fun h=>h0 h.1)] at hR
        simp (disch:=omega) only [go_sem,Aa,hni,hgx,hgy,hc,hg,hm]
        exact hR
    · rw [zI hge,zI (by omega),D9] at hR
      simp (disch:=omega) only [go_sem,Aa,hni]
      exact hR
  · have hq:((xs.length:Int)=(ys.length:Int))=False:=by first | exact eq_true (by omega) | exact eq_false (by omega)
    have he:dec (xs=ys)=false:=A8 fun h=>hlen (by rw [h])
    rw [he]
    refine Ad Be AE (of_decide_eq_true rfl) ?_
    simp (disch:=omega) only [AD,go_sem,Aa,hq]
theorem Tm.eq_iff (x y:Tm):x=y ↔ x.name=y.name∧x.args=y.args:=by
 obtain ⟨n,a⟩:=x
 obtain ⟨m,b⟩:=y
 rw [Tm.mk.injEq]; rfl
theorem Ta (x:Tm) (y:Tm) (hnx:x.nodes≤1099511627776) (hny:y.nodes≤1099511627776) (ih:∀ x'∈x.args,∀ y':Tm,x'.nodes≤1099511627776→y'.nodes≤1099511627776→E 88 [x'.sv,y'.sv] []=some (.bool (dec (x'=y')),[])):E 88 [x.sv,y.sv] []=some (.bool (dec (x=y)),[]):=by
 have lx:=Tm.length_le x.args
 have ly:=Tm.length_le y.args
 have nx:=Tm.An x
 have ny:=Tm.An y
 have h6:=WW 88 x.args y.args (by omega) (by omega) N7 (by rw [Ae]) fun x' hx' y' hy'=>ih x' hx' y' (by have:=Tm.AX hx'; omega) (by have:=Tm.AX hy'; omega)
 rw [Fd (Tm.eq_iff x y)]
 by_cases h0:x.name=y.name
 ·rw [Fd (and_iff_right h0)]
  have hq:(x.name=y.name)=True:=by simp [h0]
  refine Ad HV Ae (of_decide_eq_true rfl) ?_
  simp (disch:=omega) only [Fl,go_sem,Aa,hq,h6,AE]
 ·have hq:(x.name=y.name)=False:=by simp [h0]
  rw [A8 (fun h=>h0 h.1)]
  refine Ad HV Ae (of_decide_eq_true rfl) ?_
  simp (disch:=omega) only [Fl,go_sem,Aa,hq]
theorem Ey (x y:Tm) (hnx:x.nodes≤1099511627776) (hny:y.nodes≤1099511627776):E 88 [x.sv,y.sv] []=some (.bool (dec (x=y)),[]) :=
 Ta x y hnx hny fun x' hx' y' h h'=>Ey x' y' h h'
termination_by SizeOf.sizeOf x
decreasing_by exact Tm.Aw hx'
theorem Qbs (x:Tm) (y:Tm) (hnx:x.nodes≤1099511627776) (hny:y.nodes≤1099511627776) (ih:∀ x'∈x.args,∀ y':Tm,x'.nodes≤1099511627776→y'.nodes≤1099511627776→E 68 [x'.sv,y'.sv] []=some (.bool (dec (x'=y')),[])):E 68 [x.sv,y.sv] []=some (.bool (dec (x=y)),[]):=by
  have lx:=Tm.length_le x.args
  have ly:=Tm.length_le y.args
  have nx:=Tm.An x
  have ny:=Tm.An y
  rw [Fd (Tm.eq_iff x y)]
  by_cases h0:x.name=y.name
  · rw [Fd (and_iff_right h0)]
    have hq:(x.name=y.name)=True:=by simp [h0]
    by_cases hlen:x.args.length=y.args.length
    · have hq2:((x.args.length:Int)=(y.args.length:Int))=True:=by first | exact eq_true (by omega) | exact eq_false (by omega)
      refine Ad I6 Ai (of_decide_eq_true rfl) ?_
      simp (disch:=omega) only [FY,go_sem,Aa,hq,hq2]
      refine go_loop (α:=Int) (fun a=>⟨slots 39 0 [(2,.ptr 0 0),(3,.ptr 1 0),(5,.int .i64 a)],[.box 71 [.str x.name,.arr (x.args.map Tm.d)],.box 71 [.str y.name,.arr (y.args.map Tm.d)]]⟩) (fun a=>∃ k:Nat,a=k∧k≤(x.args).length∧dec (x.args.drop k=y.args.drop k)=dec (x.args=y.args)) (fun a=>(x.args).length-(a).toNat) 0 ⟨0,rfl,zF _,by rw [zJ,zJ]⟩ (by simp (disch:=omega) only [go_sem,Aa]) ?_
      rintro i ⟨k,hi,hk,hR⟩
      have hni:i.toNat=k:=by omega
      have hni1:(i+1).toNat=k+1:=by omega
      rcases zB k (x.args).length with hlt | hge
      · have hgx:=get_at Tm.d hlt
        rw [Tm.d_eq] at hgx
        have hlt':k<y.args.length:=by omega
        have hgy:=get_at Tm.d hlt'
        rw [Tm.d_eq] at hgy
        have hc:=ih x.args[k] (zD hlt) y.args[k] (by have:=Tm.AX (zD hlt); omega) (by have:=Tm.AX (zD hlt'); omega)
        rw [Fd (PA hlt hlt')] at hR
        by_cases h0:x.args[k]=y.args[k]
        · rw [Ay h0] at hc
          rw [Fd (and_iff_right h0)] at hR
          simp (disch:=omega) only [go_sem,Aa,hni,hgx,hgy,hc,Ai]
          exact ⟨i+1,⟨k+1,by omega,hlt,hR⟩,by omega,by first | trivial | rfl⟩
        · rw [A8 h0] at hc
          rw [A8 (fun h=>h0 h.1)] at hR
          simp (disch:=omega) only [go_sem,Aa,hni,hgx,hgy,hc,Ai]
          exact hR
      · rw [zI hge,zI (by omega),D9] at hR
        simp (disch:=omega) only [go_sem,Aa,hni]
        exact hR
    · have hq2:((x.args.length:Int)=(y.args.length:Int))=False:=by first | exact eq_true (by omega) | exact eq_false (by omega)
      have he:dec (x.args=y.args)=false:=A8 fun h=>hlen (by rw [h])
      rw [he]
      refine Ad I6 Ai (of_decide_eq_true rfl) ?_
      simp (disch:=omega) only [FY,go_sem,Aa,hq,hq2]
  · have hq:(x.name=y.name)=False:=by simp [h0]
    rw [A8 (fun h=>h0 h.1)]
    refine Ad I6 Ai (of_decide_eq_true rfl) ?_
    simp (disch:=omega) only [FY,go_sem,Aa,hq]
theorem KI (x y:Tm) (hnx:x.nodes≤1099511627776) (hny:y.nodes≤1099511627776):E 68 [x.sv,y.sv] []=some (.bool (dec (x=y)),[]) :=
 Qbs x y hnx hny fun x' hx' y' h h'=>KI x' y' h h'
termination_by SizeOf.sizeOf x
decreasing_by exact Tm.Aw hx'
def FK:SC:=(.seq (.reg [⟨some 2,none,.mv (.c .nil)⟩]) (.seq (.seq (.reg [⟨some 6,none,.mv (.t 0)⟩,⟨some 7,none,.len false (.t 6)⟩,⟨some 8,none,.bin .eql false (.t 7) (.c (.int .i64 0))⟩]) (.cond (.t 8) (.seq (.reg [⟨some 2,none,.mv (.c .nil)⟩]) .ret) .skip)) (.seq (.reg [⟨some 9,none,.mv (.t 0)⟩,⟨some 10,none,.len false (.t 9)⟩,⟨(some 11),none,(.mkslice 71 2 40 [(.str ⟨#[]⟩),.nil] (.t 10))⟩,⟨some 3,none,.mv (.t 11)⟩]) (.seq (.seq (.reg [⟨some 12,none,.mv (.t 0)⟩,⟨some 13,none,.len false (.t 12)⟩,⟨some 14,none,.mv (.c (.int .i64 0))⟩]) (.block 0 (.loop [0,0,0,1,0,0,0,0,0,0,0,0,1,1,1,0,0,0,0,0,0,0,0,0,0,0] (.seq (.reg [⟨some 15,none,.bin .lss false (.t 14) (.t 13)⟩]) (.seq (.cond (.t 15) .skip (.exit 0)) (.seq (.block 1 (.seq (.reg [⟨some 16,none,.mv (.t 14)⟩,⟨some 17,none,.iaddr 2 (.t 12) (.t 14)⟩,⟨some 18,none,.load true 2 (.t 17)⟩,⟨(some 5),none,(.alloc 71 [(.str ⟨#[]⟩),.nil])⟩,⟨some 4,none,.mv (.t 16)⟩,⟨none,none,(.store 2 (.t 5) (.t 18))⟩]) (.reg [⟨some 19,none,.mv (.t 3)⟩,⟨some 20,none,.mv (.t 4)⟩,⟨some 21,none,.load true 2 (.t 5)⟩,⟨some 22,none,.call 133 [(.t 21)]⟩,⟨some 23,none,.iaddr 2 (.t 19) (.t 20)⟩,⟨none,none,(.store 2 (.t 23) (.t 22))⟩]))) (.reg [⟨some 24,none,.bin .add false (.t 14) (.c (.int .i64 1))⟩,⟨some 14,none,.mv (.t 24)⟩]))))))) (.seq (.reg [⟨some 25,none,.mv (.t 3)⟩,⟨some 2,none,.mv (.t 25)⟩]) .ret)))))
theorem IS:codeOf Tryz.prog 165=some ⟨26,FK,[(.tmp 2)]⟩:=by kernel_rfl
theorem FL:modes 165=⟨[],.own [some (71,2)],none,false⟩:=by unfold modes; rfl
def JT:SC:=(.seq (.reg [⟨some 1,none,.boxv 71 2 (.t 0)⟩,⟨(some 2),none,(.alloc 71 [(.str ⟨#[]⟩),.nil])⟩]) (.seq (.dreg [[],[0],[],[2],[3,2],[1,0,4,3,2],[5,1,0,4,3,2]] [⟨some 3,none,.faddr 0 (.t 1)⟩,⟨some 4,none,.load false 1 (.t 3)⟩,⟨some 5,none,.faddr 1 (.t 1)⟩,⟨some 6,none,.load false 1 (.t 5)⟩,⟨some 7,none,.call 165 [(.t 6)]⟩,⟨(some 8),none,(.build [(.str ⟨#[]⟩),.nil] [(0,(1,(.t 4))),(1,(1,(.t 7)))])⟩,⟨none,none,(.store 2 (.t 2) (.t 8))⟩]) .ret))
theorem PS:codeOf Tryz.prog 133=some ⟨9,JT,[(.cell 2 true 2)]⟩:=by kernel_rfl
theorem Ba:modes 133=⟨[],.asis,none,false⟩:=by unfold modes; rfl
def N8:SC:=(.seq (.reg [⟨some 1,none,.boxv 71 2 (.t 0)⟩,⟨(some 2),none,(.alloc 71 [(.str ⟨#[]⟩),.nil])⟩]) (.seq (.reg [⟨some 5,none,.faddr 0 (.t 1)⟩,⟨some 6,none,.load false 1 (.t 5)⟩,⟨(some 7),none,(.build [(.str ⟨#[]⟩),.nil] [(0,(1,(.t 6)))])⟩,⟨(some 3),none,(.alloc 71 [(.str ⟨#[]⟩),.nil])⟩,⟨none,none,(.store 2 (.t 3) (.t 7))⟩]) (.seq (.seq (.reg [⟨some 4,none,.mv (.c (.int .i64 0))⟩]) (.block 0 (.loop [0,1,1,1,1,0,0,0,0,0,0,0,0,0,0,0,0,0,0,0,0,0,0,0,0,0,0] (.seq (.seq (.reg [⟨some 8,none,.mv (.t 4)⟩,⟨some 9,none,.faddr 1 (.t 1)⟩,⟨some 10,none,.load false 1 (.t 9)⟩,⟨some 11,none,.len false (.t 10)⟩,⟨some 12,none,.bin .lss false (.t 8) (.t 11)⟩]) (.cond (.t 12) .skip (.exit 0))) (.seq (.block 1 (.dreg [[],[0],[],[2],[],[3,2,4],[5,3,2,4],[6,5,3,2,4],[7,6,5,3,2,4],[1,0,8,7,6,5,3,2,4],[0,1,2,3,4,5,6,7,8,9],[10,0,1,2,3,4,5,6,7,8,9]] [⟨some 15,none,.faddr 1 (.t 3)⟩,⟨some 16,none,.load false 1 (.t 15)⟩,⟨some 17,none,.faddr 1 (.t 1)⟩,⟨some 18,none,.load false 1 (.t 17)⟩,⟨some 19,none,.mv (.t 4)⟩,⟨some 20,none,.iaddr 2 (.t 18) (.t 19)⟩,⟨some 21,none,.load true 2 (.t 20)⟩,⟨some 22,none,.call 148 [(.t 21)]⟩,⟨(some 23),none,(.mkrow 71 2 [(.str ⟨#[]⟩),.nil] 1 [(0,(.t 22))])⟩,⟨(some 24),none,(.append 71 2 40 [(.str ⟨#[]⟩),.nil] (.t 16) (.t 23))⟩,⟨some 25,none,.faddr 1 (.t 3)⟩,⟨none,none,(.store 1 (.t 25) (.t 24))⟩])) (.reg [⟨some 13,none,.mv (.t 4)⟩,⟨some 14,none,.bin .add false (.t 13) (.c (.int .i64 1))⟩,⟨some 4,none,.mv (.t 14)⟩])))))) (.seq (.reg [⟨some 26,none,.load true 2 (.t 3)⟩,⟨none,none,(.store 2 (.t 2) (.t 26))⟩]) .ret))))
theorem Vk:codeOf Tryz.prog 148=some ⟨27,N8,[(.cell 2 true 2)]⟩:=by kernel_rfl
theorem CT:modes 148=⟨[],.frz,none,false⟩:=by unfold modes; rfl
theorem Vl (xs:List Tm) (hl:xs.length≤1099511627776) (h:∀ x∈xs,E 133 [x.sv] []=some (x.osv,x.obs)):E 165 [.arr (xs.map Tm.d)] []=some (.ref 0,[.row 71 2 (xs.map Tm.o)]):=by
 cases xs with
 | nil =>
  refine Ad IS FL (of_decide_eq_true rfl) ?_
  simp (disch:=omega) only [FK,go_sem,Aa]
 | cons x0 xs0 =>
 generalize hxs:x0 :: xs0=xs at *
 have hpos:0<xs.length:=by rw [←hxs]; simp
 refine Ad IS FL (of_decide_eq_true rfl) ?_
 simp (disch:=omega) only [FK,go_sem,Aa]
 refine go_loop (α:=Int) (fun a=>⟨slots 26 0 [(3,.ref 0),(12,.arr (xs.map Tm.d)),(13,.int .i64 xs.length),(14,.int .i64 a)],[.row 71 2 (Gj Tm.o [.str ⟨#[]⟩,.ow []] xs a.toNat)]⟩) (fun a=>∃ k:Nat,a=k∧k≤(xs).length) (fun a=>(xs).length-(a).toNat) 0 ⟨0,rfl,zF _⟩ (by simp (disch:=omega) only [go_sem,Aa,J3,yD]) ?_
 rintro i ⟨k,hi,hk⟩
 have hni:i.toNat=k:=by omega
 have hni1:(i+1).toNat=k+1:=by omega
 rcases zB k (xs).length with hlt | hge
 ·have hg:=get_at Tm.d hlt
  rw [Tm.d_eq] at hg
  have hz:=LA Tm.o [.str ⟨#[]⟩,.ow []] hlt
  have hc:=h xs[k] (zD hlt)
  have hs:=LB Tm.o [.str ⟨#[]⟩,.ow []] hlt
  rw [Tm.o_eq] at hs
  simp (disch:=omega) only [go_sem,Aa,hni,hg,hc,hz,L8,Ba,Tm.osv,Tm.obs]
  refine ⟨i+1,⟨k+1,by omega,hlt⟩,by omega,?_⟩
  simp (disch:=omega) only [go_sem,Aa,hni1,hs]
 ·obtain rfl:k=xs.length:=by omega
  simp (disch:=omega) only [go_sem,Aa,hni,L9]
theorem WX (x:Tm) (h:E 165 [.arr (x.args.map Tm.d)] []=some (.ref 0,[.row 71 2 (x.args.map Tm.o)])):E 133 [x.sv] []=some (x.osv,x.obs):=by
 refine Ad PS Ba (of_decide_eq_true rfl) ?_
 simp (disch:=omega) only [JT,go_sem,Aa,h,FL]
theorem J9 (x:Tm) (hn:x.nodes≤1099511627776):E 133 [x.sv] []=some (x.osv,x.obs) :=
 WX x (Vl x.args (by have:=Tm.An x; have:=Tm.length_le x.args; omega) fun y hy=>J9 y (by have:=Tm.AX hy; have:=Tm.An x; omega))
termination_by SizeOf.sizeOf x
decreasing_by exact Tm.Aw hy
def Qfs (res:RM) (n0:Nat) (rs:List RX) (Q:SV × List Ob→Prop) (x:X) (st:St):Prop:=∃ out,ST res n0 rs out x st∧Q out
theorem exq {α:Type} {a:α} {Q:α→Prop}:(∃ out,some a=some out∧Q out)=Q a:=propext ⟨fun ⟨o,h,q⟩=>by obtain rfl:=yP h; exact q,fun q=>⟨a,rfl,q⟩⟩
theorem QeR {res:RM} {n0:Nat} {rs:List RX} {Q:SV × List Ob→Prop} {sl:List SV} {ob:List Ob}:Qfs res n0 rs Q .ret ⟨sl,ob⟩=∃ out,Nx res n0 ob (Ow ⟨sl,ob⟩ rs)=some out∧Q out:=rfl
theorem QeS {res:RM} {n0:Nat} {rs:List RX} {Q:SV × List Ob→Prop} {sl:List SV} {ob:List Ob}:Qfs res n0 rs Q .normal ⟨sl,ob⟩=∃ out,Nx res n0 ob (Ow ⟨sl,ob⟩ rs)=some out∧Q out:=rfl
attribute [go_sem] QeR QeS exq
def Tm.osh (x:Tm):List OT:=[.str x.name,.sh (x.args.map Tm.d)]
theorem Tm.RB (x:Tm):x.osh=[.str x.name,.sh (x.args.map Tm.d)]:=rfl
theorem Tm.N9:∀ xs:List Tm,OT.AP (xs.map Tm.osh)=true
 | []=>rfl
 | x :: xs=>by rw [zK,Tm.RB]; simp [OT.AP,OT.Dw,OT.full,Tm.N9 xs]
theorem Tm.Vm:∀ xs:List Tm,OT.erss (xs.map Tm.osh)=xs.map Tm.d
 | []=>rfl
 | x :: xs=>by rw [zK,zK,Tm.RB,Tm.d_eq]; simp [OT.erss,OT.ers,OT.er,Tm.Vm xs]
theorem DD {α β:Type} (f:α→β) {xs:List α} {k:Nat} (h:k<xs.length):(xs.take k).map f++[f xs[k]]=(xs.take (k+1)).map f:=by
 rw [yG h,yF]; rfl
theorem QcG (x:Tm) (hn:x.nodes≤1099511627776) (ih:∀ y∈x.args,E 148 [y.sv] []=some (y.sv,[])):E 148 [x.sv] []=some (x.sv,[]):=by
 have hl:=Tm.length_le x.args
 have hne:=Tm.An x
 have h10:((1:Int)=0)=False:=by simp
 have hfu:=Tm.N9 x.args
 have her:=Tm.Vm x.args
 refine Ad Vk CT (of_decide_eq_true rfl) ?_
 simp (disch:=omega) only [N8,go_sem,Aa]
 refine go_loop (α:=Int) (fun a=>⟨slots 27 0 [(1,.ptr 0 0),(2,.ptr 1 0),(3,.ptr 2 0),(4,.int .i64 a)],(if a=0 then [.box 71 [.str x.name,.arr (x.args.map Tm.d)],.box 71 [.str ⟨#[]⟩,.nil],.box 71 [.str x.name,.nil]] else [.box 71 [.str x.name,.arr (x.args.map Tm.d)],.box 71 [.str ⟨#[]⟩,.nil],.box 71 [.str x.name,.ref 3],.row 71 2 ((x.args.take a.toNat).map Tm.osh)])⟩) (fun a=>∃ k:Nat,a=k∧k≤(x.args).length) (fun a=>(x.args).length-(a).toNat) 0 ⟨0,rfl,zF _⟩ (by simp (disch:=omega) only [go_sem,Aa,eq_self,if_true]) ?_
 rintro i ⟨k,hi,hk⟩
 have hni:i.toNat=k:=by omega
 have hni1:(i+1).toNat=k+1:=by omega
 rcases zB k (x.args).length with hlt | hge
 ·have hg:=get_at Tm.d hlt
  rw [Tm.d_eq] at hg
  have hc:=ih x.args[k] (zD hlt)
  have hs:=DD Tm.osh hlt
  rw [Tm.RB] at hs
  rcases zH k with h0 | h0
  ·subst h0
   obtain rfl:i=0:=hi
   rw [z7,zL,zU] at hs
   simp (disch:=omega) only [go_sem,Aa,hni,hg,hc,CT,eq_self,if_true]
   refine ⟨1,⟨1,rfl,hlt⟩,by omega,?_⟩
   simp (disch:=omega) only [go_sem,Aa,h10,if_false,hs]
  ·have hi0:(i=0)=False:=by simp; omega
   have hi1:(i+1=0)=False:=by simp; omega
   have htl:(x.args.take k).length=k:=by rw [zQ]; omega
   simp (disch:=omega) only [go_sem,Aa,hni,hg,hc,CT,hi0,if_false,htl]
   refine ⟨i+1,⟨k+1,by omega,hlt⟩,by omega,?_⟩
   simp (disch:=omega) only [go_sem,Aa,hni1,hi1,if_false,hs]
 ·obtain rfl:k=x.args.length:=by omega
  have ht:x.args.take x.args.length=x.args:=zR
  rcases zH x.args.length with h0 | h0
  ·have hx:x.args=[]:=zE h0
   obtain rfl:i=0:=by omega
   simp (disch:=omega) only [go_sem,Aa,hni,hx,eq_self,if_true,zL,zY]
  ·have hi0:(i=0)=False:=by simp; omega
   simp (disch:=omega) only [go_sem,Aa,hni,hi0,if_false,ht,hfu,her]
theorem Qn (x:Tm) (hn:x.nodes≤1099511627776):E 148 [x.sv] []=some (x.sv,[]) :=
 QcG x hn fun y hy=>Qn y (by have:=Tm.AX hy; have:=Tm.An x; omega)
termination_by SizeOf.sizeOf x
decreasing_by exact Tm.Aw hy
def Hx:SC:=(.seq (.reg [⟨some 1,none,.boxv 73 3 (.t 0)⟩,⟨(some 2),none,(.alloc 73 [(.bool false),(.str ⟨#[]⟩),.nil])⟩]) (.seq (.dreg [[],[0],[],[2],[3,2],[1,0,4,3,2],[5,1,0,4,3,2]] [⟨some 3,none,.faddr 0 (.t 1)⟩,⟨some 4,none,.load false 1 (.t 3)⟩,⟨some 5,none,.faddr 1 (.t 1)⟩,⟨some 6,none,.load true 2 (.t 5)⟩,⟨some 7,none,.call 133 [(.t 6)]⟩,⟨(some 8),none,(.build [(.bool false),(.str ⟨#[]⟩),.nil] [(0,(1,(.t 4))),(1,(2,(.t 7)))])⟩,⟨none,none,(.store 3 (.t 2) (.t 8))⟩]) .ret))
theorem ML:codeOf Tryz.prog 169=some ⟨9,Hx,[(.cell 2 true 3)]⟩:=by kernel_rfl
theorem CF:modes 169=⟨[],.own [none,none,some (71,2)],none,false⟩:=by unfold modes; rfl
def Hy:SC:=(.seq (.reg [⟨some 2,none,.boxv 73 3 (.t 0)⟩,⟨some 3,none,.boxv 73 3 (.t 1)⟩,⟨some 4,none,.mv (.c (.bool false))⟩]) (.seq (.reg [⟨some 5,none,.faddr 0 (.t 2)⟩,⟨some 6,none,.load false 1 (.t 5)⟩,⟨some 7,none,.faddr 0 (.t 3)⟩,⟨some 8,none,.load false 1 (.t 7)⟩,⟨some 9,none,.bin .eql true (.t 6) (.t 8)⟩,⟨some 10,none,.mv (.t 9)⟩,⟨(some 11),(some (10,true)),(.faddr 1 (.t 2))⟩,⟨(some 12),(some (10,true)),(.load true 2 (.t 11))⟩,⟨(some 13),(some (10,true)),(.faddr 1 (.t 3))⟩,⟨(some 14),(some (10,true)),(.load true 2 (.t 13))⟩,⟨(some 15),(some (10,true)),(.call 88 [(.t 12),(.t 14)])⟩,⟨some 16,none,.pick (.t 10) (.t 15) (.c (.bool false))⟩,⟨some 4,none,.mv (.t 16)⟩]) .ret))
theorem MM:codeOf Tryz.prog 101=some ⟨17,Hy,[(.tmp 4)]⟩:=by kernel_rfl
theorem MN:modes 101=⟨[],.asis,none,false⟩:=by unfold modes; rfl
def JU:SC:=(.seq (.reg [⟨some 2,none,.alloc 28 [.nil]⟩]) (.seq (.reg [⟨some 6,none,.build [.nil] []⟩,⟨some 3,none,.alloc 28 [.nil]⟩,⟨none,none,(.store 1 (.t 3) (.t 6))⟩]) (.seq (.seq (.reg [⟨some 7,none,.mv (.t 0)⟩,⟨some 8,none,.len false (.t 7)⟩,⟨some 9,none,.mv (.c (.int .i64 0))⟩]) (.block 0 (.loop [0,0,1,1,0,0,0,1,1,1,0,0,0,0,0,0,0,0,0,0,0,0,0,0,0,0,0,0,0] (.seq (.reg [⟨some 10,none,.bin .lss false (.t 9) (.t 8)⟩]) (.seq (.cond (.t 10) .skip (.exit 0)) (.seq (.block 1 (.seq (.reg [⟨some 11,none,.iaddr 3 (.t 7) (.t 9)⟩,⟨some 12,none,.load true 3 (.t 11)⟩,⟨(some 5),none,(.alloc 73 [(.bool false),(.str ⟨#[]⟩),.nil])⟩,⟨none,none,(.store 3 (.t 5) (.t 12))⟩]) (.dreg [[],[0],[],[2],[3,2],[1,0,4,3,2],[0,1,2,3,4,5],[6,0,1,2,3,4,5]] [⟨some 13,none,.faddr 0 (.t 3)⟩,⟨some 14,none,.load false 1 (.t 13)⟩,⟨some 15,none,.load true 3 (.t 5)⟩,⟨some 16,none,.call 169 [(.t 15)]⟩,⟨(some 17),none,(.mkrow 73 3 [(.bool false),(.str ⟨#[]⟩),.nil] 1 [(0,(.t 16))])⟩,⟨(some 18),none,(.append 73 3 48 [(.bool false),(.str ⟨#[]⟩),.nil] (.t 14) (.t 17))⟩,⟨some 19,none,.faddr 0 (.t 3)⟩,⟨none,none,(.store 1 (.t 19) (.t 18))⟩]))) (.reg [⟨some 20,none,.bin .add false (.t 9) (.c (.int .i64 1))⟩,⟨some 9,none,.mv (.t 20)⟩]))))))) (.seq (.reg [⟨some 21,none,.faddr 0 (.t 3)⟩,⟨some 22,none,.load false 1 (.t 21)⟩,⟨some 23,none,.call 170 [(.t 22),(.c (.fn 83 []))]⟩]) (.seq (.reg [⟨some 24,none,.faddr 0 (.t 3)⟩,⟨some 25,none,.load false 1 (.t 24)⟩,⟨some 26,none,.call 171 [(.t 25),(.c (.fn 101 []))]⟩,⟨some 27,none,.faddr 0 (.t 3)⟩,⟨none,none,(.store 1 (.t 27) (.t 26))⟩]) (.seq (.reg [⟨some 28,none,.load true 1 (.t 3)⟩,⟨none,none,(.store 1 (.t 2) (.t 28))⟩]) .ret))))))
theorem PT:codeOf Tryz.prog 138=some ⟨29,JU,[(.cell 2 true 1)]⟩:=by kernel_rfl
theorem CP:modes 138=⟨[],.own [some (73,3)],none,false⟩:=by unfold modes; rfl
def Mi:SC:=(.seq (.reg [⟨some 2,none,.alloc 28 [.nil]⟩]) (.seq (.reg [⟨(some 7),none,(.mkrow 73 3 [(.bool false),(.str ⟨#[]⟩),.nil] 0 [])⟩,⟨some 3,none,.mv (.t 7)⟩]) (.seq (.seq (.reg [⟨some 4,none,.mv (.c (.int .i64 0))⟩]) (.block 0 (.loop [1,0,1,1,1,0,0,0,0,0,0,0,0,0,0,0,0,0,0,0,0,0,0,0,0,0,0,0,0,0,0,0,0,0,0,0,0,0,0,0,0,0,0,0,0,0,0,0,0,0,0,0,0,0,0,0,0,0,0,0,0,0,0,0,0,0,0,0,0,0,0,0,0,0] (.seq (.seq (.reg [⟨some 8,none,.mv (.t 4)⟩,⟨some 9,none,.mv (.t 0)⟩,⟨some 10,none,.len false (.t 9)⟩,⟨some 11,none,.bin .lss false (.t 8) (.t 10)⟩]) (.cond (.t 11) .skip (.exit 0))) (.seq (.block 1 (.seq (.reg [⟨some 5,none,.mv (.c (.int .i64 0))⟩]) (.seq (.block 2 (.loop [1,0,1,1,1,1,0,0,0,0,0,0,0,0,0,0,0,0,0,0,0,0,0,0,0,0,0,0,0,0,0,0,0,0,0,0,0,0,0,0,0,0,0,0,0,0,0,0,0,0,0,0,0,0,0,0,0,0,0,0,0,0,0,0,0,0,0,0,0,0,0,0,0,0] (.seq (.seq (.dreg [[],[],[1],[0,2,1],[3,0,2,1],[4,3,0,2,1],[4,3,0,2,1],[5,4,3,0,2,1,6],[7,5,4,3,0,2,1,6],[4,3,0,2,1],[4,3,0,2,1],[9,4,3,0,2,1,10],[11,9,4,3,0,2,1,10],[8,7,5,4,3,0,2,1,6,12,11,9,10],[13,8,7,5,4,3,0,2,1,6,12,11,9,10],[4,3,0,2,1,14,13,8,7,5,6,12,11,9,10]] [⟨some 14,none,.mv (.t 5)⟩,⟨some 15,none,.mv (.t 3)⟩,⟨some 16,none,.len false (.t 15)⟩,⟨some 17,none,.bin .lss false (.t 14) (.t 16)⟩,⟨some 18,none,.mv (.t 17)⟩,⟨(some 19),(some (18,true)),(.mv (.t 3))⟩,⟨(some 20),(some (18,true)),(.mv (.t 5))⟩,⟨(some 21),(some (18,true)),(.iaddr 3 (.t 19) (.t 20))⟩,⟨(some 22),(some (18,true)),(.load true 3 (.t 21))⟩,⟨(some 23),(some (18,true)),(.mv (.t 0))⟩,⟨(some 24),(some (18,true)),(.mv (.t 4))⟩,⟨(some 25),(some (18,true)),(.iaddr 3 (.t 23) (.t 24))⟩,⟨(some 26),(some (18,true)),(.load true 3 (.t 25))⟩,⟨(some 27),(some (18,true)),(.call 73 [(.t 22),(.t 26)])⟩,⟨(some 28),(some (18,true)),(.bin .lss false (.t 27) (.c (.int .i64 0)))⟩,⟨some 29,none,.pick (.t 18) (.t 28) (.c (.bool false))⟩]) (.cond (.t 29) .skip (.exit 2))) (.block 3 (.reg [⟨some 30,none,.mv (.t 5)⟩,⟨some 31,none,.bin .add false (.t 30) (.c (.int .i64 1))⟩,⟨some 5,none,.mv (.t 31)⟩]))))) (.seq (.seq (.dreg [[],[],[1],[0,2,1],[3,0,2,1],[4,3,0,2,1],[4,3,0,2,1],[5,4,3,0,2,1,6],[7,5,4,3,0,2,1,6],[4,3,0,2,1],[4,3,0,2,1],[9,4,3,0,2,1,10],[11,9,4,3,0,2,1,10],[8,7,5,4,3,0,2,1,6,12,11,9,10],[13,8,7,5,4,3,0,2,1,6,12,11,9,10],[4,3,0,2,1,14,13,8,7,5,6,12,11,9,10]] [⟨some 32,none,.mv (.t 5)⟩,⟨some 33,none,.mv (.t 3)⟩,⟨some 34,none,.len false (.t 33)⟩,⟨some 35,none,.bin .lss false (.t 32) (.t 34)⟩,⟨some 36,none,.mv (.t 35)⟩,⟨(some 37),(some (36,true)),(.mv (.t 3))⟩,⟨(some 38),(some (36,true)),(.mv (.t 5))⟩,⟨(some 39),(some (36,true)),(.iaddr 3 (.t 37) (.t 38))⟩,⟨(some 40),(some (36,true)),(.load true 3 (.t 39))⟩,⟨(some 41),(some (36,true)),(.mv (.t 0))⟩,⟨(some 42),(some (36,true)),(.mv (.t 4))⟩,⟨(some 43),(some (36,true)),(.iaddr 3 (.t 41) (.t 42))⟩,⟨(some 44),(some (36,true)),(.load true 3 (.t 43))⟩,⟨(some 45),(some (36,true)),(.call 73 [(.t 40),(.t 44)])⟩,⟨(some 46),(some (36,true)),(.bin .eql false (.t 45) (.c (.int .i64 0)))⟩,⟨some 47,none,.pick (.t 36) (.t 46) (.c (.bool false))⟩]) (.cond (.t 47) (.exit 1) .skip)) (.seq (.dreg [[],[],[0,1],[2,0,1],[3,2,0,1],[],[],[5,6],[7,5,6],[8,7,5,6],[9,8,7,5,6],[4,3,2,0,1,10,9,8,7,5,6],[],[12,11,4,3,2,0,1,10,9,8,7,5,6]] [⟨some 48,none,.mv (.t 0)⟩,⟨some 49,none,.mv (.t 4)⟩,⟨some 50,none,.iaddr 3 (.t 48) (.t 49)⟩,⟨some 51,none,.faddr 0 (.t 50)⟩,⟨some 52,none,.load false 1 (.t 51)⟩,⟨some 53,none,.mv (.t 0)⟩,⟨some 54,none,.mv (.t 4)⟩,⟨some 55,none,.iaddr 3 (.t 53) (.t 54)⟩,⟨some 56,none,.faddr 1 (.t 55)⟩,⟨some 57,none,.load true 2 (.t 56)⟩,⟨some 58,none,.call 148 [(.t 57)]⟩,⟨(some 59),none,(.build [(.bool false),(.str ⟨#[]⟩),.nil] [(0,(1,(.t 52))),(1,(2,(.t 58)))])⟩,⟨(some 6),none,(.alloc 73 [(.bool false),(.str ⟨#[]⟩),.nil])⟩,⟨none,none,(.store 3 (.t 6) (.t 59))⟩]) (.dreg [[],[],[],[1,2],[0,3,1,2],[],[5],[4,0,3,1,2,6,5],[],[],[8,9],[7,4,0,3,1,2,6,5,10,8,9],[11,7,4,0,3,1,2,6,5,10,8,9]] [⟨(some 60),none,(.mkrow 73 3 [(.bool false),(.str ⟨#[]⟩),.nil] 0 [])⟩,⟨some 61,none,.mv (.t 3)⟩,⟨some 62,none,.mv (.t 5)⟩,⟨some 63,none,.slice false 3 (.t 61) none (some (.t 62))⟩,⟨(some 64),none,(.append 73 3 48 [(.bool false),(.str ⟨#[]⟩),.nil] (.t 60) (.t 63))⟩,⟨some 65,none,.load true 3 (.t 6)⟩,⟨(some 66),none,(.mkrow 73 3 [(.bool false),(.str ⟨#[]⟩),.nil] 1 [(0,(.t 65))])⟩,⟨(some 67),none,(.append 73 3 48 [(.bool false),(.str ⟨#[]⟩),.nil] (.t 64) (.t 66))⟩,⟨some 68,none,.mv (.t 3)⟩,⟨some 69,none,.mv (.t 5)⟩,⟨some 70,none,.slice false 3 (.t 68) (some (.t 69)) none⟩,⟨(some 71),none,(.append 73 3 48 [(.bool false),(.str ⟨#[]⟩),.nil] (.t 67) (.t 70))⟩,⟨some 3,none,.mv (.t 71)⟩])))))) (.reg [⟨some 12,none,.mv (.t 4)⟩,⟨some 13,none,.bin .add false (.t 12) (.c (.int .i64 1))⟩,⟨some 4,none,.mv (.t 13)⟩])))))) (.seq (.reg [⟨some 72,none,.mv (.t 3)⟩,⟨some 73,none,.build [.nil] [(0,(1,(.t 72)))]⟩,⟨none,none,(.store 1 (.t 2) (.t 73))⟩]) .ret))))
theorem Tc:codeOf Tryz.prog 117=some ⟨74,Mi,[(.cell 2 true 1)]⟩:=by kernel_rfl
theorem CZ:modes 117=⟨[],.frl [10],none,false⟩:=by unfold modes; rfl
theorem Mj (x:Lt) (hn:x.atom.nodes≤1099511627776):E 169 [x.sv] []=some (x.osv,x.obs):=by
 have h:=J9 x.atom hn
 refine Ad ML CF (of_decide_eq_true rfl) ?_
 simp (disch:=omega) only [Hx,go_sem,Aa,h,Ba,Tm.osv,Tm.obs]
theorem Lt.QeT (x y:Lt):dec (x=y)=(bif SL x.pos y.pos then dec (x.atom=y.atom) else false):=by
 obtain ⟨p,a⟩:=x
 obtain ⟨q,b⟩:=y
 have e:((⟨p,a⟩:Lt)=⟨q,b⟩) ↔ (p=q∧a=b):=by rw [Lt.mk.injEq]
 rw [Fd e]
 cases p <;> cases q
 ·show _=dec (a=b)
  exact Fd (and_iff_right rfl)
 ·exact A8 fun h=>by cases h.1
 ·exact A8 fun h=>by cases h.1
 ·show _=dec (a=b)
  exact Fd (and_iff_right rfl)
theorem Td (x y:Lt) (hnx:x.atom.nodes≤1099511627776) (hny:y.atom.nodes≤1099511627776):E 101 [x.sv,y.sv] []=some (.bool (dec (x=y)),[]):=by
 have h:=Ey x.atom y.atom hnx hny
 have b1:(false == true)=false:=rfl
 have b2:(true == false)=false:=rfl
 rw [Lt.QeT]
 cases hp:x.pos <;> cases hq:y.pos
 all_goals
  refine Ad MM MN (of_decide_eq_true rfl) ?_
  simp (disch:=omega) only [Hy,go_sem,Aa,h,hp,hq,b1,b2,SL,Ae]
def Lt.fine (x:Lt):Prop:=x.atom.cok=true∧x.atom.nodes≤1099511627776
theorem AK:modes 170=⟨[true],.asis,some HO,false⟩:=by unfold modes; rfl
theorem QdZ (t:TypeId) (l:List Lt) (hl:l.length≤1099511627776) (hc:∀ x∈l,x.fine):E 170 [.ref 0,.fn 83 []] [.row t 3 (l.map Lt.o)]=some (.tup [],[.row t 3 ((Nt l).map Lt.o)]):=by
 rw [Hq (g:=HO) (congrArg FM.ext AK)]
 unfold HO
 simp only
 rw [Ay ⟨by first | trivial | rfl,by first | trivial | rfl,by simpa using hl,l,rfl,fun x hx y hy=>N6 x y (hc x hx).1 (hc y hy).1 (hc x hx).2 (hc y hy).2⟩,cond_true,Qm]
theorem Qbt:E 170 [.nil,.fn 83 []] []=some (.tup [],[]):=by
 rw [Hq (g:=HO) (congrArg FM.ext AK)]
 unfold HO
 simp only
 rw [Ay (by first | trivial | rfl),cond_true]
theorem AG:modes 171=⟨[true],.asis,some Ec,false⟩:=by unfold modes; rfl
theorem Zr (t:TypeId) (l:List Lt) (hl:l.length≤1099511627776) (hc:∀ x∈l,x.fine):E 171 [.ref 0,.fn 101 []] [.row t 3 (l.map Lt.o)]=some (.ref 1,[.gone,.row t 3 ((Ho l).map Lt.o)]):=by
 rw [Hq (g:=Ec) (congrArg FM.ext AG)]
 unfold Ec
 simp only
 rw [Ay ⟨by first | trivial | rfl,by first | trivial | rfl,by simpa using hl,l,rfl,fun x hx y hy=>E_told (Td x y (hc x hx).2 (hc y hy).2)⟩,cond_true,Qm]
theorem Vn:E 171 [.nil,.fn 101 []] []=some (.nil,[]):=by
 rw [Hq (g:=Ec) (congrArg FM.ext AG)]
 unfold Ec
 simp only
 rw [Ay (by first | trivial | rfl),cond_true]
noncomputable def mkC (l:List Lt):Cl:=⟨Ho (Nt l)⟩
theorem Qea:(mkC []).lits=[]:=by
 have e0:Nt []=[]:=List.mergeSort_nil
 unfold mkC
 rw [e0]; rfl
theorem MO (l:List Lt):CS (mkC l).lits:=UR (P4 l)
theorem Qo (l:List Lt) (z:Lt):z∈(mkC l).lits ↔ z∈l:=by
 show z∈Ho (Nt l) ↔ _
 rw [Qbg]
 exact (GU l).mem_iff
theorem Qas (l:List Lt):(mkC l).lits.length≤l.length:=by
 show (Ho (Nt l)).length≤_
 rw [O8]
 have:=Qak (Hn (Nt l)) (Nt l).length
 rw [(GU l).length_eq] at this
 exact Nat.le_trans (by rw [(GU l).length_eq]; exact zO _) this
theorem RC (l:List Lt) (hl:l.length≤1048576) (hf:∀ x∈l,x.fine):E 138 [.arr (l.map Lt.d)] []=some ((mkC l).osv,(mkC l).obs):=by
 have h10:((1:Int)=0)=False:=by simp
 have hsn:=Qbt
 have hcn:=Vn
 have hs1:=QdZ 73 l (by omega) hf
 have hs2:=Zr 73 (Nt l) (by rw [(GU l).length_eq]; omega) (fun x hx=>hf x ((GU l).mem_iff.1 hx))
 refine Ad PT CP (of_decide_eq_true rfl) ?_
 simp (disch:=omega) only [JU,go_sem,Aa]
 refine go_loop (α:=Int) (fun a=>⟨slots 29 0 [(2,.ptr 0 0),(3,.ptr 1 0),(7,.arr (l.map Lt.d)),(8,.int .i64 l.length),(9,.int .i64 a)],(if a=0 then [.box 28 [.nil],.box 28 [.nil]] else [.box 28 [.nil],.box 28 [.ref 2],.row 73 3 ((l.take a.toNat).map Lt.o)])⟩) (fun a=>∃ k:Nat,a=k∧k≤(l).length) (fun a=>(l).length-(a).toNat) 0 ⟨0,rfl,zF _⟩ (by simp (disch:=omega) only [go_sem,Aa,eq_self,if_true]) ?_
 rintro i ⟨k,hi,hk⟩
 have hni:i.toNat=k:=by omega
 have hni1:(i+1).toNat=k+1:=by omega
 rcases zB k (l).length with hlt | hge
 ·have hg:=get_at Lt.d hlt
  rw [Lt.d_eq] at hg
  have hc:=Mj l[k] (hf _ (zD hlt)).2
  have hs:=DD Lt.o hlt
  rw [Lt.o_eq] at hs
  rcases zH k with h0 | h0
  ·subst h0
   obtain rfl:i=0:=hi
   rw [z7,zL,zU] at hs
   simp (disch:=omega) only [go_sem,Aa,hni,hg,hc,CF,eq_self,if_true]
   refine ⟨1,⟨1,rfl,hlt⟩,by omega,?_⟩
   simp (disch:=omega) only [go_sem,Aa,h10,if_false,hs]
  ·have hi0:(i=0)=False:=by simp; omega
   have hi1:(i+1=0)=False:=by simp; omega
   have htl:(l.take k).length=k:=by rw [zQ]; omega
   simp (disch:=omega) only [go_sem,Aa,hni,hg,hc,CF,hi0,if_false,htl]
   refine ⟨i+1,⟨k+1,by omega,hlt⟩,by omega,?_⟩
   simp (disch:=omega) only [go_sem,Aa,hni1,hi1,if_false,hs]
 ·obtain rfl:k=l.length:=by omega
  have ht:l.take l.length=l:=zR
  rcases zH l.length with h0 | h0
  ·have hx:l=[]:=zE h0
   obtain rfl:i=0:=by omega
   have hm:(mkC l).lits=[]:=by rw [hx]; exact Qea
   simp (disch:=omega) only [go_sem,Aa,hni,eq_self,if_true,hsn,hcn,hm,zL,AK,AG]
  ·have hi0:(i=0)=False:=by simp; omega
   have hm:(Ho (Nt l))=(mkC l).lits:=rfl
   simp (disch:=omega) only [go_sem,Aa,hni,hi0,if_false,ht,hs1,hs2,hm,AK,AG]
noncomputable def Dh:List Lt→Lt→Nat
 | [],_=>0
 | y :: r,x=>if y.cmp x < 0 then Dh r x+1 else 0
noncomputable def HG:List Lt→Lt→List Lt
 | [],x=>[x]
 | y :: r,x=>if y.cmp x < 0 then y :: HG r x else if y.cmp x=0 then y :: r else x :: y :: r
theorem Qat (x:Lt):∀ xs:List Lt,Dh xs x≤xs.length
 | []=>zO _
 | y :: r=>by
  rw [Dh]
  have:=Qat x r
  split <;> simp <;> omega
theorem Qbu {xs:List Lt} {x:Lt} {k:Nat} (h:k+Dh (xs.drop k) x=Dh xs x) (hk:k<xs.length):(xs[k].cmp x<0∧k+1+Dh (xs.drop (k+1)) x=Dh xs x)∨(¬ xs[k].cmp x<0∧k=Dh xs x):=by
 rw [zG hk,Dh] at h
 by_cases hq:xs[k].cmp x<0
 ·rw [if_pos hq] at h; exact .inl ⟨hq,by omega⟩
 ·rw [if_neg hq] at h; exact .inr ⟨hq,by omega⟩
theorem RD {x:Lt}:∀ {xs:List Lt} (hlt:Dh xs x<xs.length),xs[Dh xs x].cmp x=0→HG xs x=xs
  | [],hlt,_=>by simp at hlt
  | y :: r,hlt,h=>by
    rw [HG]
    by_cases hq:y.cmp x<0
    · have e:Dh (y :: r) x=Dh r x+1:=by rw [Dh,if_pos hq]
      rw [if_pos hq]
      simp only [e,zP,yR] at hlt h
      rw [RD (by omega) h]
    · have e:Dh (y :: r) x=0:=by rw [Dh,if_neg hq]
      simp only [e,yS] at h
      rw [if_neg hq,if_pos h]
theorem RE {x:Lt}:∀ {xs:List Lt},(∀ hlt:Dh xs x<xs.length,xs[Dh xs x].cmp x≠0)→HG xs x=xs.take (Dh xs x)++[x]++xs.drop (Dh xs x)
  | [],_=>rfl
  | y :: r,h=>by
    rw [HG]
    by_cases hq:y.cmp x<0
    · have e:Dh (y :: r) x=Dh r x+1:=by rw [Dh,if_pos hq]
      rw [if_pos hq,e,List.take_succ_cons,List.drop_succ_cons,yB,yB]
      rw [RE fun hlt=>?_]
      have:=h (by rw [e]; simpa using hlt)
      simp only [e,yR] at this
      exact this
    · have e:Dh (y :: r) x=0:=by rw [Dh,if_neg hq]
      have:=h (by rw [e]; simp)
      simp only [e,yS] at this
      rw [if_neg hq,if_neg this,e]
      rfl
theorem NA (x z:Lt):∀ xs:List Lt,z∈HG xs x ↔ z=x∨z∈xs
  | []=>by simp [HG]
  | y :: r=>by
    rw [HG]
    split
    · rw [yL,NA x z r,yL]
      constructor
      · rintro (h | h | h) <;> simp [h]
      · rintro (h | h | h) <;> simp [h]
    · split
      · rename_i h0
        have e:y=x:=(Lt.cmp_ord y x x).zero.1 h0
        subst e
        simp
      · simp
theorem PB (x:Lt):∀ {xs:List Lt},CS xs→CS (HG xs x)
  | [],_=>List.pairwise_singleton _ _
  | y :: r,h=>by
    obtain ⟨h1,h2⟩:=zZ.1 h
    rw [HG]
    split
    · rename_i hq
      refine zZ.2 ⟨fun z hz=>?_,PB x h2⟩
      rcases (NA x z r).1 hz with rfl | hz
      · exact hq
      · exact h1 z hz
    · split
      · exact h
      · rename_i hq h0
        have ha:=(Lt.cmp_ord y x x).anti
        have hxy:x.cmp y<0:=by omega
        refine zZ.2 ⟨fun z hz=>?_,h⟩
        rcases yL.1 hz with rfl | hz
        · exact hxy
        · exact (Lt.cmp_ord x y z).trans hxy (h1 z hz)
theorem WY (x:Lt):∀ xs:List Lt,(HG xs x).length≤xs.length+1
 | []=>zO _
 | y :: r=>by
  rw [HG]
  have:=WY x r
  split
  ·simpa using this
  ·split <;> simp
noncomputable def KJ (out l:List Lt):List Lt:=l.foldl HG out
theorem Ug (z:Lt):∀ (l out:List Lt),z∈KJ out l ↔ z∈out∨z∈l
 | [],out=>by simp [KJ]
 | x :: l,out=>by
  show z∈KJ (HG out x) l ↔ _
  rw [Ug z l,NA,yL]
  constructor
  ·rintro ((h | h) | h) <;> simp [h]
  ·rintro (h | h | h) <;> simp [h]
theorem NB:∀ (l:List Lt) {out:List Lt},CS out→CS (KJ out l)
 | [],_,h=>h
 | x :: l,_,h=>NB l (PB x h)
theorem Qbv (l:List Lt):KJ [] l=(mkC l).lits:=J0 (NB l xA) (MO l) fun z=>by
 rw [Ug,Qo]; simp
theorem Lt.ot_take (xs:List Lt) (k:Nat):((xs.map Lt.d).take k).map (fun x=>x.map D.ot)=(xs.take k).map fun b=>b.d.map D.ot:=by
 rw [←List.map_take,yN]; rfl
theorem Lt.ot_drop (xs:List Lt) (k:Nat):((xs.map Lt.d).drop k).map (fun x=>x.map D.ot)=(xs.drop k).map fun b=>b.d.map D.ot:=by
 rw [←List.map_drop,yN]; rfl
theorem Lt.al3 (xs:List Lt):((xs.map fun b=>b.d.map D.ot).all fun l=>l.length == 3)=true:=by
 rw [List.all_map,zN]
 intro x _
 show ((x.d.map D.ot).length == 3)=true
 rw [Lt.d_eq]; rfl
theorem Lt.ald3 (xs:List Lt):((xs.map Lt.d).all fun l=>l.length == 3)=true:=by
 rw [List.all_map,zN]
 intro x _
 show (x.d.length == 3)=true
 rw [Lt.d_eq]; rfl
theorem Lt.dfu:∀ xs:List Lt,OT.AP (xs.map fun b=>b.d.map D.ot)=true
 | []=>rfl
 | x :: xs=>by rw [zK,Lt.d_eq]; simp [OT.AP,OT.Dw,OT.full,D.ot,Lt.dfu xs]
theorem Lt.der:∀ xs:List Lt,OT.erss (xs.map fun b=>b.d.map D.ot)=xs.map Lt.d
 | []=>rfl
 | x :: xs=>by rw [zK,zK,Lt.d_eq]; simp [OT.erss,OT.ers,OT.er,D.ot,Lt.der xs]
theorem RF (l:List Lt) (hl:l.length≤1048576) (hf:∀ x∈l,x.fine):E 117 [.arr (l.map Lt.d)] []=some ((mkC l).sv,[]):=by
  have hsv:(mkC l).sv=.agg [.arr ((KJ [] l).map Lt.d)]:=by rw [Qbv]
  rw [hsv]
  refine Ad Tc CZ (of_decide_eq_true rfl) ?_
  simp (disch:=omega) only [Mi,go_sem,Aa]
  refine go_loop (α:=Int × List Lt) (fun a=>⟨slots 74 0 [(0,.arr (l.map Lt.d)),(2,.ptr 0 0),(3,.arr (a.2.map Lt.d)),(4,.int .i64 a.1)],[.box 28 [.nil]]⟩) (fun a=>∃ k:Nat,a.1=k∧k≤l.length∧KJ a.2 (l.drop k)=KJ [] l∧a.2.length≤k∧∀ y∈a.2,y.fine) (fun a=>l.length-a.1.toNat) (0,[]) ⟨0,rfl,zF _,by rw [zJ],zO _,fun y hy=>by cases hy⟩ (by simp (disch:=omega) only [go_sem,Aa]) ?_
  rintro ⟨i,out⟩ ⟨k,hi,hk,hR,hol,hof⟩
  dsimp only at hi hR hol hof
  have hni:i.toNat=k:=by omega
  rcases zB k l.length with hlt | hge
  · have hg := get_at Lt.d hlt
    rw [Lt.d_eq] at hg
    have hxf:=hf l[k] (zD hlt)
    have hxn:∀ out2:List Lt,HG out l[k]=out2→KJ out2 (l.drop (k+1))=KJ [] l:=fun out2 h=>by
      rw [zG hlt] at hR
      rw [←h]
      exact hR
    simp (disch:=omega) only [go_sem,Aa,hni,hg]
    refine go_loop (α:=Int) (fun a=>⟨slots 74 0 [(0,.arr (l.map Lt.d)),(2,.ptr 0 0),(3,.arr (out.map Lt.d)),(4,.int .i64 i),(5,.int .i64 a)],[.box 28 [.nil]]⟩) (fun a=>∃ m:Nat,a=m∧m≤out.length∧m+Dh (out.drop m) l[k]=Dh out l[k]) (fun a=>out.length-a.toNat) 0 ⟨0,rfl,zF _,by rw [zJ,Nat.zero_add]⟩ (by simp (disch:=omega) only [go_sem,Aa]) ?_
    rintro j ⟨m,hj,hm,hR2⟩
    have hnj:j.toNat=m:=by omega
    have ho:=Qn l[k].atom hxf.2
    have e1:=Lt.ot_take out (Dh out l[k])
    have e2:=Lt.ot_drop out (Dh out l[k])
    have e3:=Lt.al3 (out.take (Dh out l[k]))
    have e4:=Lt.al3 (out.drop (Dh out l[k]))
    have e5:=Lt.ald3 out
    have l1:=Qat l[k] out
    have e6:(out.map Lt.d).take out.length=out.map Lt.d:=yI (by simp)
    have e7:(out.take (Dh out l[k])).length=Dh out l[k]:=by rw [zQ]; omega
    have e8:(out.drop (Dh out l[k])).length=out.length-Dh out l[k]:=List.length_drop
    have hfu:=Lt.dfu (HG out l[k])
    have her:=Lt.der (HG out l[k])
    have hpl:=WY l[k] out
    have hpf:∀ y∈HG out l[k],y.fine:=fun y hy=>by
      rcases (NA l[k] y out).1 hy with rfl | hy
      · exact hxf
      · exact hof y hy
    rcases zB m out.length with hltm | hgem
    · have hgm:=get_at Lt.d hltm
      rw [Lt.d_eq] at hgm
      have hof2:=hof out[m] (zD hltm)
      have hc:=N5 out[m] l[k] hof2.1 hxf.1 hof2.2 hxf.2
      rcases Qbu hR2 hltm with ⟨q,hR'⟩ | ⟨q,hm'⟩
      · simp (disch:=omega) only [go_sem,Aa,hni,hg,hnj,hgm,hc,Bs,q]
        exact ⟨j+1,⟨m+1,by omega,hltm,hR'⟩,by omega,by first | trivial | rfl⟩
      · subst hm'
        by_cases h0:out[Dh out l[k]].cmp l[k]=0
        · have hp:=RD hltm h0
          rw [h0] at hc
          simp (disch:=omega) only [go_sem,Aa,hni,hg,hnj,hgm,hc,Bs,q,h0]
          exact ⟨(i+1,out),⟨k+1,by dsimp only; omega,hlt,hxn _ hp,by dsimp only; omega,hof⟩,by dsimp only; omega,by first | trivial | rfl⟩
        · have hp:=RE (fun _=>h0)
          have hx2:(out.take (Dh out l[k])).map (fun b=>b.d.map D.ot)++[[OT.bool l[k].pos,.str l[k].atom.name,.sh (l[k].atom.args.map Tm.d)]]++(out.drop (Dh out l[k])).map (fun b=>b.d.map D.ot)=(HG out l[k]).map fun b=>b.d.map D.ot:=by
            rw [hp]
            simp only [yF,zK,y3,yB,zU]
            rw [Lt.d_eq]; rfl
          simp (disch:=omega) only [go_sem,Aa,hni,hg,hnj,hgm,hc,Bs,q,h0,e1,e2,e3,e4,e5,e6,e7,e8,hx2,hfu,her,ho,zV,yD,CT]
          exact ⟨(i+1,HG out l[k]),⟨k+1,by dsimp only; omega,hlt,hxn _ rfl,by dsimp only; omega,hpf⟩,by dsimp only; omega,by first | trivial | rfl⟩
    · obtain rfl:m=out.length:=by omega
      have hk':out.length=Dh out l[k]:=by rw [←hR2,zI (zO _)]; simp [Dh]
      have hp:=RE (x:=l[k]) (xs:=out) (fun hlt=>by omega)
      have hx2:(out.take (Dh out l[k])).map (fun b=>b.d.map D.ot)++[[OT.bool l[k].pos,.str l[k].atom.name,.sh (l[k].atom.args.map Tm.d)]]++(out.drop (Dh out l[k])).map (fun b=>b.d.map D.ot)=(HG out l[k]).map fun b=>b.d.map D.ot:=by
        rw [hp]
        simp only [yF,zK,y3,yB,zU]
        rw [Lt.d_eq]; rfl
      rw [hk'] at hnj
      simp (disch:=omega) only [go_sem,Aa,hni,hg,hnj,e1,e2,e3,e4,e5,e6,e7,e8,hx2,hfu,her,ho,zV,yD,CT]
      exact ⟨(i+1,HG out l[k]),⟨k+1,by dsimp only; omega,hlt,hxn _ rfl,by dsimp only; omega,hpf⟩,by dsimp only; omega,by first | trivial | rfl⟩
  · rw [zI hge] at hR
    have hR:out=KJ [] l:=hR
    rw [←hR]
    simp (disch:=omega) only [go_sem,Aa,hni]
theorem RG:∀ x y:List UInt8,Op.bytesLess x y=true→Op.bytesLess y x=false
  | [],[],h=>by simp [Op.bytesLess] at h
  | [],_ :: _,_=>rfl
  | _ :: _,[],h=>by simp [Op.bytesLess] at h
  | a :: x,b :: y,h=>by
    simp only [Op.bytesLess,Bool.or_eq_true,decide_eq_true_eq,zA,beq_iff_eq] at h
    simp only [Op.bytesLess,Bool.or_eq_false_iff,decide_eq_false_iff_not]
    rcases h with h | ⟨rfl,h⟩
    · have h2:¬ b<a:=by intro h3; exact absurd (UInt8.lt_trans h h3) (UInt8.lt_irrefl _)
      have h3:(b == a)=false:=by
        rw [beq_eq_false_iff_ne]; rintro rfl; exact UInt8.lt_irrefl _ h
      exact ⟨h2,by rw [h3]; rfl⟩
    · exact ⟨UInt8.lt_irrefl _,by rw [RG x y h]; simp⟩
theorem RH:∀ x y:List UInt8,Op.bytesLess x y=false→Op.bytesLess y x=false→x=y
  | [],[],_,_=>rfl
  | [],_ :: _,h,_=>by simp [Op.bytesLess] at h
  | _ :: _,[],_,h=>by simp [Op.bytesLess] at h
  | a :: x,b :: y,h,k=>by
    simp only [Op.bytesLess,Bool.or_eq_false_iff,decide_eq_false_iff_not] at h k
    have hab:a=b:=by
      have h1:=h.1; have h2:=k.1
      rw [UInt8.lt_iff_toNat_lt] at h1 h2
      exact UInt8.toNat_inj.1 (by omega)
    subst hab
    have h1:Op.bytesLess x y=false:=by simpa using h.2
    have h2:Op.bytesLess y x=false:=by simpa using k.2
    rw [RH x y h1 h2]
theorem KL {a b:ByteArray} (h:strLt a b=true):strLt b a=false:=RG _ _ h
theorem KM {a b:ByteArray} (h:strLt a b=false) (h':strLt b a=false):a=b:=Ox (RH _ _ h h')
theorem IT (a b:ByteArray):(strLt a b || dec (a=b))=!strLt b a:=by
 cases h:strLt b a with
 | false =>
  cases h2:strLt a b with
  | false=>rw [Ay (KM h2 h)]; rfl
  | true=>rfl
 | true =>
  rw [KL h,A8 (by rintro rfl; rw [Hv] at h; cases h)]
  rfl
theorem RI:∀ x y z:List UInt8,Op.bytesLess x y=true→Op.bytesLess y z=true→Op.bytesLess x z=true
  | _,_,[],_,h=>by simp [Op.bytesLess] at h
  | [],[],_ :: _,h,_=>by simp [Op.bytesLess] at h
  | [],_ :: _,_ :: _,_,_=>rfl
  | _ :: _,[],_ :: _,h,_=>by simp [Op.bytesLess] at h
  | a :: x,b :: y,c :: z,h,k=>by
    simp only [Op.bytesLess,Bool.or_eq_true,decide_eq_true_eq,zA,beq_iff_eq] at h k ⊢
    rcases h with h | ⟨rfl,h⟩
    · rcases k with k | ⟨rfl,k⟩
      · exact .inl (UInt8.lt_trans h k)
      · exact .inl h
    · rcases k with k | ⟨rfl,k⟩
      · exact .inl k
      · exact .inr ⟨rfl,RI x y z h k⟩
theorem KN {a b c:ByteArray} (h:strLt a b=true) (k:strLt b c=true):strLt a c=true:=RI _ _ _ h k
theorem WZ {a b:ByteArray} (h:strLt a b=true):¬ a=b:=by rintro rfl; rw [Hv] at h; cases h
theorem Xa (a b:ByteArray):dec (Ev a b<0)=strLt a b:=by
 unfold Ev
 cases strLt a b
 ·cases dec (a=b)
  ·exact A8 (by simp)
  ·exact A8 (by simp)
 ·exact Ay (by simp)
theorem Qbw (a b:ByteArray):dec (Ev a b=0)=dec (a=b):=by
 unfold Ev
 cases h:strLt a b
 ·cases h2:dec (a=b)
  ·exact A8 (by simp)
  ·exact Ay (by simp)
 ·rw [A8 (WZ h)]
  exact A8 (by simp)
theorem wrap_u64 {n:Int} (h0:0≤n) (h1:n≤18446744073709551615):IntKind.u64.wrap n=n:=Wb (by
 have e1:IntKind.u64.min=0:=by decide
 have e2:IntKind.u64.max=18446744073709551615:=by decide
 unfold inK
 rw [e1,e2]
 exact ⟨h0,h1⟩)
noncomputable def HH (x:Bd):Bool:=Ao x.var&&(x.term.valid&&!dec (x.term.name=x.var))
noncomputable def Xb (xs:List Bd) (k:Nat):Bool:=match xs[k]? with
 | none=>true
 | some x=>HH x&&(match k with
  | 0=>true
  | j+1=>match xs[j]? with
   | none=>true
   | some y=>strLt y.var x.var)
noncomputable def IU (xs:List Bd):Nat→Bool
 | 0=>true
 | k+1=>IU xs k&&Xb xs k
theorem Qbx {xs:List Bd} {k n:Nat} (h:IU xs k=false) (hn:k≤n):IU xs n=false:=by
  induction n with
  | zero =>
            obtain rfl:k=0:=by omega
            exact h
  | succ n ih =>
    rcases zB n k with h1 | h1
    · obtain rfl:k=n+1:=by omega
      exact h
    · rw [IU,ih h1]; rfl
theorem IV {xs:List Bd} (h:0<xs.length):Xb xs 0=HH xs[0]:=by
 unfold Xb
 rw [zT h]
 simp
theorem GW {xs:List Bd} {j:Nat} (h:j+1<xs.length):Xb xs (j+1)=(HH xs[j+1]&&strLt xs[j].var xs[j+1].var):=by
 unfold Xb
 rw [zT h]
 simp only [zT (show j<xs.length by omega)]
theorem Qau {xs:List Bd} {k j:Nat} (h:IU xs k=true) (hj:j<k):Xb xs j=true:=by
 induction k with
 | zero=>omega
 | succ k ih =>
  rw [IU,zA] at h
  rcases zB j k with h1 | h1
  ·exact ih h.1 h1
  ·obtain rfl:j=k:=by omega
   exact h.2
theorem Qeb {xs:List Bd} {j:Nat} (hl:j<xs.length) (h:Xb xs j=true):HH xs[j]=true:=by
 cases j with
 | zero=>rw [←IV hl]; exact h
 | succ j=>rw [GW hl,zA] at h; exact h.1
noncomputable def Sb.ok (x:Sb):Bool:=decide (x.binds.length≤12)&&IU x.binds x.binds.length
theorem Sb.not_ok {x:Sb} {k:Nat} (h:IU x.binds k=true) (h':Xb x.binds k=false) (hk:k<x.binds.length):x.ok=false:=by
 have:IU x.binds x.binds.length=false:=Qbx (k:=k+1) (by rw [IU,h,h']; rfl) (by omega)
 unfold Sb.ok
 rw [this,zM]
def Sb.tame (x:Sb):Prop:=x.binds.length≤1099511627776∧∀ y∈x.binds,y.term.nodes≤1099511627776
theorem Sb.tame_at {x:Sb} (h:x.tame) {k:Nat} (hk:k<x.binds.length):x.binds[k].term.nodes≤1099511627776:=h.2 _ (zD hk)
def El:SC:=(.seq (.reg [⟨some 1,none,.boxv 76 1 (.t 0)⟩,⟨some 2,none,.mv (.c (.bool false))⟩]) (.seq (.seq (.reg [⟨some 5,none,.faddr 0 (.t 1)⟩,⟨some 6,none,.load false 1 (.t 5)⟩,⟨some 7,none,.len false (.t 6)⟩,⟨some 8,none,.mv (.c (.int .i64 0))⟩]) (.block 0 (.loop [0,1,0,0,0,0,1,1,1,0,0,0,0,0,0,0,0,0,0,0,0,0,0,0,0,0,0,0,0,0,0,0,0,0,0,0,0,0,0,0,0,0,0,0,0,0,0,0,0,0,0,0] (.seq (.reg [⟨some 9,none,.bin .lss false (.t 8) (.t 7)⟩]) (.seq (.cond (.t 9) .skip (.exit 0)) (.seq (.block 1 (.seq (.reg [⟨some 10,none,.mv (.t 8)⟩,⟨some 11,none,.iaddr 3 (.t 6) (.t 8)⟩,⟨some 12,none,.load true 3 (.t 11)⟩,⟨(some 4),none,(.alloc 139 [(.str ⟨#[]⟩),(.str ⟨#[]⟩),.nil])⟩,⟨some 3,none,.mv (.t 10)⟩,⟨none,none,(.store 3 (.t 4) (.t 12))⟩]) (.seq (.dreg [[],[0],[1,0],[2,1,0],[3,2,1,0],[4,3,2,1,0],[5,4,3,2,1,0],[6,5,4,3,2,1,0],[7,6,5,4,3,2,1,0],[8,7,6,5,4,3,2,1,0],[7,6,5,4,3,2,1,0],[10,7,6,5,4,3,2,1,0],[7,6,5,4,3,2,1,0],[12,7,6,5,4,3,2,1,0],[11,10,7,6,5,4,3,2,1,0,13,12],[14,11,10,7,6,5,4,3,2,1,0,13,12],[15,14,11,10,7,6,5,4,3,2,1,0,13,12],[9,8,7,6,5,4,3,2,1,0,16,15,14,11,10,13,12],[7,6,5,4,3,2,1,0,17,9,8,16,15,14,11,10,13,12],[4,3,2,1,0,18,7,6,5,17,9,8,16,15,14,11,10,13,12],[19,4,3,2,1,0,18,7,6,5,17,9,8,16,15,14,11,10,13,12],[20,19,4,3,2,1,0,18,7,6,5,17,9,8,16,15,14,11,10,13,12],[21,20,19,4,3,2,1,0,18,7,6,5,17,9,8,16,15,14,11,10,13,12],[22,21,20,19,4,3,2,1,0,18,7,6,5,17,9,8,16,15,14,11,10,13,12],[23,22,21,20,19,4,3,2,1,0,18,7,6,5,17,9,8,16,15,14,11,10,13,12],[20,19,4,3,2,1,0,18,7,6,5,17,9,8,16,15,14,11,10,13,12,24,23,22,21],[25,20,19,4,3,2,1,0,18,7,6,5,17,9,8,16,15,14,11,10,13,12,24,23,22,21],[26,25,20,19,4,3,2,1,0,18,7,6,5,17,9,8,16,15,14,11,10,13,12,24,23,22,21],[27,26,25,20,19,4,3,2,1,0,18,7,6,5,17,9,8,16,15,14,11,10,13,12,24,23,22,21],[28,27,26,25,20,19,4,3,2,1,0,18,7,6,5,17,9,8,16,15,14,11,10,13,12,24,23,22,21],[26,25,20,19,4,3,2,1,0,18,7,6,5,17,9,8,16,15,14,11,10,13,12,24,23,22,21],[30,26,25,20,19,4,3,2,1,0,18,7,6,5,17,9,8,16,15,14,11,10,13,12,24,23,22,21],[29,28,27,26,25,20,19,4,3,2,1,0,18,7,6,5,17,9,8,16,15,14,11,10,13,12,24,23,22,21,31,30],[26,25,20,19,4,3,2,1,0,18,7,6,5,17,9,8,16,15,14,11,10,13,12,24,23,22,21,32,29,28,27,31,30]] [⟨some 13,none,.faddr 0 (.t 4)⟩,⟨some 14,none,.load false 1 (.t 13)⟩,⟨some 15,none,.call 162 [(.t 14)]⟩,⟨some 16,none,.un .not (.t 15)⟩,⟨some 17,none,.mv (.t 16)⟩,⟨(some 18),(some (17,false)),(.mv (.t 3))⟩,⟨(some 19),(some (17,false)),(.bin .gtr false (.t 18) (.c (.int .i64 0)))⟩,⟨(some 20),(some (17,false)),(.mv (.t 19))⟩,⟨(some 21),(some (20,true)),(.faddr 0 (.t 4))⟩,⟨(some 22),(some (20,true)),(.load false 1 (.t 21))⟩,⟨(some 23),(some (20,true)),(.faddr 0 (.t 1))⟩,⟨(some 24),(some (20,true)),(.load false 1 (.t 23))⟩,⟨(some 25),(some (20,true)),(.mv (.t 3))⟩,⟨(some 26),(some (20,true)),(.bin .sub false (.t 25) (.c (.int .i64 1)))⟩,⟨(some 27),(some (20,true)),(.iaddr 3 (.t 24) (.t 26))⟩,⟨(some 28),(some (20,true)),(.faddr 0 (.t 27))⟩,⟨(some 29),(some (20,true)),(.load false 1 (.t 28))⟩,⟨(some 30),(some (20,true)),(.bin .leq false (.t 22) (.t 29))⟩,⟨(some 31),(some (17,false)),(.pick (.t 20) (.t 30) (.c (.bool false)))⟩,⟨some 32,none,.pick (.t 17) (.c (.bool true)) (.t 31)⟩,⟨some 33,none,.mv (.t 32)⟩,⟨(some 34),(some (33,false)),(.faddr 1 (.t 4))⟩,⟨(some 35),(some (33,false)),(.load true 2 (.t 34))⟩,⟨(some 36),(some (33,false)),(.call 154 [(.t 35)])⟩,⟨(some 37),(some (33,false)),(.un .not (.t 36))⟩,⟨some 38,none,.pick (.t 33) (.c (.bool true)) (.t 37)⟩,⟨some 39,none,.mv (.t 38)⟩,⟨(some 40),(some (39,false)),(.faddr 1 (.t 4))⟩,⟨(some 41),(some (39,false)),(.faddr 0 (.t 40))⟩,⟨(some 42),(some (39,false)),(.load false 1 (.t 41))⟩,⟨(some 43),(some (39,false)),(.faddr 0 (.t 4))⟩,⟨(some 44),(some (39,false)),(.load false 1 (.t 43))⟩,⟨(some 45),(some (39,false)),(.bin .eql false (.t 42) (.t 44))⟩,⟨some 46,none,.pick (.t 39) (.c (.bool true)) (.t 45)⟩]) (.cond (.t 46) (.seq (.reg [⟨some 2,none,.mv (.c (.bool false))⟩]) .ret) .skip)))) (.reg [⟨some 47,none,.bin .add false (.t 8) (.c (.int .i64 1))⟩,⟨some 8,none,.mv (.t 47)⟩]))))))) (.seq (.reg [⟨some 48,none,.faddr 0 (.t 1)⟩,⟨some 49,none,.load false 1 (.t 48)⟩,⟨some 50,none,.len false (.t 49)⟩,⟨some 51,none,.bin .leq false (.t 50) (.c (.int .i64 12))⟩,⟨some 2,none,.mv (.t 51)⟩]) .ret)))
theorem Hz:codeOf Tryz.prog 131=some ⟨52,El,[(.tmp 2)]⟩:=by kernel_rfl
theorem Ax:modes 131=⟨[],.asis,none,false⟩:=by unfold modes; rfl
def Mk:SC:=(.seq (.reg [⟨some 1,none,.boxv 76 1 (.t 0)⟩,⟨some 2,none,.mv (.c (.bool false))⟩]) (.seq (.seq (.reg [⟨some 3,none,.mv (.c (.int .i64 0))⟩]) (.block 0 (.loop [0,1,0,1,0,0,0,0,0,0,0,0,0,0,0,0,0,0,0,0,0,0,0,0,0,0,0,0,0,0,0,0,0,0,0,0,0,0,0,0,0,0,0,0,0,0,0,0,0,0,0,0,0,0,0] (.seq (.seq (.reg [⟨some 5,none,.mv (.t 3)⟩,⟨some 6,none,.faddr 0 (.t 1)⟩,⟨some 7,none,.load false 1 (.t 6)⟩,⟨some 8,none,.len false (.t 7)⟩,⟨some 9,none,.bin .lss false (.t 5) (.t 8)⟩]) (.cond (.t 9) .skip (.exit 0))) (.seq (.block 1 (.seq (.reg [⟨some 12,none,.faddr 0 (.t 1)⟩,⟨some 13,none,.load false 1 (.t 12)⟩,⟨some 14,none,.mv (.t 3)⟩,⟨some 15,none,.iaddr 3 (.t 13) (.t 14)⟩,⟨some 16,none,.load true 3 (.t 15)⟩,⟨(some 4),none,(.alloc 139 [(.str ⟨#[]⟩),(.str ⟨#[]⟩),.nil])⟩,⟨none,none,(.store 3 (.t 4) (.t 16))⟩]) (.seq (.dreg [[],[0],[1,0],[2,1,0],[3,2,1,0],[4,3,2,1,0],[5,4,3,2,1,0],[6,5,4,3,2,1,0],[7,6,5,4,3,2,1,0],[4,3,2,1,0,8,7,6,5],[9,4,3,2,1,0,8,7,6,5],[10,9,4,3,2,1,0,8,7,6,5],[11,10,9,4,3,2,1,0,8,7,6,5],[12,11,10,9,4,3,2,1,0,8,7,6,5],[10,9,4,3,2,1,0,8,7,6,5],[14,10,9,4,3,2,1,0,8,7,6,5],[13,12,11,10,9,4,3,2,1,0,8,7,6,5,15,14],[10,9,4,3,2,1,0,8,7,6,5,16,13,12,11,15,14],[17,10,9,4,3,2,1,0,8,7,6,5,16,13,12,11,15,14],[18,17,10,9,4,3,2,1,0,8,7,6,5,16,13,12,11,15,14],[19,18,17,10,9,4,3,2,1,0,8,7,6,5,16,13,12,11,15,14],[20,19,18,17,10,9,4,3,2,1,0,8,7,6,5,16,13,12,11,15,14],[21,20,19,18,17,10,9,4,3,2,1,0,8,7,6,5,16,13,12,11,15,14],[22,21,20,19,18,17,10,9,4,3,2,1,0,8,7,6,5,16,13,12,11,15,14],[21,20,19,18,17,10,9,4,3,2,1,0,8,7,6,5,16,13,12,11,15,14],[24,21,20,19,18,17,10,9,4,3,2,1,0,8,7,6,5,16,13,12,11,15,14],[23,22,21,20,19,18,17,10,9,4,3,2,1,0,8,7,6,5,16,13,12,11,15,14,25,24],[26,23,22,21,20,19,18,17,10,9,4,3,2,1,0,8,7,6,5,16,13,12,11,15,14,25,24],[27,26,23,22,21,20,19,18,17,10,9,4,3,2,1,0,8,7,6,5,16,13,12,11,15,14,25,24],[21,20,19,18,17,10,9,4,3,2,1,0,8,7,6,5,16,13,12,11,15,14],[29,21,20,19,18,17,10,9,4,3,2,1,0,8,7,6,5,16,13,12,11,15,14],[28,27,26,23,22,21,20,19,18,17,10,9,4,3,2,1,0,8,7,6,5,16,13,12,11,15,14,25,24,30,29],[21,20,19,18,17,10,9,4,3,2,1,0,8,7,6,5,16,13,12,11,15,14,31,28,27,26,23,22,25,24,30,29],[18,17,10,9,4,3,2,1,0,8,7,6,5,16,13,12,11,15,14,32,21,20,19,31,28,27,26,23,22,25,24,30,29]] [⟨some 17,none,.faddr 0 (.t 4)⟩,⟨some 18,none,.load false 1 (.t 17)⟩,⟨some 19,none,.call 77 [(.t 18)]⟩,⟨some 20,none,.un .not (.t 19)⟩,⟨some 21,none,.mv (.t 20)⟩,⟨(some 22),(some (21,false)),(.faddr 1 (.t 4))⟩,⟨(some 23),(some (21,false)),(.load true 2 (.t 22))⟩,⟨(some 24),(some (21,false)),(.call 106 [(.t 23)])⟩,⟨(some 25),(some (21,false)),(.un .not (.t 24))⟩,⟨some 26,none,.pick (.t 21) (.c (.bool true)) (.t 25)⟩,⟨some 27,none,.mv (.t 26)⟩,⟨(some 28),(some (27,false)),(.faddr 1 (.t 4))⟩,⟨(some 29),(some (27,false)),(.faddr 0 (.t 28))⟩,⟨(some 30),(some (27,false)),(.load false 1 (.t 29))⟩,⟨(some 31),(some (27,false)),(.faddr 0 (.t 4))⟩,⟨(some 32),(some (27,false)),(.load false 1 (.t 31))⟩,⟨(some 33),(some (27,false)),(.bin .eql false (.t 30) (.t 32))⟩,⟨some 34,none,.pick (.t 27) (.c (.bool true)) (.t 33)⟩,⟨some 35,none,.mv (.t 34)⟩,⟨(some 36),(some (35,false)),(.mv (.t 3))⟩,⟨(some 37),(some (35,false)),(.bin .gtr false (.t 36) (.c (.int .i64 0)))⟩,⟨(some 38),(some (35,false)),(.mv (.t 37))⟩,⟨(some 39),(some (38,true)),(.faddr 0 (.t 1))⟩,⟨(some 40),(some (38,true)),(.load false 1 (.t 39))⟩,⟨(some 41),(some (38,true)),(.mv (.t 3))⟩,⟨(some 42),(some (38,true)),(.bin .sub false (.t 41) (.c (.int .i64 1)))⟩,⟨(some 43),(some (38,true)),(.iaddr 3 (.t 40) (.t 42))⟩,⟨(some 44),(some (38,true)),(.faddr 0 (.t 43))⟩,⟨(some 45),(some (38,true)),(.load false 1 (.t 44))⟩,⟨(some 46),(some (38,true)),(.faddr 0 (.t 4))⟩,⟨(some 47),(some (38,true)),(.load false 1 (.t 46))⟩,⟨(some 48),(some (38,true)),(.bin .geq false (.t 45) (.t 47))⟩,⟨(some 49),(some (35,false)),(.pick (.t 38) (.t 48) (.c (.bool false)))⟩,⟨some 50,none,.pick (.t 35) (.c (.bool true)) (.t 49)⟩]) (.cond (.t 50) (.seq (.reg [⟨some 2,none,.mv (.c (.bool false))⟩]) .ret) .skip)))) (.reg [⟨some 10,none,.mv (.t 3)⟩,⟨some 11,none,.bin .add false (.t 10) (.c (.int .i64 1))⟩,⟨some 3,none,.mv (.t 11)⟩])))))) (.seq (.reg [⟨some 51,none,.faddr 0 (.t 1)⟩,⟨some 52,none,.load false 1 (.t 51)⟩,⟨some 53,none,.len false (.t 52)⟩,⟨some 54,none,.bin .leq false (.t 53) (.c (.int .i64 12))⟩,⟨some 2,none,.mv (.t 54)⟩]) .ret)))
theorem Te:codeOf Tryz.prog 109=some ⟨55,Mk,[(.tmp 2)]⟩:=by kernel_rfl
theorem Cj:modes 109=⟨[],.asis,none,false⟩:=by unfold modes; rfl
def Ml:SC:=(.seq (.reg [⟨some 2,none,.boxv 76 1 (.t 0)⟩,⟨some 4,none,.mv (.c (.int .i64 0))⟩]) (.seq (.seq (.reg [⟨some 5,none,.mv (.c (.int .i64 0))⟩]) (.block 0 (.loop [0,1,1,0,0,1,0,0,0,0,0,0,0,0,0,0,0,0,0,0,0,0] (.seq (.seq (.reg [⟨some 6,none,.mv (.t 5)⟩,⟨some 7,none,.faddr 0 (.t 2)⟩,⟨some 8,none,.load false 1 (.t 7)⟩,⟨some 9,none,.len false (.t 8)⟩,⟨some 10,none,.bin .lss false (.t 6) (.t 9)⟩]) (.cond (.t 10) .skip (.exit 0))) (.seq (.block 1 (.seq (.reg [⟨some 13,none,.faddr 0 (.t 2)⟩,⟨some 14,none,.load false 1 (.t 13)⟩,⟨some 15,none,.mv (.t 5)⟩,⟨some 16,none,.iaddr 3 (.t 14) (.t 15)⟩,⟨some 17,none,.faddr 0 (.t 16)⟩,⟨some 18,none,.load false 1 (.t 17)⟩,⟨some 19,none,.mv (.t 1)⟩,⟨some 20,none,.bin .eql false (.t 18) (.t 19)⟩]) (.cond (.t 20) (.seq (.reg [⟨some 21,none,.mv (.t 5)⟩,⟨some 4,none,.mv (.t 21)⟩]) .ret) .skip))) (.reg [⟨some 11,none,.mv (.t 5)⟩,⟨some 12,none,.bin .add false (.t 11) (.c (.int .i64 1))⟩,⟨some 5,none,.mv (.t 12)⟩])))))) (.seq (.reg [⟨some 4,none,.mv (.c (.int .i64 (-(0+1))))⟩]) .ret)))
theorem Tf:codeOf Tryz.prog 147=some ⟨22,Ml,[(.tmp 4)]⟩:=by kernel_rfl
theorem BM:modes 147=⟨[],.asis,none,false⟩:=by unfold modes; rfl
theorem DR (x:Sb) (hn:x.tame):E 131 [x.sv] []=some (.bool x.ok,[]):=by
  have hl:=hn.1
  refine Ad Hz Ax (of_decide_eq_true rfl) ?_
  simp (disch:=omega) only [El,go_sem,Aa]
  refine go_loop (α:=Int) (fun a=>⟨slots 52 0 [(1,.ptr 0 0),(6,.arr (x.binds.map Bd.d)),(7,.int .i64 x.binds.length),(8,.int .i64 a)],[.box 76 [.arr (x.binds.map Bd.d)]]⟩) (fun a=>∃ k:Nat,a=k∧k≤(x.binds).length∧IU x.binds k=true) (fun a=>(x.binds).length-(a).toNat) 0 ⟨0,rfl,zF _,by rw [IU]⟩ (by simp (disch:=omega) only [go_sem,Aa]) ?_
  rintro i ⟨k,hi,hk,hR⟩
  have hni:i.toNat=k:=by omega
  have hni1:(i+1).toNat=k+1:=by omega
  rcases zB k (x.binds).length with hlt | hge
  · have hg:=get_at Bd.d hlt
    rw [Bd.d_eq] at hg
    have hv:=Mg x.binds[k].term (Sb.tame_at hn hlt)
    cases k with
    | zero =>
      obtain rfl:i=0:=hi
      cases hA:Ao x.binds[0].var <;> cases hV:x.binds[0].term.valid <;> cases hD:dec (x.binds[0].term.name=x.binds[0].var)
      all_goals
        first
        | (have e:x.ok=false:=Sb.not_ok hR (by rw [IV hlt,HH,hA,hV,hD]; rfl) hlt
           rw [e]
           simp (disch:=omega) only [go_sem,Aa,hni,hg,hv,hA,hV,hD,AJ,Bp,Ew]
           done)
        | (simp (disch:=omega) only [go_sem,Aa,hni,hg,hv,hA,hV,hD,AJ,Bp,Ew]
           exact ⟨1,⟨1,rfl,hlt,by rw [IU,hR,IV hlt,HH,hA,hV,hD]; rfl⟩,by omega,by first | trivial | rfl⟩)
    | succ j =>
      have hj:j<x.binds.length:=by omega
      have hg2:=get_at Bd.d hj
      rw [Bd.d_eq] at hg2
      have hni2:(i-1).toNat=j:=by omega
      have hLe:=IT x.binds[j+1].var x.binds[j].var
      cases hS:strLt x.binds[j].var x.binds[j+1].var <;> cases hA:Ao x.binds[j+1].var <;> cases hV:x.binds[j+1].term.valid <;> cases hD:dec (x.binds[j+1].term.name=x.binds[j+1].var)
      all_goals
        first
        | (have e:x.ok=false:=Sb.not_ok hR (by rw [GW hlt,HH,hA,hV,hD,hS]; rfl) hlt
           rw [e]
           simp (disch:=omega) only [go_sem,Aa,hni,hg,hv,hA,hV,hD,AJ,Bp,Ew,hS,hni2,hg2,hLe]
           done)
        | (simp (disch:=omega) only [go_sem,Aa,hni,hg,hv,hA,hV,hD,AJ,Bp,Ew,hS,hni2,hg2,hLe]
           exact ⟨i+1,⟨j+1+1,by omega,hlt,by rw [IU,hR,GW hlt,HH,hA,hV,hD,hS]; rfl⟩,by omega,by first | trivial | rfl⟩)
  · obtain rfl:k=x.binds.length:=by omega
    simp (disch:=omega) only [go_sem,Aa,hni]
    unfold Sb.ok
    rw [hR,yK,Kx]
    exact decide_eq_decide.2 (by omega)
theorem NC (x:Sb) (hn:x.tame):E 109 [x.sv] []=some (.bool x.ok,[]):=by
  have hl:=hn.1
  refine Ad Te Cj (of_decide_eq_true rfl) ?_
  simp (disch:=omega) only [Mk,go_sem,Aa]
  refine go_loop (α:=Int) (fun a=>⟨slots 55 0 [(1,.ptr 0 0),(3,.int .i64 a)],[.box 76 [.arr (x.binds.map Bd.d)]]⟩) (fun a=>∃ k:Nat,a=k∧k≤(x.binds).length∧IU x.binds k=true) (fun a=>(x.binds).length-(a).toNat) 0 ⟨0,rfl,zF _,by rw [IU]⟩ (by simp (disch:=omega) only [go_sem,Aa]) ?_
  rintro i ⟨k,hi,hk,hR⟩
  have hni:i.toNat=k:=by omega
  have hni1:(i+1).toNat=k+1:=by omega
  rcases zB k (x.binds).length with hlt | hge
  · have hg:=get_at Bd.d hlt
    rw [Bd.d_eq] at hg
    have hv:=R6 x.binds[k].term (Sb.tame_at hn hlt)
    cases k with
    | zero =>
      obtain rfl:i=0:=hi
      cases hA:Ao x.binds[0].var <;> cases hV:x.binds[0].term.valid <;> cases hD:dec (x.binds[0].term.name=x.binds[0].var)
      all_goals
        first
        | (have e:x.ok=false:=Sb.not_ok hR (by rw [IV hlt,HH,hA,hV,hD]; rfl) hlt
           rw [e]
           simp (disch:=omega) only [go_sem,Aa,hni,hg,hv,hA,hV,hD,Bh,Ah,Am]
           done)
        | (simp (disch:=omega) only [go_sem,Aa,hni,hg,hv,hA,hV,hD,Bh,Ah,Am]
           exact ⟨1,⟨1,rfl,hlt,by rw [IU,hR,IV hlt,HH,hA,hV,hD]; rfl⟩,by omega,by first | trivial | rfl⟩)
    | succ j =>
      have hj:j<x.binds.length:=by omega
      have hg2:=get_at Bd.d hj
      rw [Bd.d_eq] at hg2
      have hni2:(i-1).toNat=j:=by omega
      have hLe:=IT x.binds[j+1].var x.binds[j].var
      cases hS:strLt x.binds[j].var x.binds[j+1].var <;> cases hA:Ao x.binds[j+1].var <;> cases hV:x.binds[j+1].term.valid <;> cases hD:dec (x.binds[j+1].term.name=x.binds[j+1].var)
      all_goals
        first
        | (have e:x.ok=false:=Sb.not_ok hR (by rw [GW hlt,HH,hA,hV,hD,hS]; rfl) hlt
           rw [e]
           simp (disch:=omega) only [go_sem,Aa,hni,hg,hv,hA,hV,hD,Bh,Ah,Am,hS,hni2,hg2,hLe]
           done)
        | (simp (disch:=omega) only [go_sem,Aa,hni,hg,hv,hA,hV,hD,Bh,Ah,Am,hS,hni2,hg2,hLe]
           exact ⟨i+1,⟨j+1+1,by omega,hlt,by rw [IU,hR,GW hlt,HH,hA,hV,hD,hS]; rfl⟩,by omega,by first | trivial | rfl⟩)
  · obtain rfl:k=x.binds.length:=by omega
    simp (disch:=omega) only [go_sem,Aa,hni]
    unfold Sb.ok
    rw [hR,yK,Kx]
    exact decide_eq_decide.2 (by omega)
theorem Xc (x:Sb) (n:ByteArray) (hl:x.binds.length≤1099511627776):E 147 [x.sv,.str n] []=some (.int .i64 (F3 (fun b=>dec (b.var=n)) x.binds 0),[]):=by
 refine Ad Tf BM (of_decide_eq_true rfl) ?_
 simp (disch:=omega) only [Ml,go_sem,Aa]
 refine go_loop (α:=Int) (fun a=>⟨slots 22 0 [(1,.str n),(2,.ptr 0 0),(5,.int .i64 a)],[.box 76 [.arr (x.binds.map Bd.d)]]⟩) (fun a=>∃ k:Nat,a=k∧k≤(x.binds).length∧F3 (fun b=>dec (b.var=n)) (x.binds.drop k) a=F3 (fun b=>dec (b.var=n)) x.binds 0) (fun a=>(x.binds).length-(a).toNat) 0 ⟨0,rfl,zF _,by rw [zJ]⟩ (by simp (disch:=omega) only [go_sem,Aa]) ?_
 rintro i ⟨k,hi,hk,hR⟩
 have hni:i.toNat=k:=by omega
 have hni1:(i+1).toNat=k+1:=by omega
 rcases zB k (x.binds).length with hlt | hge
 ·have hg:=get_at Bd.d hlt
  rw [Bd.d_eq] at hg
  rw [zG hlt,F3] at hR
  cases hp:dec (x.binds[k].var=n) with
  | true =>
   rw [hp] at hR
   simp (disch:=omega) only [go_sem,Aa,hni,hg,hp]
   simpa using hR
  | false =>
   rw [hp] at hR
   simp (disch:=omega) only [go_sem,Aa,hni,hg,hp]
   exact ⟨i+1,⟨k+1,by omega,hlt,by simpa using hR⟩,by omega,by first | trivial | rfl⟩
 ·rw [zI hge,F3] at hR
  simp (disch:=omega) only [go_sem,Aa,hni]
  exact hR
def ND (xs:List Bd):Prop:=∀ j k (h:j<k) (hk:k<xs.length),strLt xs[j].var xs[k].var=true
theorem Qec {xs:List Bd} (h:IU xs xs.length=true):ND xs:=by
 intro j k hjk hk
 induction k with
 | zero=>omega
 | succ k ih =>
  have h1:=Qau h hk
  rw [GW hk,zA] at h1
  rcases zB j k with h2 | h2
  ·exact KN (ih h2 (by omega)) h1.2
  ·obtain rfl:j=k:=by omega
   exact h1.2
theorem Sb.JV {x:Sb} (h:x.ok=true):ND x.binds:=by
 unfold Sb.ok at h
 rw [zA] at h
 exact Qec h.2
def Bo:List Bd→ByteArray→Nat
 | [],_=>0
 | x :: xs,n=>if strLt x.var n then Bo xs n+1 else 0
theorem Vo (n:ByteArray):∀ xs:List Bd,Bo xs n≤xs.length
 | []=>zO _
 | x :: xs=>by
  have:=Vo n xs
  rw [Bo]; simp only [zP]; split <;> omega
theorem KO (n:ByteArray):∀ (xs:List Bd) (j:Nat) (h:j<xs.length),j<Bo xs n→strLt xs[j].var n=true
  | [],j,h,_=>absurd h (by simp)
  | x :: xs,j,h,hj=>by
    rw [Bo] at hj
    split at hj
    · rename_i hx
      cases j with
      | zero=>exact hx
      | succ j=>exact KO n xs j (by simpa using h) (by omega)
    · omega
theorem Vp (n:ByteArray):∀ (xs:List Bd) (h:Bo xs n<xs.length),strLt (xs[Bo xs n]).var n=false
  | [],h=>absurd h (by simp)
  | x :: xs,h=>by
    cases hx:strLt x.var n with
    | false =>
      have e:Bo (x :: xs) n=0:=by rw [Bo,if_neg (by rw [hx]; simp)]
      simp only [e,yS]; exact hx
    | true =>
      have e:Bo (x :: xs) n=Bo xs n+1:=by rw [Bo,if_pos hx]
      have h2:Bo xs n<xs.length:=by rw [e] at h; simpa using h
      simp only [e,yR]; exact Vp n xs h2
theorem QcH {xs:List Bd} (hs:ND xs) (n:ByteArray) {m:Nat} (h:m<xs.length):strLt xs[m].var n=true ↔ m<Bo xs n:=by
  constructor
  · intro h1
    rcases zB m (Bo xs n) with h2 | h2
    · exact h2
    · have h3:=Vp n xs (by omega)
      rcases zB (Bo xs n) m with h4 | h4
      · rw [KN (hs _ _ h4 h) h1] at h3; cases h3
      · have e:Bo xs n=m:=by omega
        simp only [e] at h3
        rw [h1] at h3; cases h3
  · exact KO n xs m h
noncomputable def DS (xs:List Bd) (n:ByteArray):Bool:=match xs[Bo xs n]? with
 | none=>false
 | some b=>dec (b.var=n)
def Em:SC:=(.seq (.reg [⟨some 2,none,.boxv 139 3 (.t 0)⟩,⟨some 4,none,.mv (.c (.int .i64 0))⟩]) (.seq (.reg [⟨some 5,none,.faddr 0 (.t 2)⟩,⟨some 6,none,.load false 1 (.t 5)⟩,⟨some 7,none,.mv (.t 1)⟩,⟨some 8,none,.call 136 [(.t 6),(.t 7)]⟩,⟨some 4,none,.mv (.t 8)⟩]) .ret))
theorem H0:codeOf Tryz.prog 164=some ⟨9,Em,[(.tmp 4)]⟩:=by kernel_rfl
theorem BQ:modes 164=⟨[],.asis,none,false⟩:=by unfold modes; rfl
theorem CG:LP Tryz.prog 164=true:=by kernel_rfl
def Bf:SC:=(.seq (.reg [⟨some 6,none,.mv (.c (.int .i64 0))⟩,⟨some 7,none,.mv (.c (.bool false))⟩]) (.seq (.reg [⟨some 12,none,.mv (.t 0)⟩,⟨some 13,none,.len false (.t 12)⟩,⟨some 8,none,.mv (.t 13)⟩]) (.seq (.reg [⟨some 14,none,.mv (.t 8)⟩,⟨some 9,none,.mv (.c (.int .i64 0))⟩,⟨some 10,none,.mv (.t 14)⟩]) (.seq (.block 0 (.loop [1,1,1,0,0,0,0,0,1,1,1,0,0,0,0,0,0,0,0,0,0,0,0,0,0,0,0,0,0,0,0,0,0,0,0,0,0,0,0,0,0,0,0,0,0,0,0,0,0] (.seq (.seq (.reg [⟨some 15,none,.mv (.t 9)⟩,⟨some 16,none,.mv (.t 10)⟩,⟨some 17,none,.bin .lss false (.t 15) (.t 16)⟩]) (.cond (.t 17) .skip (.exit 0))) (.block 1 (.seq (.reg [⟨some 18,none,.mv (.t 9)⟩,⟨some 19,none,.mv (.t 10)⟩,⟨some 20,none,.bin .add false (.t 18) (.t 19)⟩,⟨some 21,none,.conv .u64 (.t 20)⟩,⟨some 22,none,.bin .shr false (.t 21) (.c (.int .u64 1))⟩,⟨some 23,none,.conv .i64 (.t 22)⟩,⟨some 11,none,.mv (.t 23)⟩]) (.seq (.reg [⟨some 24,none,.mv (.t 2)⟩,⟨some 25,none,.mv (.t 0)⟩,⟨some 26,none,.mv (.t 11)⟩,⟨some 27,none,.iaddr 3 (.t 25) (.t 26)⟩,⟨some 28,none,.load true 3 (.t 27)⟩,⟨some 29,none,.mv (.t 1)⟩,⟨some 30,none,.callv (.t 24) [(.t 28),(.t 29)]⟩,⟨some 31,none,.bin .lss false (.t 30) (.c (.int .i64 0))⟩]) (.cond (.t 31) (.reg [⟨some 32,none,.mv (.t 11)⟩,⟨some 33,none,.bin .add false (.t 32) (.c (.int .i64 1))⟩,⟨some 9,none,.mv (.t 33)⟩]) (.reg [⟨some 34,none,.mv (.t 11)⟩,⟨some 10,none,.mv (.t 34)⟩])))))))) (.seq (.reg [⟨some 35,none,.mv (.t 9)⟩,⟨some 36,none,.mv (.t 9)⟩,⟨some 37,none,.mv (.t 8)⟩,⟨some 38,none,.bin .lss false (.t 36) (.t 37)⟩,⟨some 39,none,.mv (.t 38)⟩,⟨(some 40),(some (39,true)),(.mv (.t 2))⟩,⟨(some 41),(some (39,true)),(.mv (.t 0))⟩,⟨(some 42),(some (39,true)),(.mv (.t 9))⟩,⟨(some 43),(some (39,true)),(.iaddr 3 (.t 41) (.t 42))⟩,⟨(some 44),(some (39,true)),(.load true 3 (.t 43))⟩,⟨(some 45),(some (39,true)),(.mv (.t 1))⟩,⟨(some 46),(some (39,true)),(.callv (.t 40) [(.t 44),(.t 45)])⟩,⟨(some 47),(some (39,true)),(.bin .eql false (.t 46) (.c (.int .i64 0)))⟩,⟨some 48,none,.pick (.t 39) (.t 47) (.c (.bool false))⟩,⟨some 6,none,.mv (.t 35)⟩,⟨some 7,none,.mv (.t 48)⟩]) .ret)))))
theorem Cg:codeOf Tryz.prog 163=some ⟨49,Bf,[(.tmp 6),(.tmp 7)]⟩:=by kernel_rfl
theorem AF:modes 163=⟨[],.asis,none,false⟩:=by unfold modes; rfl
def Da:SC:=(.seq (.reg [⟨some 2,none,.boxv 76 1 (.t 0)⟩,⟨(some 4),none,(.alloc 71 [(.str ⟨#[]⟩),.nil])⟩,⟨some 5,none,.mv (.c (.bool false))⟩]) (.seq (.reg [⟨some 9,none,.faddr 0 (.t 2)⟩,⟨some 10,none,.load false 1 (.t 9)⟩,⟨some 11,none,.mv (.t 1)⟩,⟨some 12,none,.call 163 [(.t 10),(.t 11),(.c (.fn 164 []))]⟩,⟨some 8,none,.mv (.t 12)⟩,⟨some 13,none,.ext (.t 8) 0⟩,⟨some 14,none,.ext (.t 8) 1⟩,⟨some 6,none,.mv (.t 13)⟩,⟨some 7,none,.mv (.t 14)⟩]) (.seq (.seq (.reg [⟨some 15,none,.mv (.t 7)⟩,⟨some 16,none,.un .not (.t 15)⟩]) (.cond (.t 16) (.seq (.reg [⟨(some 17),none,(.build [(.str ⟨#[]⟩),.nil] [])⟩,⟨none,none,(.store 2 (.t 4) (.t 17))⟩,⟨some 5,none,.mv (.c (.bool false))⟩]) .ret) .skip)) (.seq (.reg [⟨some 18,none,.faddr 0 (.t 2)⟩,⟨some 19,none,.load false 1 (.t 18)⟩,⟨some 20,none,.mv (.t 6)⟩,⟨some 21,none,.iaddr 3 (.t 19) (.t 20)⟩,⟨some 22,none,.faddr 1 (.t 21)⟩,⟨some 23,none,.load true 2 (.t 22)⟩,⟨none,none,(.store 2 (.t 4) (.t 23))⟩,⟨some 5,none,.mv (.c (.bool true))⟩]) .ret))))
theorem ED:codeOf Tryz.prog 132=some ⟨24,Da,[(.cell 4 true 2),(.tmp 5)]⟩:=by kernel_rfl
theorem A7:modes 132=⟨[],.frz,none,false⟩:=by unfold modes; rfl
theorem Qav (b:Bd) (n:ByteArray):E 164 [b.sv,.str n] []=some (.int .i64 (Ev b.var n),[]):=by
 have h:=J7 b.var n
 refine Ad H0 BQ (of_decide_eq_true rfl) ?_
 simp (disch:=omega) only [Em,go_sem,Aa,h,AB]
theorem Uh (xs:List Bd) (n:ByteArray) (hl:xs.length≤1099511627776) (hs:ND xs):E 163 [.arr (xs.map Bd.d),.str n,.fn 164 []] []=some (.tup [.int .i64 (Bo xs n:Nat),.bool (DS xs n)],[]):=by
 have hlow:=Vo n xs
 obtain ⟨L,hL⟩:∃ L:Int,L=(Bo xs n:Nat):=⟨_,rfl⟩
 rw [←hL]
 refine Ad Cg AF (of_decide_eq_true rfl) ?_
 simp (disch:=omega) only [Bf,go_sem,Aa]
 refine go_loop (α:=Int × Int) (fun a=>⟨slots 49 0 [(0,.arr (xs.map Bd.d)),(1,.str n),(2,.fn 164 []),(8,.int .i64 xs.length),(9,.int .i64 a.1),(10,.int .i64 a.2)],[]⟩) (fun a=>0≤a.1∧a.1≤L∧L≤a.2∧a.2≤xs.length) (fun a=>(a.2-a.1).toNat) (0,xs.length) ⟨by simp,by dsimp only; omega,by dsimp only; omega,by dsimp only; omega⟩ (by simp (disch:=omega) only [go_sem,Aa]) ?_
 rintro ⟨i,j⟩ ⟨h0,h1,h2,h3⟩
 dsimp only at h0 h1 h2 h3
 rcases Int.lt_or_le i j with hij | hij
 ·obtain ⟨m,hm⟩:∃ m:Nat,(i+j) / 2=(m:Int):=⟨((i+j) / 2).toNat,by omega⟩
  have hlt:m<xs.length:=by omega
  have hni:(m:Int).toNat=m:=yQ m
  have hg:=get_at Bd.d hlt
  rw [Bd.d_eq] at hg
  have hc:=Qav xs[m] n
  have hw:IntKind.u64.wrap (i+j)=i+j:=wrap_u64 (by omega) (by omega)
  have hi:=QcH hs n hlt
  obtain ⟨M,hM⟩:∃ M:Int,(i+j) / 2=M:=⟨_,rfl⟩
  have hni:M.toNat=m:=by omega
  cases hq:strLt xs[m].var n with
  | true =>
   have hi2:=hi.1 hq
   simp (disch:=omega) only [go_sem,Aa,hw,hni,hg,hc,CG,BQ,Xa,hq,hM]
   exact ⟨(M+1,j),⟨by dsimp only; omega,by dsimp only; omega,by dsimp only; omega,by dsimp only; omega⟩,by dsimp only; omega,by first | trivial | rfl⟩
  | false =>
   have hi2:¬ m<Bo xs n:=by rw [←hi,hq]; simp
   simp (disch:=omega) only [go_sem,Aa,hw,hni,hg,hc,CG,BQ,Xa,hq,hM]
   exact ⟨(i,M),⟨by dsimp only; omega,by dsimp only; omega,by dsimp only; omega,by dsimp only; omega⟩,by dsimp only; omega,by first | trivial | rfl⟩
 ·obtain rfl:i=L:=by omega
  rcases zB (Bo xs n) xs.length with hlt | hge
  ·have hg:=get_at Bd.d hlt
   rw [Bd.d_eq] at hg
   have hni:i.toNat=Bo xs n:=by omega
   have hc:=Qav xs[Bo xs n] n
   have hh:DS xs n=dec (xs[Bo xs n].var=n):=by unfold DS; rw [zT hlt]
   rw [hh]
   simp (disch:=omega) only [go_sem,Aa,hni,hg,hc,CG,BQ,Qbw]
  ·have hh:DS xs n=false:=by unfold DS; rw [yT hge]
   rw [hh]
   simp (disch:=omega) only [go_sem,Aa]
theorem Xd {α:Type} (p:α→Bool):∀ (xs:List α) (k:Nat) (i:Int) (h:k<xs.length),(∀ j (hj:j<k),p xs[j]=false)→p xs[k]=true→F3 p xs i=i+k
 | [],k,i,h,_,_=>absurd h (by simp)
 | x :: xs,0,i,h,_,hp=>by rw [F3,if_pos (show p x=true from hp)]; simp
 | x :: xs,k+1,i,h,hb,hp=>by
  have h0:p x=false:=hb 0 (by omega)
  have:=Xd p xs k (i+1) (by simpa using h) (fun j hj=>hb (j+1) (by omega)) hp
  rw [F3,if_neg (by rw [h0]; simp),this]; omega
theorem Vq {α:Type} (p:α→Bool):∀ (xs:List α) (i:Int),(∀ j (hj:j<xs.length),p xs[j]=false)→F3 p xs i=-1
 | [],i,_=>by rw [F3]
 | x :: xs,i,h=>by
  have h0:p x=false:=h 0 (by simp)
  rw [F3,if_neg (by rw [h0]; simp)]
  exact Vq p xs (i+1) fun j hj=>h (j+1) (by simpa using hj)
theorem RJ {xs:List Bd} (hs:ND xs) (n:ByteArray):F3 (fun b=>dec (b.var=n)) xs 0=if DS xs n then ((Bo xs n:Nat):Int) else -1:=by
  have before:∀ j (hj:j<xs.length),j<Bo xs n→dec (xs[j].var=n)=false:=fun j hj hL=>A8 (WZ (KO n xs j hj hL))
  rcases zB (Bo xs n) xs.length with hlt | hge
  · have hh:DS xs n=dec (xs[Bo xs n].var=n):=by unfold DS; rw [zT hlt]
    cases hq:dec (xs[Bo xs n].var=n) with
    | true =>
      rw [hh,hq,if_pos rfl,Xd _ xs (Bo xs n) 0 hlt (fun j hj=>before j (by omega) hj) hq]; omega
    | false =>
      rw [hh,hq,if_neg (by simp)]
      refine Vq _ xs 0 fun j hj=>?_
      rcases Nat.lt_trichotomy j (Bo xs n) with h | h | h
      · exact before j hj h
      · subst h; exact hq
      · refine A8 fun e=>?_
        have h1:=hs _ _ h hj
        rw [e,Vp n xs hlt] at h1
        cases h1
  · have hh:DS xs n=false:=by unfold DS; rw [yT hge]
    rw [hh,if_neg (by simp)]
    exact Vq _ xs 0 fun j hj=>before j hj (by omega)
theorem HW {xs:List Bd} {n:ByteArray} (h:DS xs n=true):Bo xs n<xs.length:=by
 rcases zB (Bo xs n) xs.length with h1 | h1
 ·exact h1
 ·unfold DS at h; rw [yT h1] at h; cases h
noncomputable def Sb.look (x:Sb) (n:ByteArray):Option Tm:=if h:DS x.binds n=true then some (x.binds[Bo x.binds n]'(HW h)).term else none
theorem RK (x:Sb) (hx:ND x.binds) (n:ByteArray) (hl:x.binds.length≤1099511627776) (hh:DS x.binds n=true) (hlt:Bo x.binds n<x.binds.length):E 132 [x.sv,.str n] []=some (.tup [(x.binds[Bo x.binds n]).term.sv,.bool true],[]):=by
 have hb:=Uh x.binds n hl hx
 have hg:=get_at Bd.d hlt
 rw [Bd.d_eq] at hg
 have hni:((Bo x.binds n:Nat):Int).toNat=Bo x.binds n:=yQ _
 refine Ad ED A7 (of_decide_eq_true rfl) ?_
 simp (disch:=omega) only [Da,go_sem,Aa,hb,hni,hg,hh,AF]
theorem Ui (x:Sb) (hx:ND x.binds) (n:ByteArray) (hl:x.binds.length≤1099511627776) (hh:DS x.binds n=false):E 132 [x.sv,.str n] []=some (.tup [.agg [.str ⟨#[]⟩,.arr []],.bool false],[]):=by
 have hb:=Uh x.binds n hl hx
 refine Ad ED A7 (of_decide_eq_true rfl) ?_
 simp (disch:=omega) only [Da,go_sem,Aa,hb,hh,AF]
theorem Zs (x:Sb) (hx:x.ok=true) (n:ByteArray) (hl:x.binds.length≤1099511627776) (hh:DS x.binds n=true) (hlt:Bo x.binds n<x.binds.length):E 132 [x.sv,.str n] []=some (.tup [(x.binds[Bo x.binds n]).term.sv,.bool true],[]):=RK x (Sb.JV hx) n hl hh hlt
theorem Qby (x:Sb) (hx:x.ok=true) (n:ByteArray) (hl:x.binds.length≤1099511627776) (hh:DS x.binds n=false):E 132 [x.sv,.str n] []=some (.tup [.agg [.str ⟨#[]⟩,.arr []],.bool false],[]):=Ui x (Sb.JV hx) n hl hh
mutual
noncomputable def Tm.ap (f:ByteArray→Option Tm):Tm→Tm
 | .mk name args=>if Ao name then (f name).getD (.mk name []) else .mk name (Tm.apL f args)
noncomputable def Tm.apL (f:ByteArray→Option Tm):List Tm→List Tm
 | []=>[]
 | x :: xs=>Tm.ap f x :: Tm.apL f xs
end
theorem Tm.HX (f:ByteArray→Option Tm) (x:Tm):x.ap f=if Ao x.name then (f x.name).getD (.mk x.name []) else .mk x.name (Tm.apL f x.args):=by
 obtain ⟨name,args⟩:=x
 rw [Tm.ap]; rfl
theorem Tm.Qp (f:ByteArray→Option Tm):∀ xs:List Tm,(Tm.apL f xs).length=xs.length
 | []=>by rw [Tm.apL]
 | x :: xs=>by rw [Tm.apL]; simp only [zP,Tm.Qp f xs]
theorem Tm.NE (f:ByteArray→Option Tm):∀ xs:List Tm,Tm.apL f xs=xs.map (Tm.ap f)
 | []=>by rw [Tm.apL]; rfl
 | x :: xs=>by rw [Tm.apL,Tm.NE f xs]; rfl
def okF (f:ByteArray→Option Tm):Prop:=∀ n t,f n=some t→t.names=true∧t.nodes≤30
theorem Tm.NF (f:ByteArray→Option Tm):∀ xs:List Tm,(∀ y∈xs,(y.ap f).names=true)→Tm.Ee (Tm.apL f xs)=true
 | [],_=>by rw [Tm.apL,Tm.Ee]
 | x :: xs,h=>by rw [Tm.apL,Tm.Ee,h x (by simp),Tm.NF f xs fun y hy=>h y (by simp [hy])]; rfl
theorem Tm.KP {f:ByteArray→Option Tm} (hf:okF f) (x:Tm) (hx:x.names=true):(x.ap f).names=true:=by
 rw [Tm.HX]
 rw [Tm.EB] at hx
 split
 ·rename_i hv
  cases hq:f x.name with
  | none =>
   rw [y6,Tm.EB]
   show (if Ao x.name then _ else _)=true
   rw [if_pos hv]; rfl
  | some t=>exact (hf _ _ hq).1
 ·rename_i hv
  rw [if_neg hv,zA,zA] at hx
  rw [Tm.EB]
  show (if Ao x.name then _ else EY x.name&&decide ((Tm.apL f x.args).length≤4)&&Tm.Ee (Tm.apL f x.args))=true
  rw [if_neg hv,Tm.Qp,hx.1.1,hx.1.2,Tm.NF f x.args fun y hy=>Tm.KP hf y (by
   have:=hx.2
   rw [Tm.Dl,zN] at this
   exact this y hy)]
  rfl
termination_by SizeOf.sizeOf x
decreasing_by exact Tm.Aw hy
theorem Tm.Xe {f:ByteArray→Option Tm}:∀ xs:List Tm,(∀ y∈xs,(y.ap f).nodes≤30*y.nodes)→Tm.Bg (Tm.apL f xs)≤30*Tm.Bg xs
 | [],_=>by rw [Tm.apL,Tm.Bg]; omega
 | x :: xs,h=>by
  have h1:=h x (by simp)
  have h2:=Tm.Xe xs fun y hy=>h y (by simp [hy])
  rw [Tm.apL,Tm.Bg,Tm.Bg]; omega
theorem Tm.IW {f:ByteArray→Option Tm} (hf:okF f) (x:Tm):(x.ap f).nodes≤30*x.nodes:=by
 have hp:=Tm.LC x
 rw [Tm.HX]
 split
 ·cases hq:f x.name with
  | none =>
   have:(Tm.mk x.name []).nodes=1+Tm.Bg []:=Tm.An (Tm.mk x.name [])
   rw [Tm.Bg] at this
   rw [y6]; omega
  | some t=>have:=(hf _ _ hq).2; rw [Option.getD_some]; omega
 ·have h1:(Tm.mk x.name (Tm.apL f x.args)).nodes=1+Tm.Bg (Tm.apL f x.args):=Tm.An (Tm.mk x.name (Tm.apL f x.args))
  have h2:=Tm.Xe (f:=f) x.args fun y hy=>Tm.IW hf y
  have h3:=Tm.An x
  omega
termination_by SizeOf.sizeOf x
decreasing_by exact Tm.Aw hy
theorem Tm.QcI {f:ByteArray→Option Tm} (hf:okF f) (x:Tm) (hx:(x.valid || x.atom)=true):((x.ap f).valid || (x.ap f).atom)=(x.ap f).small:=by
  cases hs:(x.ap f).small with
  | false =>
    have h1:(x.ap f).valid=false:=by unfold Tm.valid; rw [hs]; rfl
    have h2:(x.ap f).atom=false:=by
      unfold Tm.atom; split
      · rw [hs,zM,yM]
      · rw [h1,zM]
    rw [h1,h2]; rfl
  | true =>
    cases hn:x.names with
    | true =>
      have:(x.ap f).valid=true:=by unfold Tm.valid; rw [hs,Tm.KP hf x hn]; rfl
      rw [this]; rfl
    | false =>
      have hv:x.valid=false:=by unfold Tm.valid; rw [hn,zM]
      rw [hv,y5] at hx
      unfold Tm.atom at hx
      split at hx
      · rename_i he
        rw [zA,zA] at hx
        have hname:x.name=⟨#[61]⟩:=by unfold Tm.eqn at he; exact As.1 he
        have hnv0:Ao ⟨#[61]⟩=false:=by kernel_rfl
        have hnv:¬ (Ao x.name=true):=by rw [hname,hnv0]; simp
        have e:x.ap f=.mk x.name (Tm.apL f x.args):=by rw [Tm.HX,if_neg hnv]
        have:(x.ap f).atom=true:=by
          have he2:(x.ap f).eqn=true:=by rw [e]; exact he
          unfold Tm.atom
          rw [if_pos he2,hs]
          rw [e]
          show ((Tm.apL f x.args).length == 2&&true&&Tm.Ee (Tm.apL f x.args))=true
          rw [Tm.Qp,hx.1.1,Tm.NF f x.args fun y hy=>Tm.KP hf y (by
            have:=hx.2
            rw [Tm.Dl,zN] at this
            exact this y hy)]
          rfl
        rw [this,Bool.or_true]
      · rw [hv,zM] at hx; cases hx
theorem Tm.Ez {x:Tm} (h:x.names=true) (hv:Ao x.name=true):x.args=[]:=by
 rw [Tm.EB,if_pos hv] at h
 exact zE (by simpa using h)
theorem Tm.DO {x:Tm} (h:x.names=true) {y:Tm} (hy:y∈x.args):y.names=true:=by
 rw [Tm.EB] at h
 split at h
 ·have:x.args=[]:=zE (by simpa using h)
  rw [this] at hy; cases hy
 ·rw [zA,Tm.Dl,zN] at h
  exact h.2 y hy
theorem Sb.JW {x:Sb} (h:x.ok=true) {k:Nat} (hk:k<x.binds.length):HH x.binds[k]=true:=by
 unfold Sb.ok at h
 rw [zA] at h
 exact Qeb hk (Qau h.2 hk)
theorem Xf {x:Bd} (h:HH x=true):Ao x.var=true:=by unfold HH at h; rw [zA] at h; exact h.1
theorem D4 {x:Bd} (h:HH x=true):x.term.valid=true:=by unfold HH at h; rw [zA,zA] at h; exact h.2.1
theorem Vr {xs:List Bd} {n:ByteArray} (h:DS xs n=true) (hlt:Bo xs n<xs.length):(xs[Bo xs n]).var=n:=by
 have hh:DS xs n=dec (xs[Bo xs n].var=n):=by unfold DS; rw [zT hlt]
 rw [hh] at h
 exact As.1 h
theorem Sb.Fn {x:Sb} (h:x.ok=true):okF x.look:=by
 intro n t ht
 unfold Sb.look at ht
 split at ht
 ·rename_i hh
  have hv:=D4 (Sb.JW h (HW hh))
  obtain rfl:=yP ht
  unfold Tm.valid Tm.small at hv
  rw [zA,zA,decide_eq_true_eq] at hv
  exact ⟨hv.2,hv.1.1⟩
 ·cases ht
theorem Sb.KQ {x:Sb} {n:ByteArray} (h:DS x.binds n=true) (hlt:Bo x.binds n<x.binds.length):x.look n=some (x.binds[Bo x.binds n]).term:=by
 unfold Sb.look; rw [dif_pos h]
theorem Sb.Qq {x:Sb} {n:ByteArray} (h:DS x.binds n=false):x.look n=none:=by
 unfold Sb.look; rw [dif_neg (by rw [h]; simp)]
def Sb.fine (s:Sb):Prop:=ND s.binds∧∀ b∈s.binds,Ao b.var=true
theorem Sb.Vs {s:Sb} (h:s.ok=true):s.fine:=⟨Sb.JV h,fun b hb=>by
 obtain ⟨k,hk,rfl⟩:=zX hb
 exact Xf (Sb.JW h hk)⟩
def Cb:SC:=(.seq (.reg [⟨some 2,none,.boxv 76 1 (.t 0)⟩,⟨some 3,none,.boxv 71 2 (.t 1)⟩,⟨(some 4),none,(.alloc 71 [(.str ⟨#[]⟩),.nil])⟩]) (.seq (.seq (.reg [⟨some 10,none,.faddr 1 (.t 3)⟩,⟨some 11,none,.load false 1 (.t 10)⟩,⟨some 12,none,.len false (.t 11)⟩,⟨some 13,none,.bin .eql false (.t 12) (.c (.int .i64 0))⟩]) (.cond (.t 13) (.seq (.seq (.reg [⟨some 15,none,.load true 1 (.t 2)⟩,⟨some 16,none,.faddr 0 (.t 3)⟩,⟨some 17,none,.load false 1 (.t 16)⟩,⟨some 18,none,.call 132 [(.t 15),(.t 17)]⟩,⟨some 14,none,.mv (.t 18)⟩,⟨some 19,none,.ext (.t 14) 0⟩,⟨some 20,none,.ext (.t 14) 1⟩,⟨(some 5),none,(.alloc 71 [(.str ⟨#[]⟩),.nil])⟩,⟨none,none,(.store 2 (.t 5) (.t 19))⟩,⟨some 6,none,.mv (.t 20)⟩]) (.seq (.reg [⟨some 21,none,.mv (.t 6)⟩]) (.cond (.t 21) (.seq (.reg [⟨some 22,none,.load true 2 (.t 5)⟩,⟨some 23,none,.call 133 [(.t 22)]⟩,⟨none,none,(.store 2 (.t 4) (.t 23))⟩]) .ret) .skip))) (.seq (.reg [⟨some 24,none,.faddr 0 (.t 3)⟩,⟨some 25,none,.load false 1 (.t 24)⟩,⟨(some 26),none,(.build [(.str ⟨#[]⟩),.nil] [(0,(1,(.t 25)))])⟩,⟨none,none,(.store 2 (.t 4) (.t 26))⟩]) .ret)) .skip)) (.seq (.dreg [[],[0],[],[2],[3,2],[4,3,2],[1,0,5,4,3,2],[],[7,6,1,0,5,4,3,2]] [⟨some 27,none,.faddr 0 (.t 3)⟩,⟨some 28,none,.load false 1 (.t 27)⟩,⟨some 29,none,.faddr 1 (.t 3)⟩,⟨some 30,none,.load false 1 (.t 29)⟩,⟨some 31,none,.len false (.t 30)⟩,⟨(some 32),none,(.mkslice 71 2 40 [(.str ⟨#[]⟩),.nil] (.t 31))⟩,⟨(some 33),none,(.build [(.str ⟨#[]⟩),.nil] [(0,(1,(.t 28))),(1,(1,(.t 32)))])⟩,⟨(some 7),none,(.alloc 71 [(.str ⟨#[]⟩),.nil])⟩,⟨none,none,(.store 2 (.t 7) (.t 33))⟩]) (.seq (.seq (.reg [⟨some 34,none,.faddr 1 (.t 3)⟩,⟨some 35,none,.load false 1 (.t 34)⟩,⟨some 36,none,.len false (.t 35)⟩,⟨some 37,none,.mv (.c (.int .i64 0))⟩]) (.block 0 (.loop [0,0,1,0,1,0,0,1,0,0,0,0,0,0,0,0,0,0,0,0,0,0,0,0,0,0,0,0,0,0,0,0,0,0,0,1,1,1,0,0,0,0,0,0,0,0,0,0,0,0,0] (.seq (.reg [⟨some 38,none,.bin .lss false (.t 37) (.t 36)⟩]) (.seq (.cond (.t 38) .skip (.exit 0)) (.seq (.block 1 (.seq (.reg [⟨some 39,none,.mv (.t 37)⟩,⟨some 40,none,.iaddr 2 (.t 35) (.t 37)⟩,⟨some 41,none,.load true 2 (.t 40)⟩,⟨(some 9),none,(.alloc 71 [(.str ⟨#[]⟩),.nil])⟩,⟨some 8,none,.mv (.t 39)⟩,⟨none,none,(.store 2 (.t 9) (.t 41))⟩]) (.dreg [[],[0],[],[],[],[3,4],[1,0,2,3,4,5],[6,1,0,2,3,4,5]] [⟨some 42,none,.faddr 1 (.t 7)⟩,⟨some 43,none,.load false 1 (.t 42)⟩,⟨some 44,none,.mv (.t 8)⟩,⟨some 45,none,.load true 1 (.t 2)⟩,⟨some 46,none,.load true 2 (.t 9)⟩,⟨some 47,none,.call 126 [(.t 45),(.t 46)]⟩,⟨some 48,none,.iaddr 2 (.t 43) (.t 44)⟩,⟨none,none,(.store 2 (.t 48) (.t 47))⟩]))) (.reg [⟨some 49,none,.bin .add false (.t 37) (.c (.int .i64 1))⟩,⟨some 37,none,.mv (.t 49)⟩]))))))) (.seq (.reg [⟨some 50,none,.load true 2 (.t 7)⟩,⟨none,none,(.store 2 (.t 4) (.t 50))⟩]) .ret)))))
theorem CO:codeOf Tryz.prog 126=some ⟨51,Cb,[(.cell 4 true 2)]⟩:=by kernel_rfl
theorem Av:modes 126=⟨[],.own [none,some (71,2)],none,false⟩:=by unfold modes; rfl
def Fo:SC:=(.seq (.reg [⟨some 2,none,.boxv 76 1 (.t 0)⟩,⟨some 3,none,.boxv 71 2 (.t 1)⟩,⟨(some 4),none,(.alloc 71 [(.str ⟨#[]⟩),.nil])⟩]) (.seq (.seq (.reg [⟨some 8,none,.faddr 0 (.t 3)⟩,⟨some 9,none,.load false 1 (.t 8)⟩,⟨some 10,none,.call 77 [(.t 9)]⟩]) (.cond (.t 10) (.seq (.seq (.reg [⟨some 11,none,.load true 1 (.t 2)⟩,⟨some 12,none,.faddr 0 (.t 3)⟩,⟨some 13,none,.load false 1 (.t 12)⟩,⟨some 14,none,.call 147 [(.t 11),(.t 13)]⟩,⟨some 5,none,.mv (.t 14)⟩]) (.seq (.reg [⟨some 15,none,.mv (.t 5)⟩,⟨some 16,none,.bin .geq false (.t 15) (.c (.int .i64 0))⟩]) (.cond (.t 16) (.seq (.reg [⟨some 17,none,.faddr 0 (.t 2)⟩,⟨some 18,none,.load false 1 (.t 17)⟩,⟨some 19,none,.mv (.t 5)⟩,⟨some 20,none,.iaddr 3 (.t 18) (.t 19)⟩,⟨some 21,none,.faddr 1 (.t 20)⟩,⟨some 22,none,.load true 2 (.t 21)⟩,⟨some 23,none,.call 148 [(.t 22)]⟩,⟨none,none,(.store 2 (.t 4) (.t 23))⟩]) .ret) .skip))) (.seq (.reg [⟨some 24,none,.faddr 0 (.t 3)⟩,⟨some 25,none,.load false 1 (.t 24)⟩,⟨(some 26),none,(.build [(.str ⟨#[]⟩),.nil] [(0,(1,(.t 25)))])⟩,⟨none,none,(.store 2 (.t 4) (.t 26))⟩]) .ret)) .skip)) (.seq (.reg [⟨some 27,none,.faddr 0 (.t 3)⟩,⟨some 28,none,.load false 1 (.t 27)⟩,⟨(some 29),none,(.build [(.str ⟨#[]⟩),.nil] [(0,(1,(.t 28)))])⟩,⟨(some 6),none,(.alloc 71 [(.str ⟨#[]⟩),.nil])⟩,⟨none,none,(.store 2 (.t 6) (.t 29))⟩]) (.seq (.seq (.reg [⟨some 7,none,.mv (.c (.int .i64 0))⟩]) (.block 0 (.loop [0,0,1,1,1,0,1,1,0,0,0,0,0,0,0,0,0,0,0,0,0,0,0,0,0,0,0,0,0,0,0,0,0,0,0,0,0,0,0,0,0,0,0,0,0,0,0,0,0,0] (.seq (.seq (.reg [⟨some 30,none,.mv (.t 7)⟩,⟨some 31,none,.faddr 1 (.t 3)⟩,⟨some 32,none,.load false 1 (.t 31)⟩,⟨some 33,none,.len false (.t 32)⟩,⟨some 34,none,.bin .lss false (.t 30) (.t 33)⟩]) (.cond (.t 34) .skip (.exit 0))) (.seq (.block 1 (.dreg [[],[0],[],[],[3],[],[4,3,5],[6,4,3,5],[2,7,6,4,3,5],[8,2,7,6,4,3,5],[1,0,9,8,2,7,6,4,3,5],[0,1,2,3,4,5,6,7,8,9,10],[11,0,1,2,3,4,5,6,7,8,9,10]] [⟨some 37,none,.faddr 1 (.t 6)⟩,⟨some 38,none,.load false 1 (.t 37)⟩,⟨some 39,none,.load true 1 (.t 2)⟩,⟨some 40,none,.faddr 1 (.t 3)⟩,⟨some 41,none,.load false 1 (.t 40)⟩,⟨some 42,none,.mv (.t 7)⟩,⟨some 43,none,.iaddr 2 (.t 41) (.t 42)⟩,⟨some 44,none,.load true 2 (.t 43)⟩,⟨some 45,none,.call 111 [(.t 39),(.t 44)]⟩,⟨(some 46),none,(.mkrow 71 2 [(.str ⟨#[]⟩),.nil] 1 [(0,(.t 45))])⟩,⟨(some 47),none,(.append 71 2 40 [(.str ⟨#[]⟩),.nil] (.t 38) (.t 46))⟩,⟨some 48,none,.faddr 1 (.t 6)⟩,⟨none,none,(.store 1 (.t 48) (.t 47))⟩])) (.reg [⟨some 35,none,.mv (.t 7)⟩,⟨some 36,none,.bin .add false (.t 35) (.c (.int .i64 1))⟩,⟨some 7,none,.mv (.t 36)⟩])))))) (.seq (.reg [⟨some 49,none,.load true 2 (.t 6)⟩,⟨none,none,(.store 2 (.t 4) (.t 49))⟩]) .ret)))))
theorem H3:codeOf Tryz.prog 111=some ⟨50,Fo,[(.cell 4 true 2)]⟩:=by kernel_rfl
theorem AH:modes 111=⟨[],.frz,none,false⟩:=by unfold modes; rfl
theorem Xg (s:Sb) (hs:s.fine) (ht:s.tame) (x:Tm) (hx:Ao x.name=true→x.args=[]) (hn:x.nodes≤1099511627776) (ih:∀ y∈x.args,E 126 [s.sv,y.sv] []=some ((y.ap s.look).osv,(y.ap s.look).obs)):E 126 [s.sv,x.sv] []=some ((x.ap s.look).osv,(x.ap s.look).obs):=by
  have hsl:=ht.1
  have hl:=Tm.length_le x.args
  have hne:=Tm.An x
  rcases zH x.args.length with h0 | h0
  · have hx0:x.args=[]:=zE h0
    cases hh:DS s.binds x.name with
    | true =>
      have hlt:=HW hh
      have hc:=RK s hs.1 x.name hsl hh hlt
      have hd:=J9 (s.binds[Bo s.binds x.name]).term (Sb.tame_at ht hlt)
      have hv:Ao x.name=true:=by rw [←Vr hh hlt]; exact hs.2 _ (zD hlt)
      have e:x.ap s.look=(s.binds[Bo s.binds x.name]).term:=by rw [Tm.HX,if_pos hv,Sb.KQ hh hlt]; rfl
      rw [e]
      refine Ad CO Av (of_decide_eq_true rfl) ?_
      simp (disch:=omega) only [Cb,go_sem,Aa,hx0,hc,hd,zL,zY,A7,Ba,Tm.osv,Tm.obs]
    | false =>
      have hc:=Ui s hs.1 x.name hsl hh
      have e:x.ap s.look=.mk x.name []:=by
        rw [Tm.HX,Sb.Qq hh,hx0]
        split
        · rfl
        · rw [Tm.apL]
      rw [e]
      have e1:(Tm.mk x.name []).osv=.agg [.str x.name,.ref 0]:=rfl
      have e2:(Tm.mk x.name []).obs=[.row 71 2 []]:=rfl
      rw [e1,e2]
      refine Ad CO Av (of_decide_eq_true rfl) ?_
      simp (disch:=omega) only [Cb,go_sem,Aa,hx0,hc,zL,zY,A7]
  · have hv:¬ Ao x.name=true:=fun h=>by rw [hx h] at h0; simp at h0
    have e:x.ap s.look=.mk x.name (x.args.map (Tm.ap s.look)):=by rw [Tm.HX,if_neg hv,Tm.NE]
    rw [e]
    have e1:(Tm.mk x.name (x.args.map (Tm.ap s.look))).osv=.agg [.str x.name,.ref 0]:=rfl
    have e2:(Tm.mk x.name (x.args.map (Tm.ap s.look))).obs=[.row 71 2 ((x.args.map (Tm.ap s.look)).map Tm.o)]:=rfl
    rw [e1,e2]
    have hrl:List.replicate x.args.length ([.str ⟨#[]⟩,.ow []]:List OT)=Gj Tm.o [.str ⟨#[]⟩,.ow []] (x.args.map (Tm.ap s.look)) 0:=by rw [J3,zC]
    refine Ad CO Av (of_decide_eq_true rfl) ?_
    simp (disch:=omega) only [Cb,go_sem,Aa]
    refine go_loop (α:=Int) (fun a=>⟨slots 51 0 [(2,.ptr 0 0),(4,.ptr 1 0),(7,.ptr 2 0),(35,.arr (x.args.map Tm.d)),(36,.int .i64 x.args.length),(37,.int .i64 a)],[.box 76 [.arr (s.binds.map Bd.d)],.box 71 [.str ⟨#[]⟩,.nil],.box 71 [.str x.name,.ref 3],.row 71 2 (Gj Tm.o [.str ⟨#[]⟩,.ow []] (x.args.map (Tm.ap s.look)) a.toNat)]⟩) (fun a=>∃ k:Nat,a=k∧k≤(x.args).length) (fun a=>(x.args).length-(a).toNat) 0 ⟨0,rfl,zF _⟩ (by simp (disch:=omega) only [go_sem,Aa,hrl,yD]) ?_
    rintro i ⟨k,hi,hk⟩
    have hni:i.toNat=k:=by omega
    have hni1:(i+1).toNat=k+1:=by omega
    rcases zB k (x.args).length with hlt | hge
    · have hg:=get_at Tm.d hlt
      rw [Tm.d_eq] at hg
      have hltm:k<(x.args.map (Tm.ap s.look)).length:=by rw [zC]; exact hlt
      have hz:=LA Tm.o [.str ⟨#[]⟩,.ow []] hltm
      have hc:=ih x.args[k] (zD hlt)
      have hse:=LB Tm.o [.str ⟨#[]⟩,.ow []] hltm
      rw [Tm.o_eq,yC] at hse
      simp (disch:=omega) only [go_sem,Aa,hni,hg,hc,hz,L8,zC,Av,Tm.osv,Tm.obs]
      refine ⟨i+1,⟨k+1,by omega,hlt⟩,by omega,?_⟩
      simp (disch:=omega) only [go_sem,Aa,hni1,hse]
    · obtain rfl:k=x.args.length:=by omega
      have hend:Gj Tm.o [.str ⟨#[]⟩,.ow []] (x.args.map (Tm.ap s.look)) x.args.length=(x.args.map (Tm.ap s.look)).map Tm.o:=by
        have:=L9 Tm.o [.str ⟨#[]⟩,.ow []] (xs:=x.args.map (Tm.ap s.look))
        rwa [zC] at this
      simp (disch:=omega) only [go_sem,Aa,hni,hend]
theorem Qaw (s:Sb) (hs:s.fine) (ht:s.tame) (x:Tm) (hx:x.names=true) (hn:x.nodes≤1099511627776):E 126 [s.sv,x.sv] []=some ((x.ap s.look).osv,(x.ap s.look).obs) :=
 Xg s hs ht x (Tm.Ez hx) hn fun y hy=>Qaw s hs ht y (Tm.DO hx hy) (by have:=Tm.AX hy; have:=Tm.An x; omega)
termination_by SizeOf.sizeOf x
decreasing_by exact Tm.Aw hy
theorem Qax (s:Sb) (hs:s.ok=true) (ht:s.tame) (x:Tm) (hx:x.names=true) (hn:x.nodes≤1099511627776):E 126 [s.sv,x.sv] []=some ((x.ap s.look).osv,(x.ap s.look).obs):=Qaw s (Sb.Vs hs) ht x hx hn
theorem Zt (s:Sb) (hs:s.fine) (ht:s.tame) (x:Tm) (hn:x.nodes≤1099511627776) (ih:∀ y∈x.args,E 111 [s.sv,y.sv] []=some ((y.ap s.look).sv,[])):E 111 [s.sv,x.sv] []=some ((x.ap s.look).sv,[]):=by
  have hsl:=ht.1
  have hl:=Tm.length_le x.args
  have hne:=Tm.An x
  have hf:=Xc s x.name hsl
  rw [RJ hs.1] at hf
  cases hv:Ao x.name with
  | true =>
    cases hh:DS s.binds x.name with
    | true =>
      have hlt:=HW hh
      have hg:=get_at Bd.d hlt
      rw [Bd.d_eq] at hg
      have hni:((Bo s.binds x.name:Nat):Int).toNat=Bo s.binds x.name:=yQ _
      have hd:=Qn (s.binds[Bo s.binds x.name]).term (Sb.tame_at ht hlt)
      have e:x.ap s.look=(s.binds[Bo s.binds x.name]).term:=by rw [Tm.HX,if_pos hv,Sb.KQ hh hlt]; rfl
      rw [hh,if_pos rfl] at hf
      rw [e]
      refine Ad H3 AH (of_decide_eq_true rfl) ?_
      simp (disch:=omega) only [Fo,go_sem,Aa,hv,hf,hg,hni,hd,BM,Ah,Am,CT]
    | false =>
      have e:x.ap s.look=.mk x.name []:=by rw [Tm.HX,if_pos hv,Sb.Qq hh]; rfl
      rw [hh,if_neg (by simp)] at hf
      rw [e]
      have e1:(Tm.mk x.name []).sv=.agg [.str x.name,.arr []]:=rfl
      rw [e1]
      refine Ad H3 AH (of_decide_eq_true rfl) ?_
      simp (disch:=omega) only [Fo,go_sem,Aa,hv,hf,BM,Ah,Am]
  | false =>
    have e:x.ap s.look=.mk x.name (x.args.map (Tm.ap s.look)):=by rw [Tm.HX,if_neg (by rw [hv]; simp),Tm.NE]
    rw [e]
    have e1:(Tm.mk x.name (x.args.map (Tm.ap s.look))).sv=.agg [.str x.name,.arr ((x.args.map (Tm.ap s.look)).map Tm.d)]:=rfl
    rw [e1]
    have h10:((1:Int)=0)=False:=by simp
    have hfu:=Tm.N9 (x.args.map (Tm.ap s.look))
    have her:=Tm.Vm (x.args.map (Tm.ap s.look))
    refine Ad H3 AH (of_decide_eq_true rfl) ?_
    simp (disch:=omega) only [Fo,go_sem,Aa,hv,BM,Ah,Am]
    refine go_loop (α:=Int) (fun a=>⟨slots 50 0 [(2,.ptr 0 0),(3,.ptr 1 0),(4,.ptr 2 0),(6,.ptr 3 0),(7,.int .i64 a)],(if a=0 then [.box 76 [.arr (s.binds.map Bd.d)],.box 71 [.str x.name,.arr (x.args.map Tm.d)],.box 71 [.str ⟨#[]⟩,.nil],.box 71 [.str x.name,.nil]] else [.box 76 [.arr (s.binds.map Bd.d)],.box 71 [.str x.name,.arr (x.args.map Tm.d)],.box 71 [.str ⟨#[]⟩,.nil],.box 71 [.str x.name,.ref 4],.row 71 2 (((x.args.map (Tm.ap s.look)).take a.toNat).map Tm.osh)])⟩) (fun a=>∃ k:Nat,a=k∧k≤(x.args).length) (fun a=>(x.args).length-(a).toNat) 0 ⟨0,rfl,zF _⟩ (by simp (disch:=omega) only [go_sem,Aa,eq_self,if_true]) ?_
    rintro i ⟨k,hi,hk⟩
    have hni:i.toNat=k:=by omega
    have hni1:(i+1).toNat=k+1:=by omega
    rcases zB k (x.args).length with hlt | hge
    · have hg:=get_at Tm.d hlt
      rw [Tm.d_eq] at hg
      have hltm:k<(x.args.map (Tm.ap s.look)).length:=by rw [zC]; exact hlt
      have hc:=ih x.args[k] (zD hlt)
      have hse:=DD Tm.osh hltm
      rw [Tm.RB,yC] at hse
      rcases zH k with h0 | h0
      · subst h0
        obtain rfl:i=0:=hi
        rw [z7,zL,zU] at hse
        simp (disch:=omega) only [go_sem,Aa,hni,hg,hc,AH,eq_self,if_true]
        refine ⟨1,⟨1,rfl,hlt⟩,by omega,?_⟩
        simp (disch:=omega) only [go_sem,Aa,h10,if_false,hse]
      · have hi0:(i=0)=False:=by simp; omega
        have hi1:(i+1=0)=False:=by simp; omega
        have htl:((x.args.map (Tm.ap s.look)).take k).length=k:=by rw [zQ]; omega
        simp (disch:=omega) only [go_sem,Aa,hni,hg,hc,AH,hi0,if_false,htl]
        refine ⟨i+1,⟨k+1,by omega,hlt⟩,by omega,?_⟩
        simp (disch:=omega) only [go_sem,Aa,hni1,hi1,if_false,hse]
    · obtain rfl:k=x.args.length:=by omega
      have hta:(x.args.map (Tm.ap s.look)).take x.args.length=x.args.map (Tm.ap s.look):=by
        have:=zR (l:=x.args.map (Tm.ap s.look))
        rwa [zC] at this
      rcases zH x.args.length with h0 | h0
      · have hx:x.args=[]:=zE h0
        obtain rfl:i=0:=by omega
        simp (disch:=omega) only [go_sem,Aa,hni,hx,eq_self,if_true,zL,zY]
      · have hi0:(i=0)=False:=by simp; omega
        simp (disch:=omega) only [go_sem,Aa,hni,hi0,if_false,hta,hfu,her]
theorem Uj (s:Sb) (hs:s.fine) (ht:s.tame) (x:Tm) (hn:x.nodes≤1099511627776):E 111 [s.sv,x.sv] []=some ((x.ap s.look).sv,[]) :=
 Zt s hs ht x hn fun y hy=>Uj s hs ht y (by have:=Tm.AX hy; have:=Tm.An x; omega)
termination_by SizeOf.sizeOf x
decreasing_by exact Tm.Aw hy
theorem OQ (s:Sb) (hs:s.ok=true) (ht:s.tame) (x:Tm) (hn:x.nodes≤1099511627776):E 111 [s.sv,x.sv] []=some ((x.ap s.look).sv,[]):=Uj s (Sb.Vs hs) ht x hn
noncomputable def Tm.expr (x:Tm):Bool:=x.valid || x.atom
theorem Tm.RL {x:Tm} (h:x.expr=true):x.small=true:=by
 unfold Tm.expr Tm.atom Tm.valid at h
 cases hs:x.small with
 | true=>rfl
 | false =>
  rw [hs] at h
  split at h <;> simp at h
theorem Tm.Ar {x:Tm} (h:x.expr=true):x.nodes≤30:=by
 have:=Tm.RL h
 unfold Tm.small at this
 rw [zA,decide_eq_true_eq] at this
 exact this.1
theorem Tm.Qay {x:Tm} (h:x.eqn=true):Ao x.name=false:=by
 unfold Tm.eqn at h
 rw [As.1 h]
 kernel_rfl
theorem Tm.JA {x:Tm} (h:x.expr=true):x.names=true∨(x.eqn=true∧Tm.Ee x.args=true):=by
 unfold Tm.expr Tm.valid at h
 cases hn:x.names with
 | true=>exact .inl rfl
 | false =>
  rw [hn,zM,y5] at h
  unfold Tm.atom at h
  split at h
  ·rename_i he
   rw [zA] at h
   exact .inr ⟨he,h.2⟩
  ·unfold Tm.valid at h; rw [hn,zM,zM] at h; cases h
theorem Tm.Xh {x:Tm} (h:x.expr=true):Ao x.name=true→x.args=[]:=by
 intro hv
 rcases Tm.JA h with h1 | ⟨h1,h2⟩
 ·exact Tm.Ez h1 hv
 ·rw [Tm.Qay h1] at hv; cases hv
theorem Tm.IX {x:Tm} (h:x.expr=true) {y:Tm} (hy:y∈x.args):y.names=true:=by
 rcases Tm.JA h with h1 | ⟨h1,h2⟩
 ·exact Tm.DO h1 hy
 ·rw [Tm.Dl,zN] at h2; exact h2 y hy
theorem Tm.RN:∀ xs:List Tm,(∀ x∈xs,x.nodes≤1+x.bulk)→Tm.Bg xs≤xs.length+Tm.sumB xs
 | [],_=>by simp [Tm.Bg]
 | x :: xs,h=>by
  have h1:=h x (by simp)
  have h2:=Tm.RN xs fun y hy=>h y (by simp [hy])
  rw [Tm.Bg,Tm.sumB]; simp only [zP]; omega
theorem Tm.RO (x:Tm):x.nodes≤1+x.bulk:=by
 rw [Tm.An,Tm.bulk_eq]
 have:=Tm.RN x.args fun y hy=>Tm.RO y
 omega
termination_by SizeOf.sizeOf x
decreasing_by exact Tm.Aw hy
theorem Uk {s:ByteArray} (h:Ao s=true):s.size≤6:=by
 unfold Ao inB at h
 simp at h
 omega
theorem Ul {s:ByteArray} (h:EY s=true):s.size≤6:=by
 unfold EY inB at h
 simp at h
 omega
theorem Tm.MP:∀ xs:List Tm,(∀ x∈xs,x.bulk+1≤8*x.nodes)→xs.length+Tm.sumB xs≤8*Tm.Bg xs
 | [],_=>by simp [Tm.Bg,Tm.sumB]
 | x :: xs,h=>by
  have h1:=h x (by simp)
  have h2:=Tm.MP xs fun y hy=>h y (by simp [hy])
  rw [Tm.Bg,Tm.sumB]; simp only [zP]; omega
theorem Tm.RP (x:Tm) (h:x.names=true):x.bulk+1≤8*x.nodes:=by
 have h1:=Tm.MP x.args fun y hy=>Tm.RP y (Tm.DO h hy)
 have h2:x.name.size≤6:=by
  rw [Tm.EB] at h
  split at h
  ·rename_i hv; exact Uk hv
  ·rw [zA,zA] at h; exact Ul h.1.1
 rw [Tm.An,Tm.bulk_eq]
 omega
termination_by SizeOf.sizeOf x
decreasing_by exact Tm.Aw hy
theorem Qaz (x:Tm) (hn:x.nodes≤1099511627776):E 110 [x.sv] []=some (.bool x.expr,[]):=by
 have h1:=R6 x hn
 have h3:=R7 x hn
 unfold Tm.expr
 cases hv:x.valid with
 | true =>
  rw [hv] at h1
  rw [Bool.true_or]
  refine Ad N3 Fg (of_decide_eq_true rfl) ?_
  simp (disch:=omega) only [J5,go_sem,Aa,h1,Bh]
 | false =>
  rw [hv] at h1
  rw [y5]
  refine Ad N3 Fg (of_decide_eq_true rfl) ?_
  simp (disch:=omega) only [J5,go_sem,Aa,h1,h3,Bh,AV]
def C5:SC:=(.seq (.reg [⟨some 2,none,.boxv 76 1 (.t 0)⟩,⟨some 3,none,.boxv 71 2 (.t 1)⟩,⟨(some 4),none,(.alloc 71 [(.str ⟨#[]⟩),.nil])⟩,⟨some 5,none,.mv (.c (.bool false))⟩]) (.seq (.reg [⟨some 7,none,.load true 1 (.t 2)⟩,⟨some 8,none,.load true 2 (.t 3)⟩,⟨some 9,none,.call 126 [(.t 7),(.t 8)]⟩,⟨(some 6),none,(.alloc 71 [(.str ⟨#[]⟩),.nil])⟩,⟨none,none,(.store 2 (.t 6) (.t 9))⟩]) (.seq (.seq (.reg [⟨some 10,none,.load true 2 (.t 6)⟩,⟨some 11,none,.call 127 [(.t 10)]⟩,⟨some 12,none,.un .not (.t 11)⟩]) (.cond (.t 12) (.seq (.reg [⟨(some 13),none,(.build [(.str ⟨#[]⟩),.nil] [])⟩,⟨none,none,(.store 2 (.t 4) (.t 13))⟩,⟨some 5,none,.mv (.c (.bool false))⟩]) .ret) .skip)) (.seq (.reg [⟨some 14,none,.load true 2 (.t 6)⟩,⟨none,none,(.store 2 (.t 4) (.t 14))⟩,⟨some 5,none,.mv (.c (.bool true))⟩]) .ret))))
theorem DW:codeOf Tryz.prog 87=some ⟨15,C5,[(.cell 4 true 2),(.tmp 5)]⟩:=by kernel_rfl
theorem Ab:modes 87=⟨[],.late,none,false⟩:=by unfold modes; rfl
def B7:SC:=(.seq (.reg [⟨some 2,none,.boxv 76 1 (.t 0)⟩,⟨some 3,none,.boxv 71 2 (.t 1)⟩,⟨(some 4),none,(.alloc 71 [(.str ⟨#[]⟩),.nil])⟩,⟨some 5,none,.mv (.c (.bool false))⟩]) (.seq (.seq (.reg [⟨some 7,none,.load true 1 (.t 2)⟩,⟨some 8,none,.call 109 [(.t 7)]⟩,⟨some 9,none,.un .not (.t 8)⟩,⟨some 10,none,.mv (.t 9)⟩,⟨(some 11),(some (10,false)),(.load true 2 (.t 3))⟩,⟨(some 12),(some (10,false)),(.call 110 [(.t 11)])⟩,⟨(some 13),(some (10,false)),(.un .not (.t 12))⟩,⟨some 14,none,.pick (.t 10) (.c (.bool true)) (.t 13)⟩]) (.cond (.t 14) (.seq (.reg [⟨(some 15),none,(.build [(.str ⟨#[]⟩),.nil] [])⟩,⟨none,none,(.store 2 (.t 4) (.t 15))⟩,⟨some 5,none,.mv (.c (.bool false))⟩]) .ret) .skip)) (.seq (.reg [⟨some 16,none,.load true 1 (.t 2)⟩,⟨some 17,none,.load true 2 (.t 3)⟩,⟨some 18,none,.call 111 [(.t 16),(.t 17)]⟩,⟨(some 6),none,(.alloc 71 [(.str ⟨#[]⟩),.nil])⟩,⟨none,none,(.store 2 (.t 6) (.t 18))⟩]) (.seq (.seq (.reg [⟨some 19,none,.load true 2 (.t 6)⟩,⟨some 20,none,.call 110 [(.t 19)]⟩,⟨some 21,none,.un .not (.t 20)⟩]) (.cond (.t 21) (.seq (.reg [⟨(some 22),none,(.build [(.str ⟨#[]⟩),.nil] [])⟩,⟨none,none,(.store 2 (.t 4) (.t 22))⟩,⟨some 5,none,.mv (.c (.bool false))⟩]) .ret) .skip)) (.seq (.reg [⟨some 23,none,.load true 2 (.t 6)⟩,⟨none,none,(.store 2 (.t 4) (.t 23))⟩,⟨some 5,none,.mv (.c (.bool true))⟩]) .ret)))))
theorem Ck:codeOf Tryz.prog 76=some ⟨24,B7,[(.cell 4 true 2),(.tmp 5)]⟩:=by kernel_rfl
theorem Ac:modes 76=⟨[],.frz,none,false⟩:=by unfold modes; rfl
noncomputable def BU (s:Sb) (x:Tm):Bool:=s.ok&&(x.expr&&(x.ap s.look).small)
noncomputable def AL (s:Sb) (x:Tm):Tm:=if BU s x then x.ap s.look else .mk ⟨#[]⟩ []
theorem Vt {s:Sb} {x:Tm} (h:BU s x=false):AL s x=.mk ⟨#[]⟩ []:=by unfold AL; rw [if_neg (by rw [h]; simp)]
theorem En {s:Sb} {x:Tm} (h:BU s x=true):AL s x=x.ap s.look:=by unfold AL; rw [if_pos h]
theorem Vu:(Tm.mk ⟨#[]⟩ []).sv=.agg [.str ⟨#[]⟩,.arr []]:=rfl
theorem Um (s:Sb) (hs:s.ok=true) (ht:s.tame) (x:Tm) (hx:x.expr=true):E 126 [s.sv,x.sv] []=some ((x.ap s.look).osv,(x.ap s.look).obs):=by
 have hn:=Tm.Ar hx
 exact Xg s (Sb.Vs hs) ht x (Tm.Xh hx) (by omega) fun y hy=>Qax s hs ht y (Tm.IX hx hy) (by have:=Tm.AX hy; have:=Tm.An x; omega)
theorem BH (s:Sb) (hs:s.ok=true) (ht:s.tame) (x:Tm) (hx:x.expr=true) (ho:BU s x=true):E 87 [s.sv,x.sv] []=some (.tup [(AL s x).osv,.bool true],(AL s x).obs):=by
 have hn:=Tm.Ar hx
 have hk:=Tm.IW (Sb.Fn hs) x
 have h1:=Um s hs ht x hx
 have h2:=LH (x.ap s.look) (by omega)
 have hq:(x.ap s.look).small=true:=by unfold BU at ho; rw [zA,zA] at ho; exact ho.2.2
 rw [hq] at h2
 rw [En ho]
 refine Ad DW Ab (of_decide_eq_true rfl) ?_
 simp (disch:=omega) only [C5,go_sem,Aa,h1,h2,Tm.osv,Tm.obs,Bl,Av]
theorem Ch (s:Sb) (hs:s.ok=true) (ht:s.tame) (x:Tm) (hx:x.expr=true) (ho:BU s x=false):E 87 [s.sv,x.sv] []=some (.tup [.agg [.str ⟨#[]⟩,.nil],.bool false],[]):=by
 have hn:=Tm.Ar hx
 have hk:=Tm.IW (Sb.Fn hs) x
 have h1:=Um s hs ht x hx
 have h2:=LH (x.ap s.look) (by omega)
 have hq:(x.ap s.look).small=false:=by unfold BU at ho; rw [hs,hx,yH,yH] at ho; exact ho
 rw [hq] at h2
 refine Ad DW Ab (of_decide_eq_true rfl) ?_
 simp (disch:=omega) only [C5,go_sem,Aa,h1,h2,Tm.osv,Tm.obs,Bl,Av]
theorem AY (s:Sb) (ht:s.tame) (x:Tm) (hn:x.nodes≤1099511627776):E 76 [s.sv,x.sv] []=some (.tup [(AL s x).sv,.bool (BU s x)],[]):=by
  have h1:=NC s ht
  have h2:=Qaz x hn
  cases hs:s.ok with
  | false =>
    have ho:BU s x=false:=by unfold BU; rw [hs]; rfl
    rw [hs] at h1
    rw [Vt ho,ho,Vu]
    refine Ad Ck Ac (of_decide_eq_true rfl) ?_
    simp (disch:=omega) only [B7,go_sem,Aa,h1,Cj]
  | true =>
    rw [hs] at h1
    cases hx:x.expr with
    | false =>
      have ho:BU s x=false:=by unfold BU; rw [hx,yM,zM]
      rw [hx] at h2
      rw [Vt ho,ho,Vu]
      refine Ad Ck Ac (of_decide_eq_true rfl) ?_
      simp (disch:=omega) only [B7,go_sem,Aa,h1,h2,Cj,Fg]
    | true =>
      rw [hx] at h2
      have hn:=Tm.Ar hx
      have hk:=Tm.IW (Sb.Fn hs) x
      have h3:=OQ s hs ht x (by omega)
      have h4:=Qaz (x.ap s.look) (by omega)
      have h5:(x.ap s.look).expr=(x.ap s.look).small:=Tm.QcI (Sb.Fn hs) x hx
      rw [h5] at h4
      cases hq:(x.ap s.look).small with
      | true =>
        have ho:BU s x=true:=by unfold BU; rw [hs,hx,hq]; rfl
        rw [hq] at h4
        rw [En ho,ho]
        refine Ad Ck Ac (of_decide_eq_true rfl) ?_
        simp (disch:=omega) only [B7,go_sem,Aa,h1,h2,h3,h4,Cj,Fg,AH]
      | false =>
        have ho:BU s x=false:=by unfold BU; rw [hq,zM,zM]
        rw [hq] at h4
        rw [Vt ho,ho,Vu]
        refine Ad Ck Ac (of_decide_eq_true rfl) ?_
        simp (disch:=omega) only [B7,go_sem,Aa,h1,h2,h3,h4,Cj,Fg,AH]
theorem Tm.B0 {x:Tm} (h:x.atom=true):x.expr=true:=by unfold Tm.expr; rw [h,Bool.or_true]
theorem Tm.CH {x:Tm} (h:x.atom=true):x.nodes≤30:=Tm.Ar (Tm.B0 h)
def G5:SC:=(.seq (.reg [⟨some 1,none,.boxv 28 1 (.t 0)⟩,⟨some 2,none,.alloc 28 [.nil]⟩,⟨some 3,none,.mv (.c (.bool false))⟩]) (.seq (.seq (.reg [⟨some 4,none,.load true 1 (.t 1)⟩,⟨some 5,none,.call 54 [(.t 4)]⟩,⟨some 6,none,.un .not (.t 5)⟩]) (.cond (.t 6) (.seq (.reg [⟨some 7,none,.build [.nil] []⟩,⟨none,none,(.store 1 (.t 2) (.t 7))⟩,⟨some 3,none,.mv (.c (.bool false))⟩]) .ret) .skip)) (.seq (.reg [⟨some 8,none,.load true 1 (.t 1)⟩,⟨none,none,(.store 1 (.t 2) (.t 8))⟩,⟨some 3,none,.mv (.c (.bool true))⟩]) .ret)))
theorem JX:codeOf Tryz.prog 137=some ⟨9,G5,[(.cell 2 true 1),(.tmp 3)]⟩:=by kernel_rfl
theorem CQ:modes 137=⟨[true],.own [some (73,3),none],none,false⟩:=by unfold modes; rfl
def De:SC:=(.seq (.reg [⟨some 2,none,.boxv 76 1 (.t 0)⟩,⟨some 4,none,.alloc 28 [.nil]⟩,⟨some 5,none,.mv (.c (.bool false))⟩]) (.seq (.reg [⟨(some 11),none,(.mkrow 73 3 [(.bool false),(.str ⟨#[]⟩),.nil] 0 [])⟩,⟨some 6,none,.mv (.t 11)⟩]) (.seq (.seq (.reg [⟨some 12,none,.mv (.t 1)⟩,⟨some 13,none,.len false (.t 12)⟩,⟨some 14,none,.mv (.c (.int .i64 0))⟩]) (.block 0 (.loop [0,0,1,0,1,0,1,0,0,0,0,0,1,1,1,0,0,0,0,0,0,0,0,0,0,0,0,0,0,0,0,0,0,0,0,0,0,0,0,0,0] (.seq (.reg [⟨some 15,none,.bin .lss false (.t 14) (.t 13)⟩]) (.seq (.cond (.t 15) .skip (.exit 0)) (.seq (.block 1 (.seq (.reg [⟨some 16,none,.iaddr 3 (.t 12) (.t 14)⟩,⟨some 17,none,.load true 3 (.t 16)⟩,⟨(some 8),none,(.alloc 73 [(.bool false),(.str ⟨#[]⟩),.nil])⟩,⟨none,none,(.store 3 (.t 8) (.t 17))⟩]) (.seq (.reg [⟨some 19,none,.load true 1 (.t 2)⟩,⟨some 20,none,.faddr 1 (.t 8)⟩,⟨some 21,none,.load true 2 (.t 20)⟩,⟨some 22,none,.call 87 [(.t 19),(.t 21)]⟩,⟨some 18,none,.mv (.t 22)⟩,⟨some 23,none,.ext (.t 18) 0⟩,⟨some 24,none,.ext (.t 18) 1⟩,⟨(some 9),none,(.alloc 71 [(.str ⟨#[]⟩),.nil])⟩,⟨none,none,(.store 2 (.t 9) (.t 23))⟩,⟨some 10,none,.mv (.t 24)⟩]) (.seq (.seq (.reg [⟨some 25,none,.mv (.t 10)⟩,⟨some 26,none,.un .not (.t 25)⟩]) (.cond (.t 26) (.seq (.reg [⟨some 27,none,.build [.nil] []⟩,⟨none,none,(.store 1 (.t 4) (.t 27))⟩,⟨some 5,none,.mv (.c (.bool false))⟩]) .ret) .skip)) (.reg [⟨some 28,none,.mv (.t 6)⟩,⟨some 29,none,.faddr 0 (.t 8)⟩,⟨some 30,none,.load false 1 (.t 29)⟩,⟨some 31,none,.load true 2 (.t 9)⟩,⟨(some 32),none,(.build [(.bool false),(.str ⟨#[]⟩),.nil] [(0,(1,(.t 30))),(1,(2,(.t 31)))])⟩,⟨(some 33),none,(.mkrow 73 3 [(.bool false),(.str ⟨#[]⟩),.nil] 1 [(0,(.t 32))])⟩,⟨(some 34),none,(.append 73 3 48 [(.bool false),(.str ⟨#[]⟩),.nil] (.t 28) (.t 33))⟩,⟨some 6,none,.mv (.t 34)⟩]))))) (.reg [⟨some 35,none,.bin .add false (.t 14) (.c (.int .i64 1))⟩,⟨some 14,none,.mv (.t 35)⟩]))))))) (.seq (.reg [⟨some 36,none,.mv (.t 6)⟩,⟨some 37,none,.call 138 [(.t 36)]⟩,⟨some 38,none,.call 137 [(.t 37)]⟩,⟨some 39,none,.ext (.t 38) 0⟩,⟨some 40,none,.ext (.t 38) 1⟩,⟨none,none,(.store 1 (.t 4) (.t 39))⟩,⟨some 5,none,.mv (.t 40)⟩]) .ret))))
theorem F4:codeOf Tryz.prog 92=some ⟨41,De,[(.cell 4 true 1),(.tmp 5)]⟩:=by kernel_rfl
theorem Bw:modes 92=⟨[],.own [some (73,3),none],none,false⟩:=by unfold modes; rfl
def KR:SC:=(.seq (.reg [⟨some 2,none,.boxv 76 1 (.t 0)⟩,⟨some 4,none,.alloc 28 [.nil]⟩,⟨some 5,none,.mv (.c (.bool false))⟩]) (.seq (.reg [⟨(some 10),none,(.mkrow 73 3 [(.bool false),(.str ⟨#[]⟩),.nil] 0 [])⟩,⟨some 6,none,.mv (.t 10)⟩]) (.seq (.seq (.reg [⟨some 7,none,.mv (.c (.int .i64 0))⟩]) (.block 0 (.loop [0,1,1,0,1,0,1,1,0,0,0,0,0,0,0,0,0,0,0,0,0,0,0,0,0,0,0,0,0,0,0,0,0,0,0,0,0,0,0,0,0,0,0,0,0] (.seq (.seq (.reg [⟨some 11,none,.mv (.t 7)⟩,⟨some 12,none,.mv (.t 1)⟩,⟨some 13,none,.len false (.t 12)⟩,⟨some 14,none,.bin .lss false (.t 11) (.t 13)⟩]) (.cond (.t 14) .skip (.exit 0))) (.seq (.block 1 (.seq (.dreg [[],[],[],[1,2],[3,1,2],[4,3,1,2],[0,5,4,3,1,2],[],[7,6,0,5,4,3,1,2]] [⟨some 17,none,.load true 1 (.t 2)⟩,⟨some 18,none,.mv (.t 1)⟩,⟨some 19,none,.mv (.t 7)⟩,⟨some 20,none,.iaddr 3 (.t 18) (.t 19)⟩,⟨some 21,none,.faddr 1 (.t 20)⟩,⟨some 22,none,.load true 2 (.t 21)⟩,⟨some 23,none,.call 111 [(.t 17),(.t 22)]⟩,⟨(some 8),none,(.alloc 71 [(.str ⟨#[]⟩),.nil])⟩,⟨none,none,(.store 2 (.t 8) (.t 23))⟩]) (.seq (.seq (.reg [⟨some 24,none,.load true 2 (.t 8)⟩,⟨some 25,none,.call 72 [(.t 24)]⟩,⟨some 26,none,.un .not (.t 25)⟩]) (.cond (.t 26) (.seq (.reg [⟨some 27,none,.build [.nil] []⟩,⟨none,none,(.store 1 (.t 4) (.t 27))⟩,⟨some 5,none,.mv (.c (.bool false))⟩]) .ret) .skip)) (.dreg [[],[],[],[1,2],[3,1,2],[4,3,1,2],[],[5,4,3,1,2,6],[7,5,4,3,1,2,6],[0,8,7,5,4,3,1,2,6],[9,0,8,7,5,4,3,1,2,6]] [⟨some 28,none,.mv (.t 6)⟩,⟨some 29,none,.mv (.t 1)⟩,⟨some 30,none,.mv (.t 7)⟩,⟨some 31,none,.iaddr 3 (.t 29) (.t 30)⟩,⟨some 32,none,.faddr 0 (.t 31)⟩,⟨some 33,none,.load false 1 (.t 32)⟩,⟨some 34,none,.load true 2 (.t 8)⟩,⟨(some 35),none,(.build [(.bool false),(.str ⟨#[]⟩),.nil] [(0,(1,(.t 33))),(1,(2,(.t 34)))])⟩,⟨(some 36),none,(.mkrow 73 3 [(.bool false),(.str ⟨#[]⟩),.nil] 1 [(0,(.t 35))])⟩,⟨(some 37),none,(.append 73 3 48 [(.bool false),(.str ⟨#[]⟩),.nil] (.t 28) (.t 36))⟩,⟨some 6,none,.mv (.t 37)⟩])))) (.reg [⟨some 15,none,.mv (.t 7)⟩,⟨some 16,none,.bin .add false (.t 15) (.c (.int .i64 1))⟩,⟨some 7,none,.mv (.t 16)⟩])))))) (.seq (.reg [⟨some 38,none,.mv (.t 6)⟩,⟨some 39,none,.call 117 [(.t 38)]⟩,⟨some 9,none,.alloc 28 [.nil]⟩,⟨none,none,(.store 1 (.t 9) (.t 39))⟩]) (.seq (.seq (.reg [⟨some 40,none,.load true 1 (.t 9)⟩,⟨some 41,none,.call 47 [(.t 40)]⟩,⟨some 42,none,.un .not (.t 41)⟩]) (.cond (.t 42) (.seq (.reg [⟨some 43,none,.build [.nil] []⟩,⟨none,none,(.store 1 (.t 4) (.t 43))⟩,⟨some 5,none,.mv (.c (.bool false))⟩]) .ret) .skip)) (.seq (.reg [⟨some 44,none,.load true 1 (.t 9)⟩,⟨none,none,(.store 1 (.t 4) (.t 44))⟩,⟨some 5,none,.mv (.c (.bool true))⟩]) .ret))))))
theorem RQ:codeOf Tryz.prog 79=some ⟨45,KR,[(.cell 4 true 1),(.tmp 5)]⟩:=by kernel_rfl
theorem Fp:modes 79=⟨[],.frz,none,false⟩:=by unfold modes; rfl
theorem Vv (c:Cl) (hn:c.tame) (hv:c.ok=true):E 137 [c.osv] c.obs=some (.tup [c.osv,.bool true],c.obs):=by
 have h:=G4 c hn
 rw [hv] at h
 refine Ad JX CQ (of_decide_eq_true rfl) ?_
 simp (disch:=omega) only [G5,go_sem,Aa,h,Cq,Lt.erss,Lt.noss,Lt.fus]
theorem Xi (c:Cl) (hn:c.tame) (hv:c.ok=false):E 137 [c.osv] c.obs=some (.tup [.agg [.ref 1],.bool false],[.row 73 3 (c.lits.map Lt.o),.row 73 3 []]):=by
 have h:=G4 c hn
 rw [hv] at h
 refine Ad JX CQ (of_decide_eq_true rfl) ?_
 simp (disch:=omega) only [G5,go_sem,Aa,h,Cq,Lt.erss,Lt.noss,Lt.fus]
theorem OR {s:ByteArray} (h:EY s=true):Ao s=false:=by
 unfold EY inB at h
 rw [zA,zA,zA,decide_eq_true_eq,decide_eq_true_eq] at h
 have hs:0<s.size:=by omega
 have h1:=Ht h.1.1 hs
 unfold K5 at h1
 simp at h1
 have h2:=h1.1
 have hu:Rb (JP s 0)=false:=by
  unfold UK at h2
  unfold Rb
  simp at h2 ⊢
  omega
 rw [Bool.eq_false_iff]
 intro hv
 unfold Ao at hv
 rw [zA] at hv
 have h1:=Ht hv.1 hs
 unfold JQ at h1
 rw [hu] at h1
 simp at h1
theorem Tm.Qa0 {f:ByteArray→Option Tm} (hf:okF f) (x:Tm) (hx:x.atom=true):(x.ap f).atom=(x.ap f).small:=by
  unfold Tm.atom at hx
  rcases he:x.eqn with _ | _
  · rw [he,if_neg (by simp),zA] at hx
    have hnv:¬ (Ao x.name=true):=by rw [OR hx.1]; simp
    have e:x.ap f=.mk x.name (Tm.apL f x.args):=by rw [Tm.HX,if_neg hnv]
    have he2:¬ (x.ap f).eqn=true:=by rw [e]; show ¬ x.eqn=true; rw [he]; simp
    have hn:x.names=true:=by
      have:=hx.2
      unfold Tm.valid at this
      rw [zA] at this
      exact this.2
    have h3:=Tm.KP hf x hn
    unfold Tm.atom
    rw [if_neg he2]
    unfold Tm.valid
    rw [h3,yK]
    have hname:(x.ap f).name=x.name:=by rw [e]; rfl
    rw [hname,hx.1,yH]
  · rw [he,if_pos rfl,zA,zA] at hx
    have hnv:¬ (Ao x.name=true):=by rw [Tm.Qay he]; simp
    have e:x.ap f=.mk x.name (Tm.apL f x.args):=by rw [Tm.HX,if_neg hnv]
    have he2:(x.ap f).eqn=true:=by rw [e]; exact he
    unfold Tm.atom
    rw [if_pos he2]
    have h1:((x.ap f).args.length == 2)=true:=by
      rw [e]
      show ((Tm.apL f x.args).length == 2)=true
      rw [Tm.Qp]; exact hx.1.1
    have h2:Tm.Ee (x.ap f).args=true:=by
      rw [e]
      exact Tm.NF f x.args fun y hy=>Tm.KP hf y (by
        have:=hx.2
        rw [Tm.Dl,zN] at this
        exact this y hy)
    rw [h1,h2,yH,yK]
noncomputable def Lt.ap (s:Sb) (x:Lt):Lt:=⟨x.pos,x.atom.ap s.look⟩
noncomputable def RR (s:Sb) (l:List Lt):Bool:=l.all fun x=>(x.atom.ap s.look).small
noncomputable def E4 (s:Sb) (l:List Lt):Bool:=RR s l&&(mkC (l.map (Lt.ap s))).ok
noncomputable def apC (s:Sb) (l:List Lt):Cl:=if E4 s l then mkC (l.map (Lt.ap s)) else ⟨[]⟩
theorem OS {s:Sb} {l:List Lt} (h:E4 s l=false):apC s l=⟨[]⟩:=by unfold apC; rw [if_neg (by rw [h]; simp)]
theorem Vw {s:Sb} {l:List Lt} (h:E4 s l=true):apC s l=mkC (l.map (Lt.ap s)):=by unfold apC; rw [if_pos h]
theorem Lt.Qa1 {s : Sb} (hs : s.ok=true) {x:Lt} (hx:x.atom.atom=true) (hq:(x.atom.ap s.look).small=true):(x.ap s).fine:=by
  have ha:(x.atom.ap s.look).atom=true:=by rw [Tm.Qa0 (Sb.Fn hs) _ hx]; exact hq
  exact ⟨Tm.Hu ha,by
                            have:(Lt.ap s x).atom.nodes≤30:=Tm.CH ha
                            omega⟩
theorem Xj {l:List Lt} (hl:l.length≤1048576) (hf:∀ x∈l,x.fine):(mkC l).tame:=by
 have:=Qas l
 exact ⟨by omega,fun y hy=>(hf y ((Qo l y).1 hy)).2⟩
theorem Un:(Cl.mk []).osv=.agg [.ref 0]:=rfl
theorem Uo:(Cl.mk []).obs=[.row 73 3 []]:=rfl
theorem Xk:(Cl.mk []).sv=.agg [.arr []]:=rfl
theorem Tg (s:Sb) (hs:s.ok=true) (ht:s.tame) (l:List Lt) (hl:l.length≤1048576) (hal:∀ x∈l,x.atom.atom=true):E 92 [s.sv,.arr (l.map Lt.d)] []=some (.tup [(apC s l).osv,.bool (E4 s l)],(apC s l).obs):=by
  have her:OT.erss (l.map (fun x:Lt=>(Lt.ap s x).d.map D.ot))=(l.map (Lt.ap s)).map Lt.d:=by
    have:=Lt.der (l.map (Lt.ap s))
    rw [yN] at this
    exact this
  have hfu:OT.AP (l.map (fun x:Lt=>(Lt.ap s x).d.map D.ot))=true:=by
    have:=Lt.dfu (l.map (Lt.ap s))
    rw [yN] at this
    exact this
  refine Ad F4 Bw (of_decide_eq_true rfl) ?_
  simp (disch:=omega) only [De,go_sem,Aa]
  refine go_loop (α:=Int) (fun a=>⟨slots 41 0 [(2,.ptr 0 0),(4,.ptr 1 0),(6,.ref 2),(12,.arr (l.map Lt.d)),(13,.int .i64 l.length),(14,.int .i64 a)],[.box 76 [.arr (s.binds.map Bd.d)],.box 28 [.nil],.row 73 3 ((l.take a.toNat).map (fun x:Lt=>(Lt.ap s x).d.map D.ot))]⟩) (fun a=>∃ k:Nat,a=k∧k≤(l).length∧∀ x∈l.take k,(x.atom.ap s.look).small=true) (fun a=>(l).length-(a).toNat) 0 ⟨0,rfl,zF _,fun x hx=>by simp at hx⟩ (by simp (disch:=omega) only [go_sem,Aa,yD]) ?_
  rintro i ⟨k,hi,hk,hR⟩
  have hni:i.toNat=k:=by omega
  have hni1:(i+1).toNat=k+1:=by omega
  rcases zB k (l).length with hlt | hge
  · have hg:=get_at Lt.d hlt
    rw [Lt.d_eq] at hg
    have hat:=hal l[k] (zD hlt)
    have hex:=Tm.B0 hat
    have hsn:=DD (fun x:Lt=>(Lt.ap s x).d.map D.ot) hlt
    have hs1:[[OT.bool l[k].pos,.str (l[k].atom.ap s.look).name,.sh ((l[k].atom.ap s.look).args.map Tm.d)]]=[(fun x:Lt=>(Lt.ap s x).d.map D.ot) l[k]]:=by simp only [Lt.d_eq]; rfl
    have htl:(l.take k).length=k:=by rw [zQ]; omega
    cases hq:(l[k].atom.ap s.look).small with
    | true =>
      have ha:=BH s hs ht l[k].atom hex (by unfold BU; rw [hs,hex,hq]; rfl)
      rw [En (by unfold BU; rw [hs,hex,hq]; rfl)] at ha
      simp (disch:=omega) only [go_sem,Aa,hni,hg,ha,htl,Ab,CP,CQ]
      refine ⟨i+1,⟨k+1,by omega,hlt,fun x hx=>?_⟩,by omega,?_⟩
      · rcases yV.1 (by rw [yG hlt] at hx; exact hx) with hx | hx
        · exact hR x hx
        · rw [yX.1 hx]; exact hq
      · simp (disch:=omega) only [go_sem,Aa,hni1,hs1,hsn,and_self]
    | false =>
      have ha:=Ch s hs ht l[k].atom hex (by unfold BU; rw [hq,zM,zM])
      have hno:E4 s l=false:=by
        unfold E4 RR
        rw [show (l.all fun x=>(x.atom.ap s.look).small)=false from ?_,yM]
        rw [List.all_eq_false]
        exact ⟨l[k],zD hlt,by rw [hq]; simp⟩
      rw [OS hno,hno,Un,Uo]
      simp (disch:=omega) only [go_sem,Aa,hni,hg,ha,Ab,CP,CQ]
  · obtain rfl:k=l.length:=by omega
    have htk:l.take l.length=l:=zR
    rw [htk] at hR
    have hal2:RR s l=true:=by unfold RR; rw [zN]; exact hR
    have hfine:∀ x∈l.map (Lt.ap s),x.fine:=fun x hx=>by
      obtain ⟨y,hy,rfl⟩:=yJ.1 hx
      exact Lt.Qa1 hs (hal y hy) (hR y hy)
    have hlen:(l.map (Lt.ap s)).length≤1048576:=by rw [zC]; exact hl
    have hc:=RC (l.map (Lt.ap s)) hlen hfine
    have htm:=Xj hlen hfine
    cases hv:(mkC (l.map (Lt.ap s))).ok with
    | true =>
      have hok:E4 s l=true:=by unfold E4; rw [hal2,hv]; rfl
      have hi2:=Vv _ htm hv
      rw [Vw hok,hok]
      simp (disch:=omega) only [go_sem,Aa,hni,htk,hc,hi2,her,hfu,Lt.noss,Ab,CP,CQ]
    | false =>
      have hok:E4 s l=false:=by unfold E4; rw [hv,zM]
      have hi2:=Xi _ htm hv
      rw [OS hok,hok,Un,Uo]
      simp (disch:=omega) only [go_sem,Aa,hni,htk,hc,hi2,her,hfu,Lt.noss,Ab,CP,CQ]
theorem Tm.FN {x:Tm} (h:x.atom=true):(Ao x.name=true→x.args=[])∧∀ y∈x.args,y.names=true:=by
 unfold Tm.atom at h
 cases he:x.eqn with
 | true =>
  rw [he,if_pos rfl,zA,zA] at h
  have h2:=h.2
  rw [Tm.Dl,zN] at h2
  refine ⟨fun hv=>?_,h2⟩
  have hn:=As.1 he
  have hnv0:Ao ⟨#[61]⟩=false:=by kernel_rfl
  rw [hn,hnv0] at hv
  cases hv
 | false =>
  rw [he,if_neg (by simp),zA] at h
  have hnm:x.names=true:=by have h3:=h.2; unfold Tm.valid at h3; rw [zA] at h3; exact h3.2
  exact ⟨fun hv=>Tm.Ez hnm hv,fun y hy=>Tm.DO hnm hy⟩
mutual
noncomputable def Tm.vs:Tm→List ByteArray
 | .mk name args=>bif Ao name then [name] else Tm.vsL args
noncomputable def Tm.vsL:List Tm→List ByteArray
 | []=>[]
 | x :: xs=>Tm.vs x++Tm.vsL xs
end
theorem Tm.F9 (x:Tm):x.vs=bif Ao x.name then [x.name] else Tm.vsL x.args:=by
 obtain ⟨n,a⟩:=x
 rw [Tm.vs]; rfl
theorem Tm.vsL_mem {v:ByteArray}:∀ {xs:List Tm},v∈Tm.vsL xs ↔ ∃ x∈xs,v∈x.vs
 | []=>by simp [Tm.vsL]
 | x :: xs=>by rw [Tm.vsL,yV,Tm.vsL_mem (xs:=xs)]; simp
theorem Tm.Qa2:∀ xs:List Tm,(∀ x∈xs,x.vs.length≤x.nodes)→(Tm.vsL xs).length≤Tm.Bg xs
 | [],_=>by simp [Tm.vsL]
 | x :: xs,h=>by
  have h1:=h x (by simp)
  have h2:=Tm.Qa2 xs fun y hy=>h y (by simp [hy])
  rw [Tm.vsL,Tm.Bg,zV]; omega
theorem Tm.vs_len (x:Tm):x.vs.length≤x.nodes:=by
 have h:=Tm.Qa2 x.args fun y hy=>Tm.vs_len y
 rw [Tm.F9,Tm.An]
 cases Ao x.name with
 | true=>simp
 | false=>simp only [cond_false]; omega
termination_by SizeOf.sizeOf x
decreasing_by exact Tm.Aw hy
noncomputable def LS (l:List ByteArray) (n:ByteArray):List ByteArray:=bif dec (n∈l) then l else l++[n]
theorem QcJ (l:List ByteArray) (n:ByteArray):(LS l n).length≤l.length+1:=by
 unfold LS
 cases dec (n∈l) <;> simp
theorem QcK {l:List ByteArray} {n m:ByteArray}:m∈LS l n ↔ m∈l∨m=n:=by
 unfold LS
 by_cases h:n∈l
 ·rw [Ay h,cond_true]
  exact ⟨.inl,fun h'=>h'.elim id fun e=>e▸h⟩
 ·rw [A8 h,cond_false]
  simp
theorem Zu {l:List ByteArray} {n:ByteArray} (h:l.Nodup):(LS l n).Nodup:=by
 unfold LS
 by_cases k:n∈l
 ·rw [Ay k]; exact h
 ·rw [A8 k,cond_false,List.nodup_append]
  exact ⟨h,by simp,fun a ha b hb e=>by simp at hb; subst hb; subst e; exact k ha⟩
noncomputable def C1 (l ns:List ByteArray):List ByteArray:=ns.foldl LS l
theorem IY:∀ (ns l:List ByteArray),(C1 l ns).length≤l.length+ns.length
 | [],l=>by simp [C1]
 | n :: ns,l=>by
  have h:=IY ns (LS l n)
  have h2:=QcJ l n
  simp only [C1,z8,zP] at h ⊢
  omega
theorem Xl:∀ {ns l:List ByteArray} {m:ByteArray},m∈C1 l ns ↔ m∈l∨m∈ns
 | [],l,m=>by simp [C1]
 | n :: ns,l,m=>by
  have h:=Xl (ns:=ns) (l:=LS l n) (m:=m)
  simp only [C1,z8] at h ⊢
  rw [h,QcK]
  simp only [yL]
  exact or_assoc
theorem RS:∀ {ns l:List ByteArray},l.Nodup→(C1 l ns).Nodup
 | [],l,h=>h
 | n :: ns,l,h=>RS (ns:=ns) (Zu h)
theorem NG (l a b:List ByteArray):C1 l (a++b)=C1 (C1 l a) b:=y4
def DE:SC:=(.seq (.reg [⟨some 4,none,.mv (.c (.int .i64 0))⟩]) (.seq (.seq (.reg [⟨some 6,none,.mv (.t 0)⟩,⟨some 7,none,.len false (.t 6)⟩,⟨some 8,none,.mv (.c (.int .i64 0))⟩]) (.block 0 (.loop [1,1,0,0,0,0,0,1,1,0,0,0,0,0,0,0,0,0,0] (.seq (.reg [⟨some 9,none,.bin .lss false (.t 8) (.t 7)⟩]) (.seq (.cond (.t 9) .skip (.exit 0)) (.seq (.block 1 (.seq (.reg [⟨some 10,none,.mv (.t 8)⟩,⟨some 5,none,.mv (.t 10)⟩]) (.seq (.reg [⟨some 11,none,.mv (.t 1)⟩,⟨some 12,none,.mv (.t 0)⟩,⟨some 13,none,.mv (.t 5)⟩,⟨some 14,none,.iaddr 1 (.t 12) (.t 13)⟩,⟨some 15,none,.load false 1 (.t 14)⟩,⟨some 16,none,.bin .eql false (.t 11) (.t 15)⟩]) (.cond (.t 16) (.seq (.reg [⟨some 17,none,.mv (.t 5)⟩,⟨some 4,none,.mv (.t 17)⟩]) .ret) .skip)))) (.reg [⟨some 18,none,.bin .add false (.t 8) (.c (.int .i64 1))⟩,⟨some 8,none,.mv (.t 18)⟩]))))))) (.seq (.reg [⟨some 4,none,.mv (.c (.int .i64 (-(0+1))))⟩]) .ret)))
theorem G6:codeOf Tryz.prog 179=some ⟨19,DE,[(.tmp 4)]⟩:=by kernel_rfl
theorem DF:modes 179=⟨[],.asis,none,false⟩:=by unfold modes; rfl
def Dg:SC:=(.seq (.reg [⟨some 4,none,.mv (.c (.bool false))⟩]) (.seq (.reg [⟨some 5,none,.mv (.t 0)⟩,⟨some 6,none,.mv (.t 1)⟩,⟨some 7,none,.call 179 [(.t 5),(.t 6)]⟩,⟨some 8,none,.bin .geq false (.t 7) (.c (.int .i64 0))⟩,⟨some 4,none,.mv (.t 8)⟩]) .ret))
theorem F5:codeOf Tryz.prog 157=some ⟨9,Dg,[(.tmp 4)]⟩:=by kernel_rfl
theorem Ca:modes 157=⟨[],.asis,none,false⟩:=by unfold modes; rfl
theorem QcL (xs:List ByteArray) (n:ByteArray) (hl:xs.length≤1099511627776):E 179 [.arr (xs.map fun s=>[D.str s]),.str n] []=some (.int .i64 (F3 (fun s=>dec (n=s)) xs 0),[]):=by
 refine Ad G6 DF (of_decide_eq_true rfl) ?_
 simp (disch:=omega) only [DE,go_sem,Aa]
 refine go_loop (α:=Int) (fun a=>⟨slots 19 0 [(0,.arr (xs.map fun s=>[D.str s])),(1,.str n),(7,.int .i64 xs.length),(8,.int .i64 a)],[]⟩) (fun a=>∃ k:Nat,a=k∧k≤(xs).length∧F3 (fun s=>dec (n=s)) (xs.drop k) a=F3 (fun s=>dec (n=s)) xs 0) (fun a=>(xs).length-(a).toNat) 0 ⟨0,rfl,zF _,by rw [zJ]⟩ (by simp (disch:=omega) only [go_sem,Aa]) ?_
 rintro i ⟨k,hi,hk,hR⟩
 have hni:i.toNat=k:=by omega
 have hni1:(i+1).toNat=k+1:=by omega
 rcases zB k (xs).length with hlt | hge
 ·have hg:=get_at (fun s=>[D.str s]) hlt
  rw [zG hlt,F3] at hR
  cases hp:dec (n=xs[k]) with
  | true =>
   rw [hp] at hR
   simp (disch:=omega) only [go_sem,Aa,hni,hg,hp]
   simpa using hR
  | false =>
   rw [hp] at hR
   simp (disch:=omega) only [go_sem,Aa,hni,hg,hp]
   exact ⟨i+1,⟨k+1,by omega,hlt,by simpa using hR⟩,by omega,by first | trivial | rfl⟩
 ·rw [zI hge,F3] at hR
  simp (disch:=omega) only [go_sem,Aa,hni]
  exact hR
theorem Xm (xs:List ByteArray) (n:ByteArray) (hl:xs.length≤1099511627776):E 157 [.arr (xs.map fun s=>[D.str s]),.str n] []=some (.bool (dec (n∈xs)),[]):=by
 have h:=QcL xs n hl
 have e:dec (n∈xs)=dec (0≤F3 (fun s=>dec (n=s)) xs 0):=by
  rw [R2]
  by_cases hm:n∈xs
  ·rw [Ay hm]
   exact (List.any_eq_true.2 ⟨n,hm,Ay rfl⟩).symm
  ·rw [A8 hm]
   refine Eq.symm (Bool.eq_false_iff.2 fun h=>?_)
   obtain ⟨x,h1,h2⟩:=List.any_eq_true.1 h
   have e:=As.1 h2
   subst e
   exact hm h1
 rw [e]
 refine Ad F5 Ca (of_decide_eq_true rfl) ?_
 simp (disch:=omega) only [Dg,go_sem,Aa,h,DF]
theorem OU:∀ (ns l:List ByteArray),l.length≤(C1 l ns).length
 | [],l=>by simp [C1]
 | n :: ns,l=>by
  have h:=OU ns (LS l n)
  have h2:l.length≤(LS l n).length:=by unfold LS; cases dec (n∈l) <;> simp
  simp only [C1,z8] at h ⊢
  omega
def Eo:SC:=(.seq (.reg [⟨some 3,none,.boxv 71 2 (.t 1)⟩,⟨some 4,none,.mv (.c .nil)⟩]) (.seq (.seq (.reg [⟨some 7,none,.faddr 1 (.t 3)⟩,⟨some 8,none,.load false 1 (.t 7)⟩,⟨some 9,none,.len false (.t 8)⟩,⟨some 10,none,.bin .eql false (.t 9) (.c (.int .i64 0))⟩,⟨some 11,none,.mv (.t 10)⟩,⟨(some 12),(some (11,true)),(.load true 2 (.t 3))⟩,⟨(some 13),(some (11,true)),(.call 89 [(.t 12)])⟩,⟨some 14,none,.pick (.t 11) (.t 13) (.c (.bool false))⟩]) (.cond (.t 14) (.seq (.seq (.reg [⟨some 15,none,.mv (.t 0)⟩,⟨some 16,none,.faddr 0 (.t 3)⟩,⟨some 17,none,.load false 1 (.t 16)⟩,⟨some 18,none,.call 157 [(.t 15),(.t 17)]⟩,⟨some 19,none,.un .not (.t 18)⟩]) (.cond (.t 19) (.reg [⟨some 20,none,.mv (.t 0)⟩,⟨some 21,none,.faddr 0 (.t 3)⟩,⟨some 22,none,.load false 1 (.t 21)⟩,⟨(some 23),none,(.mkrow 9 1 [(.str ⟨#[]⟩)] 1 [(0,(.t 22))])⟩,⟨(some 24),none,(.append 9 1 16 [(.str ⟨#[]⟩)] (.t 20) (.t 23))⟩,⟨some 0,none,.mv (.t 24)⟩]) .skip)) (.seq (.reg [⟨some 25,none,.mv (.t 0)⟩,⟨some 4,none,.mv (.t 25)⟩]) .ret)) .skip)) (.seq (.seq (.reg [⟨some 26,none,.faddr 1 (.t 3)⟩,⟨some 27,none,.load false 1 (.t 26)⟩,⟨some 28,none,.len false (.t 27)⟩,⟨some 29,none,.mv (.c (.int .i64 0))⟩]) (.block 0 (.loop [1,0,0,0,0,0,0,0,0,0,0,0,0,0,0,0,0,0,0,0,0,0,0,0,0,0,0,1,1,1,0,0,0,0,0,0,0,0] (.seq (.reg [⟨some 30,none,.bin .lss false (.t 29) (.t 28)⟩]) (.seq (.cond (.t 30) .skip (.exit 0)) (.seq (.block 1 (.seq (.reg [⟨some 31,none,.iaddr 2 (.t 27) (.t 29)⟩,⟨some 32,none,.load true 2 (.t 31)⟩,⟨(some 6),none,(.alloc 71 [(.str ⟨#[]⟩),.nil])⟩,⟨none,none,(.store 2 (.t 6) (.t 32))⟩]) (.reg [⟨some 33,none,.mv (.t 0)⟩,⟨some 34,none,.load true 2 (.t 6)⟩,⟨some 35,none,.call 124 [(.t 33),(.t 34)]⟩,⟨some 0,none,.mv (.t 35)⟩]))) (.reg [⟨some 36,none,.bin .add false (.t 29) (.c (.int .i64 1))⟩,⟨some 29,none,.mv (.t 36)⟩]))))))) (.seq (.reg [⟨some 37,none,.mv (.t 0)⟩,⟨some 4,none,.mv (.t 37)⟩]) .ret))))
theorem Fq:codeOf Tryz.prog 124=some ⟨38,Eo,[(.tmp 4)]⟩:=by kernel_rfl
theorem Dm:modes 124=⟨[true],.asis,none,false⟩:=by unfold modes; rfl
abbrev Qed (x:Tm):Prop:=∀ l:List ByteArray,l.length+x.nodes≤1048576→E 124 [.ref 0,x.sv] [.row 9 1 (l.map fun s=>[OT.str s])]=some ((bif dec (l.length<(C1 l x.vs).length) then .ref 1 else .ref 0),(bif dec (l.length<(C1 l x.vs).length) then [.gone,.row 9 1 ((C1 l x.vs).map fun s=>[OT.str s])] else [.row 9 1 ((C1 l x.vs).map fun s=>[OT.str s])]))
theorem RT (x:Tm) (hva:Ao x.name=true→x.args=[]) (hc:x.cok=true) (ih:∀ y∈x.args,Qed y):Qed x:=by
  intro l hn
  have hl:=Tm.length_le x.args
  have hne:=Tm.An x
  have hv:=Di x hc
  have hvs:=Tm.F9 x
  rcases zH x.args.length with h0 | h0
  · have hx0:x.args=[]:=zE h0
    have hz:((x.args.length:Int)=0)=True:=by rw [hx0]; simp
    cases hvv:Ao x.name with
    | true =>
      rw [hvv] at hv hvs
      have h1:=Xm l x.name (by omega)
      rw [hvs]
      cases hm:dec (x.name∈l) with
      | true =>
        have e:C1 l [x.name]=l:=by simp only [C1,z8,y9,LS,hm,cond_true]
        rw [hm] at h1
        simp only [cond_true,e]
        refine Ad Fq Dm (of_decide_eq_true rfl) ?_
        simp (disch:=omega) only [Eo,go_sem,Aa,hz,hv,h1,Ak,Ca]
      | false =>
        have e:C1 l [x.name]=l++[x.name]:=by simp only [C1,z8,y9,LS,hm,cond_false]
        have hg:l.length<(l++[x.name]).length:=by simp
        rw [hm] at h1
        simp only [cond_true,e,Ay hg]
        refine Ad Fq Dm (of_decide_eq_true rfl) ?_
        simp (disch:=omega) only [Eo,go_sem,Aa,hz,hv,h1,Ak,Ca]
        simp only [yF,zK,zL]
    | false =>
      rw [hvv] at hv hvs
      have e:C1 l x.vs=l:=by rw [hvs,hx0]; simp only [cond_false,Tm.vsL]; rfl
      rw [e]
      refine Ad Fq Dm (of_decide_eq_true rfl) ?_
      simp (disch:=omega) only [Eo,go_sem,Aa,hz,hv,Ak]
      refine go_loop (α:=Int) (fun a=>⟨slots 38 0 [(0,.ref 0),(27,.arr (x.args.map Tm.d)),(28,.int .i64 x.args.length),(29,.int .i64 a)],[.row 9 1 (l.map fun s=>[OT.str s])]⟩) (fun a=>∃ k:Nat,a=k∧k≤(x.args).length) (fun a=>(x.args).length-(a).toNat) 0 ⟨0,rfl,zF _⟩ (by simp (disch:=omega) only [go_sem,Aa]) ?_
      rintro i ⟨k,hi,hk⟩
      have hni:i.toNat=k:=by omega
      have hni1:(i+1).toNat=k+1:=by omega
      rcases zB k (x.args).length with hlt | hge
      · omega
      · simp (disch:=omega) only [go_sem,Aa,hni]
  · have hz:((x.args.length:Int)=0)=False:=eq_false (by omega)
    have hvv:Ao x.name=false:=by
      cases h:Ao x.name with
      | false=>rfl
      | true=>rw [hva h] at h0; simp at h0
    rw [hvv] at hvs
    simp only [cond_false] at hvs
    rw [hvs]
    refine Ad Fq Dm (of_decide_eq_true rfl) ?_
    simp (disch:=omega) only [Eo,go_sem,Aa,hz]
    refine go_loop (α:=Int × (List ByteArray)) (fun a=>⟨slots 38 0 [(0,(bif dec (l.length<(a.2).length) then .ref 1 else .ref 0)),(27,.arr (x.args.map Tm.d)),(28,.int .i64 x.args.length),(29,.int .i64 (a.1))],(bif dec (l.length<(a.2).length) then [.gone,.row 9 1 ((a.2).map fun s=>[OT.str s])] else [.row 9 1 ((a.2).map fun s=>[OT.str s])])⟩) (fun a=>∃ k:Nat,a.1=k∧k≤(x.args).length∧C1 (a.2) (Tm.vsL (x.args.drop k))=C1 l (Tm.vsL x.args)∧(a.2).length+Tm.Bg (x.args.drop k)≤1048576∧l.length≤(a.2).length) (fun a=>(x.args).length-(a.1).toNat) (0,l) ⟨0,rfl,zF _,by rw [zJ],by rw [zJ]; dsimp only; omega,zO _⟩ (by simp (disch:=omega) only [go_sem,Aa]) ?_
    rintro ⟨i,acc⟩ ⟨k,hi,hk,hR⟩
    dsimp only at hi hR
    have hni:i.toNat=k:=by omega
    have hni1:(i+1).toNat=k+1:=by omega
    rcases zB k (x.args).length with hlt | hge
    · have hg:=get_at Tm.d hlt
      rw [Tm.d_eq] at hg
      obtain ⟨hR1,hR2,hR3⟩:=hR
      rw [zG hlt,Tm.vsL,NG] at hR1
      rw [zG hlt,Tm.Bg] at hR2
      have hc:=ih x.args[k] (zD hlt) acc (by omega)
      have hlen:=IY x.args[k].vs acc
      have hgr:=OU x.args[k].vs acc
      have hvl:=Tm.vs_len x.args[k]
      obtain ⟨acc2,ha2⟩:∃ a,a=C1 acc x.args[k].vs:=⟨_,rfl⟩
      rw [←ha2] at hc hlen hgr hR1
      rcases zB l.length acc.length with q1 | q1 <;> rcases zB acc.length acc2.length with q2 | q2
      all_goals
        first
          | rw [Ay q2] at hc
          | rw [A8 (Nat.not_lt.2 q2)] at hc
        simp only [cond_true,cond_false] at hc
        simp (disch:=omega) only [go_sem,Aa,hni,hg,hc,Dm]
        refine ⟨(i+1,acc2),⟨k+1,by dsimp only; omega,hlt,hR1,by dsimp only; omega,by dsimp only; omega⟩,by dsimp only; omega,?_⟩
        first | done | simp (disch:=omega) only [go_sem,Aa]
    · rw [zI hge,Tm.vsL] at hR
      obtain ⟨hR1,hR2,hR3⟩:=hR
      have hR1:acc=C1 l (Tm.vsL x.args):=hR1
      rw [←hR1]
      rcases zB l.length acc.length with q1 | q1
      · simp (disch:=omega) only [go_sem,Aa,hni]
      · simp (disch:=omega) only [go_sem,Aa,hni]
theorem Up (x:Tm) (hx:x.names=true) (hc:x.cok=true):Qed x :=
 RT x (fun h=>Tm.Ez hx h) hc fun y hy=>Up y (Tm.DO hx hy) (by rw [Tm.K8,zA] at hc; exact Tm.Hl hc.2 hy)
termination_by SizeOf.sizeOf x
decreasing_by exact Tm.Aw hy
theorem Zv (x:Tm) (h:x.atom=true):Qed x :=
 RT x (Tm.FN h).1 (Tm.Hu h) fun y hy=>Up y ((Tm.FN h).2 y hy) (Tm.IR y ((Tm.FN h).2 y hy))
noncomputable def Lt.vsL:List Lt→List ByteArray
 | []=>[]
 | x :: xs=>x.atom.vs++Lt.vsL xs
theorem Cl.ok_len {x:Cl} (h:x.ok=true):x.lits.length≤8:=by
 unfold Cl.ok at h
 rw [zA,decide_eq_true_eq] at h
 exact h.1
theorem Cl.JB {x:Cl} (h:x.ok=true) {k:Nat} (hk:k<x.lits.length):x.lits[k].atom.atom=true:=by
 unfold Cl.ok at h
 rw [zA,decide_eq_true_eq] at h
 exact OO h.2 hk hk
theorem Cl.BR {x:Cl} (h:x.ok=true):∀ y∈x.lits,y.atom.atom=true:=fun y hy=>by
 obtain ⟨k,hk,rfl⟩:=zX hy
 exact Cl.JB h hk
theorem Cl.vs_len {c:Cl} (hc:c.ok=true):(Lt.vsL c.lits).length≤240:=by
 have hl:=Cl.ok_len hc
 have key:∀ xs:List Lt,(∀ x∈xs,x.atom.nodes≤30)→(Lt.vsL xs).length≤30*xs.length:=by
  intro xs
  induction xs with
  | nil=>intro _; exact zO _
  | cons x xs ih =>
   intro h
   have h1:=h x (by simp)
   have h2:=ih fun y hy=>h y (by simp [hy])
   have h3:=Tm.vs_len x.atom
   rw [Lt.vsL,zV,zP]; omega
 have:=key c.lits fun x hx=>by
  obtain ⟨k,hk,rfl⟩:=zX hx
  exact Tm.CH (Cl.JB hc hk)
 omega
def KS:SC:=(.seq (.reg [⟨some 1,none,.boxv 28 1 (.t 0)⟩,⟨some 2,none,.mv (.c .nil)⟩]) (.seq (.reg [⟨(some 6),none,(.mkrow 9 1 [(.str ⟨#[]⟩)] 0 [])⟩,⟨some 3,none,.mv (.t 6)⟩]) (.seq (.seq (.reg [⟨some 7,none,.faddr 0 (.t 1)⟩,⟨some 8,none,.load false 1 (.t 7)⟩,⟨some 9,none,.len false (.t 8)⟩,⟨some 10,none,.mv (.c (.int .i64 0))⟩]) (.block 0 (.loop [0,0,0,1,0,0,0,0,1,1,1,0,0,0,0,0,0,0,0,0] (.seq (.reg [⟨some 11,none,.bin .lss false (.t 10) (.t 9)⟩]) (.seq (.cond (.t 11) .skip (.exit 0)) (.seq (.block 1 (.seq (.reg [⟨some 12,none,.iaddr 3 (.t 8) (.t 10)⟩,⟨some 13,none,.load true 3 (.t 12)⟩,⟨(some 5),none,(.alloc 73 [(.bool false),(.str ⟨#[]⟩),.nil])⟩,⟨none,none,(.store 3 (.t 5) (.t 13))⟩]) (.reg [⟨some 14,none,.mv (.t 3)⟩,⟨some 15,none,.faddr 1 (.t 5)⟩,⟨some 16,none,.load true 2 (.t 15)⟩,⟨some 17,none,.call 124 [(.t 14),(.t 16)]⟩,⟨some 3,none,.mv (.t 17)⟩]))) (.reg [⟨some 18,none,.bin .add false (.t 10) (.c (.int .i64 1))⟩,⟨some 10,none,.mv (.t 18)⟩]))))))) (.seq (.reg [⟨some 19,none,.mv (.t 3)⟩,⟨some 2,none,.mv (.t 19)⟩]) .ret))))
theorem RU:codeOf Tryz.prog 84=some ⟨20,KS,[(.tmp 2)]⟩:=by kernel_rfl
theorem Dn:modes 84=⟨[],.asis,none,false⟩:=by unfold modes; rfl
theorem OV (c:Cl) (hc:c.ok=true):E 84 [c.sv] []=some (.ref 0,[.row 9 1 ((C1 [] (Lt.vsL c.lits)).map fun s=>[OT.str s])]):=by
  have hl:=Cl.ok_len hc
  refine Ad RU Dn (of_decide_eq_true rfl) ?_
  simp (disch:=omega) only [KS,go_sem,Aa]
  refine go_loop (α:=Int × (List ByteArray)) (fun a=>⟨slots 20 0 [(3,.ref 0),(8,.arr (c.lits.map Lt.d)),(9,.int .i64 c.lits.length),(10,.int .i64 (a.1))],[.row 9 1 ((a.2).map fun s=>[OT.str s])]⟩) (fun a=>∃ k:Nat,a.1=k∧k≤(c.lits).length∧C1 (a.2) (Lt.vsL (c.lits.drop k))=C1 [] (Lt.vsL c.lits)∧(a.2).length≤30*k) (fun a=>(c.lits).length-(a.1).toNat) (0,[]) ⟨0,rfl,zF _,by rw [zJ],zO _⟩ (by simp (disch:=omega) only [go_sem,Aa]) ?_
  rintro ⟨i,acc⟩ ⟨k,hi,hk,hR⟩
  dsimp only at hi hR
  have hni:i.toNat=k:=by omega
  have hni1:(i+1).toNat=k+1:=by omega
  rcases zB k (c.lits).length with hlt | hge
  · have hg:=get_at Lt.d hlt
    rw [Lt.d_eq] at hg
    obtain ⟨hR1,hR2⟩:=hR
    rw [zG hlt,Lt.vsL,NG] at hR1
    have hnn:=Tm.CH (Cl.JB hc hlt)
    have hcl:=Zv c.lits[k].atom (Cl.JB hc hlt) acc (by omega)
    have has:c.lits[k].atom.sv=.agg [.str c.lits[k].atom.name,.arr (c.lits[k].atom.args.map Tm.d)]:=rfl
    have hlen:=IY c.lits[k].atom.vs acc
    have hvl:=Tm.vs_len c.lits[k].atom
    obtain ⟨acc2,ha2⟩:∃ a,a=C1 acc c.lits[k].atom.vs:=⟨_,rfl⟩
    rw [←ha2] at hcl hlen hR1
    rcases zB acc.length acc2.length with q2 | q2
    all_goals
      first
        | rw [Ay q2] at hcl
        | rw [A8 (Nat.not_lt.2 q2)] at hcl
      simp only [cond_true,cond_false] at hcl
      simp (disch:=omega) only [go_sem,Aa,hni,hg,has,hcl,Dm]
      refine ⟨(i+1,acc2),⟨k+1,by dsimp only; omega,hlt,hR1,by dsimp only; omega⟩,by dsimp only; omega,?_⟩
      first | trivial | rfl | exact ⟨rfl,rfl⟩
  · rw [zI hge,Lt.vsL] at hR
    obtain ⟨hR1,hR2⟩:=hR
    have hR1:acc=_:=hR1
    rw [←hR1]
    simp (disch:=omega) only [go_sem,Aa,hni]
theorem Qbz (s:Sb) (hs:s.ok=true) (ht:s.tame) (l:List Lt) (hl:l.length≤1048576) (hal:∀ x∈l,x.atom.atom=true):E 79 [s.sv,.arr (l.map Lt.d)] []=some (.tup [(apC s l).sv,.bool (E4 s l)],[]):=by
  have her:OT.erss (l.map (fun x:Lt=>(Lt.ap s x).d.map D.ot))=(l.map (Lt.ap s)).map Lt.d:=by
    have:=Lt.der (l.map (Lt.ap s))
    rw [yN] at this
    exact this
  have hfu:OT.AP (l.map (fun x:Lt=>(Lt.ap s x).d.map D.ot))=true:=by
    have:=Lt.dfu (l.map (Lt.ap s))
    rw [yN] at this
    exact this
  refine Ad RQ Fp (of_decide_eq_true rfl) ?_
  simp (disch:=omega) only [KR,go_sem,Aa]
  refine go_loop (α:=Int) (fun a=>⟨slots 45 0 [(1,.arr (l.map Lt.d)),(2,.ptr 0 0),(4,.ptr 1 0),(6,.ref 2),(7,.int .i64 a)],[.box 76 [.arr (s.binds.map Bd.d)],.box 28 [.nil],.row 73 3 ((l.take a.toNat).map (fun x:Lt=>(Lt.ap s x).d.map D.ot))]⟩) (fun a=>∃ k:Nat,a=k∧k≤(l).length∧∀ x∈l.take k,(x.atom.ap s.look).small=true) (fun a=>(l).length-(a).toNat) 0 ⟨0,rfl,zF _,fun x hx=>by simp at hx⟩ (by simp (disch:=omega) only [go_sem,Aa,yD]) ?_
  rintro i ⟨k,hi,hk,hR⟩
  have hni:i.toNat=k:=by omega
  have hni1:(i+1).toNat=k+1:=by omega
  rcases zB k (l).length with hlt | hge
  · have hg:=get_at Lt.d hlt
    rw [Lt.d_eq] at hg
    have hat:=hal l[k] (zD hlt)
    have hsn:=DD (fun x:Lt=>(Lt.ap s x).d.map D.ot) hlt
    have hs1:[[OT.bool l[k].pos,.str (l[k].atom.ap s.look).name,.sh ((l[k].atom.ap s.look).args.map Tm.d)]]=[(fun x:Lt=>(Lt.ap s x).d.map D.ot) l[k]]:=by simp only [Lt.d_eq]; rfl
    have htl:(l.take k).length=k:=by rw [zQ]; omega
    have hnd:=Tm.CH hat
    have ha:=OQ s hs ht l[k].atom (by omega)
    have hap:=Tm.IW (Sb.Fn hs) l[k].atom
    have hb:=R7 (l[k].atom.ap s.look) (by omega)
    rw [Tm.Qa0 (Sb.Fn hs) _ hat] at hb
    cases hq:(l[k].atom.ap s.look).small with
    | true =>
      rw [hq] at hb
      simp (disch:=omega) only [go_sem,Aa,hni,hg,ha,hb,htl,AH,AV,CZ,B6]
      refine ⟨i+1,⟨k+1,by omega,hlt,fun x hx=>?_⟩,by omega,?_⟩
      · rcases yV.1 (by rw [yG hlt] at hx; exact hx) with hx | hx
        · exact hR x hx
        · rw [yX.1 hx]; exact hq
      · simp (disch:=omega) only [go_sem,Aa,hni1,hs1,hsn,and_self]
    | false =>
      rw [hq] at hb
      have hno:E4 s l=false:=by
        unfold E4 RR
        rw [show (l.all fun x=>(x.atom.ap s.look).small)=false from ?_,yM]
        rw [List.all_eq_false]
        exact ⟨l[k],zD hlt,by rw [hq]; simp⟩
      rw [OS hno,hno,Xk]
      simp (disch:=omega) only [go_sem,Aa,hni,hg,ha,hb,AH,AV,CZ,B6]
  · obtain rfl:k=l.length:=by omega
    have htk:l.take l.length=l:=zR
    rw [htk] at hR
    have hal2:RR s l=true:=by unfold RR; rw [zN]; exact hR
    have hfine:∀ x∈l.map (Lt.ap s),x.fine:=fun x hx=>by
      obtain ⟨y,hy,rfl⟩:=yJ.1 hx
      exact Lt.Qa1 hs (hal y hy) (hR y hy)
    have hlen:(l.map (Lt.ap s)).length≤1048576:=by rw [zC]; exact hl
    have hc:=RF (l.map (Lt.ap s)) hlen hfine
    have hgd:=RA (mkC (l.map (Lt.ap s))) (Xj hlen hfine)
    cases hv:(mkC (l.map (Lt.ap s))).ok with
    | true =>
      have hok:E4 s l=true:=by unfold E4; rw [hal2,hv]; rfl
      rw [hv] at hgd
      rw [Vw hok,hok]
      simp (disch:=omega) only [go_sem,Aa,hni,htk,hc,hgd,her,hfu,AH,AV,CZ,B6]
    | false =>
      have hok:E4 s l=false:=by unfold E4; rw [hv,zM]
      rw [hv] at hgd
      rw [OS hok,hok,Xk]
      simp (disch:=omega) only [go_sem,Aa,hni,htk,hc,hgd,her,hfu,AH,AV,CZ,B6]
abbrev SEnv:=ByteArray→Option ByteArray
def EX (e:SEnv):MF
  | .str s=>match e s with
    | some n=>some (false,[.str n])
    | none=>none
  | .int _=>none
theorem LI (e:SEnv) (s:ByteArray):EX e (.str s)=match e s with | some n=>some (false,[.str n]) | none=>none:=rfl
noncomputable def Qb0 (e:SEnv) (s n:ByteArray):SEnv:=fun q=>bif dec (q=s) then some n else e q
theorem Uq (e:SEnv) (s n:ByteArray):Oo (EX e) (.str s) (false,[.str n])=EX (Qb0 e s n):=by
 funext k
 cases k with
 | int i=>rw [Jq (fun h=>by cases h)]; rfl
 | str q =>
  rw [QJ,LI,LI]
  unfold Qb0
  cases dec (q=s) <;> rfl
theorem Zw:EX (fun _=>none)=nomap:=by
 funext k
 cases k <;> rfl
mutual
noncomputable def Tm.rn (e:SEnv):Tm→Tm
 | .mk n args=>.mk (bif args.isEmpty then (e n).getD n else n) (Tm.rnL e args)
noncomputable def Tm.rnL (e:SEnv):List Tm→List Tm
 | []=>[]
 | x :: xs=>Tm.rn e x :: Tm.rnL e xs
end
theorem Tm.Qa3 (e:SEnv):∀ xs:List Tm,Tm.rnL e xs=xs.map (Tm.rn e)
 | []=>by rw [Tm.rnL]; rfl
 | x :: xs=>by rw [Tm.rnL,Tm.Qa3 e xs]; rfl
theorem Tm.RV (e:SEnv) (x:Tm):x.rn e=.mk (bif x.args.isEmpty then (e x.name).getD x.name else x.name) (x.args.map (Tm.rn e)):=by
 obtain ⟨n,args⟩:=x
 rw [Tm.rn,Tm.Qa3]; rfl
theorem Tm.Xn (e:SEnv) (x:Tm):(x.rn e).nodes=x.nodes:=by
 have key:∀ xs:List Tm,(∀ y∈xs,(y.rn e).nodes=y.nodes)→Tm.Bg (xs.map (Tm.rn e))=Tm.Bg xs:=by
  intro xs
  induction xs with
  | nil=>intro _; rfl
  | cons y ys ih =>
   intro h
   rw [zK,Tm.Bg,Tm.Bg,h y (by simp),ih fun z hz=>h z (by simp [hz])]
 rw [Tm.RV,Tm.An,Tm.An]
 show 1+Tm.Bg (x.args.map (Tm.rn e))=_
 rw [key x.args fun y hy=>Tm.Xn e y]
termination_by SizeOf.sizeOf x
decreasing_by exact Tm.Aw hy
theorem Zx {n:Int} (h0:0≤n) (h:n<10):Fc n=⟨#[UInt8.ofNat (48+n.toNat)]⟩:=by
 obtain ⟨u,rfl⟩:∃ u:Nat,n=u:=⟨n.toNat,by omega⟩
 unfold Fc
 rw [Lib.itoa_nonneg,Lib.decDigits,dif_pos (by omega)]
 rfl
theorem QcM {n:Int} (h:10≤n):Fc n=Fc (n.tdiv 10)++⟨#[UInt8.ofNat (48+(n.tmod 10).toNat)]⟩:=by
 obtain ⟨u,rfl⟩:∃ u:Nat,n=u:=⟨n.toNat,by omega⟩
 have e1:(u:Int).tdiv 10=((u / 10:Nat):Int):=by rw [zW (by omega)]; rfl
 have e2:((u:Int).tmod 10).toNat=u % 10:=by rw [yY (by omega)]; omega
 rw [e1,e2]
 unfold Fc
 rw [Lib.itoa_nonneg,Lib.itoa_nonneg,Lib.decDigits,dif_neg (by omega)]
 have key:∀ (x:List UInt8) (y:UInt8),(⟨(x++[y]).toArray⟩:ByteArray)=⟨x.toArray⟩++⟨#[y]⟩:=fun x y=>by
  have e:∀ a b:ByteArray,a.data=b.data→a=b:=fun a b h=>by cases a; cases b; cases h; rfl
  apply e
  simp
 exact key _ _
def pre (p:ByteArray) (n:Int):ByteArray:=p++Fc n
theorem Fs:modes 85=⟨[],.asis,some (LR TY),false⟩:=by unfold modes; rfl
theorem QcN (n:Int) (h0:0≤n) (h1:n≤1099511627776):E 85 [.int .i64 n] []=some (.str (Fc n),[]) :=
 Ua (g:=TY) (congrArg FM.ext Fs) (by simp only [TY,Ay (⟨h0,h1⟩:0≤n∧n≤1099511627776),cond_true])
noncomputable def Cl.ns (c:Cl):List ByteArray:=C1 [] (Lt.vsL c.lits)
def LT:ByteArray:=⟨#[88]⟩
def Gp:ByteArray:=⟨#[89]⟩
theorem Cl.MQ {c:Cl} (h:c.ok=true):c.ns.length≤240:=by
 have h1:=IY (Lt.vsL c.lits) []
 have h2:=Cl.vs_len h
 unfold Cl.ns
 simp only [zY] at h1
 omega
theorem Cl.ns_nodup (c:Cl):c.ns.Nodup:=RS List.nodup_nil
theorem Lt.vsL_mem {v:ByteArray}:∀ {xs:List Lt},v∈Lt.vsL xs ↔ ∃ x∈xs,v∈x.atom.vs
 | []=>by simp [Lt.vsL]
 | x :: xs=>by rw [Lt.vsL,yV,Lt.vsL_mem (xs:=xs)]; simp
theorem Cl.QcO {c:Cl} {v:ByteArray}:v∈c.ns ↔ ∃ x∈c.lits,v∈x.atom.vs:=by
 unfold Cl.ns
 rw [Xl,Lt.vsL_mem]
 simp
noncomputable def Do (p:ByteArray) (l:List ByteArray):SEnv:=l.zipIdx.foldl (fun e x=>Qb0 e x.1 (pre p (x.2:Nat))) fun _=>none
theorem LJ (p:ByteArray) {l:List ByteArray} {k:Nat} (h:k<l.length):Do p (l.take (k+1))=Qb0 (Do p (l.take k)) l[k] (pre p (k:Nat)):=by
 unfold Do
 rw [←List.take_append_getElem h,List.zipIdx_append,y4]
 have e:(l.take k).length=k:=by rw [zQ]; omega
 simp only [List.zipIdx_cons,List.zipIdx_nil,z8,y9,e,Nat.zero_add]
theorem Qa4 (p:ByteArray) {l:List ByteArray} (hn:l.Nodup):∀ (n k:Nat) (hk:k<l.length),n≤l.length→k<n→Do p (l.take n) l[k]=some (pre p (k:Nat))
  | 0,k,hk,_,h=>absurd h (by omega)
  | n + 1,k,hk,hl,h=>by
    rw [LJ p (by omega:n<l.length)]
    unfold Qb0
    by_cases e:k=n
    · subst e
      rw [Ay rfl,cond_true]
    · have hne:l[k]≠l[n]:=fun he=>e ((List.getElem_inj hn).1 he)
      rw [A8 hne,cond_false]
      exact Qa4 p hn n k hk (by omega) (by omega)
theorem RW (p:ByteArray) {l:List ByteArray} (hn:l.Nodup) {k:Nat} (hk:k<l.length):Do p l l[k]=some (pre p (k:Nat)):=by
 have h:=Qa4 p hn l.length k hk (zO _) hk
 rw [zR] at h
 exact h
theorem Xo (p:ByteArray) {l:List ByteArray} {q:ByteArray} (hq:q ∉ l):∀ n,n≤l.length→Do p (l.take n) q=none
 | 0,_=>by rw [z7]; rfl
 | n+1,h=>by
  rw [LJ p (by omega:n<l.length)]
  unfold Qb0
  rw [A8 (show ¬ q=l[n] from fun e=>hq (by rw [e]; exact zD _)),cond_false]
  exact Xo p hq n (by omega)
theorem OW (p:ByteArray) {l:List ByteArray} {q:ByteArray} (hq:q ∉ l):Do p l q=none:=by
 have h:=Xo p hq l.length (zO _)
 rw [zR] at h
 exact h
def NH (e:SEnv):Prop:=∀ s n,e s=some n→Ao s=true∧Ao n=true
theorem QcP:∀ i:_root_.Fin 300,Ao (pre LT (i.val:Nat))=true:=by decide +kernel
theorem QcQ:∀ i:_root_.Fin 300,Ao (pre Gp (i.val:Nat))=true:=by decide +kernel
theorem Ur {p:ByteArray} (hp:∀ i:_root_.Fin 300,Ao (pre p (i.val:Nat))=true) {l:List ByteArray} (hn:l.Nodup) (hl:l.length≤240) (hv:∀ s∈l,Ao s=true):NH (Do p l):=fun s n h=>by
 by_cases hs:s∈l
 ·obtain ⟨k,hk,rfl⟩:=zX hs
  rw [RW p hn hk] at h
  obtain rfl:=yP h
  exact ⟨hv _ hs,hp ⟨k,by omega⟩⟩
 ·rw [OW p hs] at h
  cases h
theorem Tm.QcR {v:ByteArray}:∀ x:Tm,v∈x.vs→Ao v=true
 | .mk n a=>fun h=>by
  rw [Tm.vs] at h
  cases hv:Ao n with
  | true =>
   rw [hv,cond_true,yX] at h
   subst h; exact hv
  | false =>
   rw [hv,cond_false,Tm.vsL_mem] at h
   obtain ⟨y,hy,h⟩:=h
   exact Tm.QcR y h
termination_by x=>SizeOf.sizeOf x
decreasing_by exact Tm.Aw (x:=.mk n a) hy
theorem Cl.Zy {c:Cl} {s:ByteArray} (h:s∈c.ns):Ao s=true:=by
 obtain ⟨x,_,h⟩:=Cl.QcO.1 h
 exact Tm.QcR _ h
theorem Tm.Mm (e:SEnv) (x:Tm):(x.rn e).name=(bif x.args.isEmpty then (e x.name).getD x.name else x.name)∧(x.rn e).args=x.args.map (Tm.rn e):=by
 rw [Tm.RV]; exact ⟨rfl,rfl⟩
theorem Us {e:SEnv} {xs:List Tm} (h:∀ y∈xs,(y.rn e).names=true):Tm.Ee (xs.map (Tm.rn e))=true:=by
 rw [Tm.Dl,zN]
 intro z hz
 obtain ⟨y,hy,rfl⟩:=yJ.1 hz
 exact h y hy
theorem Tm.JC {e:SEnv} (he:NH e) (x:Tm) (hv:Ao x.name=false):(x.rn e).name=x.name:=by
 rw [(Tm.Mm e x).1]
 cases hx:e x.name with
 | none=>cases x.args.isEmpty <;> rfl
 | some n =>
  have:=(he _ _ hx).1
  rw [hv] at this; cases this
theorem Tm.RY {e:SEnv} (he:NH e) (x:Tm) (h:x.names=true):(x.rn e).names=true:=by
 have h1:=Tm.Mm e x
 rw [Tm.EB] at h ⊢
 rw [h1.2,zC]
 cases hv:Ao x.name with
 | true =>
  rw [hv,if_pos rfl] at h
  have h0:x.args=[]:=zE (by simpa using h)
  have hn:Ao (x.rn e).name=true:=by
   rw [h1.1,h0]
   show Ao ((e x.name).getD x.name)=true
   cases hx:e x.name with
   | none=>exact hv
   | some n=>exact (he _ _ hx).2
  rw [hn,if_pos rfl]
  exact h
 | false =>
  rw [hv,if_neg (by simp)] at h
  rw [Tm.JC he x hv,hv,if_neg (by simp)]
  rw [zA] at h ⊢
  refine ⟨h.1,Us fun y hy=>Tm.RY he y ?_⟩
  have h2:=h.2
  rw [Tm.Dl,zN] at h2
  exact h2 y hy
termination_by SizeOf.sizeOf x
decreasing_by exact Tm.Aw hy
theorem Tm.Qa5 (e:SEnv) (x:Tm):(x.rn e).deep=x.deep:=by
 have key:∀ xs:List Tm,(∀ y∈xs,(y.rn e).deep=y.deep)→Tm.E3 (xs.map (Tm.rn e))=Tm.E3 xs:=by
  intro xs
  induction xs with
  | nil=>intro _; rfl
  | cons y ys ih =>
   intro h
   rw [zK,Tm.E3,Tm.E3,h y (by simp),ih fun z hz=>h z (by simp [hz])]
 rw [Tm.RV,Tm.LE,Tm.LE]
 show Tm.E3 (x.args.map (Tm.rn e))+1=_
 rw [key x.args fun y hy=>Tm.Qa5 e y]
termination_by SizeOf.sizeOf x
decreasing_by exact Tm.Aw hy
theorem Tm.Xp (e:SEnv) (x:Tm):(x.rn e).small=x.small:=by
 unfold Tm.small
 rw [Tm.Xn,Tm.Qa5]
theorem Tm.Qee {e:SEnv} (he:NH e) (x:Tm) (h:x.atom=true):(x.rn e).atom=true:=by
 have hv:Ao x.name=false:=by
  unfold Tm.atom at h
  split at h
  ·rename_i hq
   have:x.name=⟨#[61]⟩:=As.1 hq
   rw [this]; decide +kernel
  ·rw [zA] at h
   exact OR h.1
 have hn:=Tm.JC he x hv
 have hq:(x.rn e).eqn=x.eqn:=by unfold Tm.eqn; rw [hn]
 unfold Tm.atom at h ⊢
 rw [hq,hn,Tm.Xp,(Tm.Mm e x).2,zC]
 split at h
 ·rename_i hb
  rw [if_pos hb]
  rw [zA] at h ⊢
  refine ⟨h.1,Us fun y hy=>Tm.RY he y ?_⟩
  have h2:=h.2
  rw [Tm.Dl,zN] at h2
  exact h2 y hy
 ·rename_i hb
  rw [if_neg hb]
  rw [zA] at h ⊢
  refine ⟨h.1,?_⟩
  have h2:=h.2
  unfold Tm.valid at h2 ⊢
  rw [zA] at h2 ⊢
  exact ⟨by rw [Tm.Xp]; exact h2.1,Tm.RY he x h2.2⟩
noncomputable def Lt.rn (e:SEnv) (x:Lt):Lt:=⟨x.pos,x.atom.rn e⟩
noncomputable def Cl.rn (e:SEnv) (c:Cl):Cl:=mkC (c.lits.map (Lt.rn e))
theorem OX {x:Lt} (h:x.atom.atom=true):x.fine:=⟨Tm.Hu h,by have:=Tm.CH h; omega⟩
theorem OY {xs:List Lt}:∀ {k:Nat},GN xs k=true→k≤xs.length→∀ (j:Nat) (h:j+1<k) (hl:j+1<xs.length),(xs[j]'(by omega)).cmp xs[j+1]<0
  | 0,_,_,j,h,_=>absurd h (by omega)
  | k + 1,hk,hle,j,h,hl=>by
    rw [GN,zA] at hk
    rcases zB (j+1) k with h1 | h1
    · exact OY hk.1 (by omega) j h1 hl
    · obtain rfl:k=j+1:=by omega
      have h2:=hk.2
      rw [Ex hl,zA,decide_eq_true_eq] at h2
      exact h2.2
theorem Xq {xs:List Lt} (h:GN xs xs.length=true):CS xs:=by
 unfold CS
 rw [yO]
 intro i j hi hj hij
 obtain ⟨d,rfl⟩:∃ d,j=i+1+d:=⟨j-(i+1),by omega⟩
 clear hij
 induction d with
 | zero=>exact OY h (zO _) i hj hj
 | succ d ih =>
  have h1:=ih (by omega)
  have h2:=OY h (zO _) (i+1+d) hj hj
  exact (Lt.cmp_ord _ _ _).trans h1 h2
theorem Xr {xs:List Lt} (h2:∀ x∈xs,x.atom.atom=true) (h3:CS xs):GN xs xs.length=true:=by
  have key:∀ k,k≤xs.length→GN xs k=true:=by
    intro k
    induction k with
    | zero=>intro _; rfl
    | succ k ih =>
      intro hk
      rw [GN,ih (by omega),yH]
      cases k with
      | zero=>rw [GV (by omega)]; exact h2 _ (zD _)
      | succ k =>
        rw [Ex (by omega),h2 _ (zD _),yH,decide_eq_true_eq]
        exact yO.1 h3 k (k+1) (by omega) (by omega) (by omega)
  exact key _ (zO _)
theorem Cl.Ut {c:Cl} (h:c.ok=true):CS c.lits:=by
 unfold Cl.ok at h
 rw [zA] at h
 exact Xq h.2
theorem Cl.Qft {l:List Lt} (h1:l.length≤8) (h2:∀ x∈l,x.atom.atom=true) (h3:CS l):(Cl.mk l).ok=true:=by
 unfold Cl.ok
 rw [zA,decide_eq_true_eq]
 exact ⟨h1,Xr h2 h3⟩
theorem QeU {l:List Lt} (h1:l.length≤8) (h2:∀ x∈l,x.atom.atom=true):(mkC l).ok=true :=
 Cl.Qft (Nat.le_trans (Qas l) h1) (fun x hx=>h2 x ((Qo l x).1 hx)) (MO l)
theorem Xs {l:List Lt} (h:CS l):mkC l=⟨l⟩:=by
 have:(mkC l).lits=l:=J0 (MO l) h fun z=>Qo l z
 exact congrArg Cl.mk this
theorem Lt.RZ {e:SEnv} (he:NH e) {l:List Lt} (h:∀ x∈l,x.atom.atom=true):∀ x∈l.map (Lt.rn e),x.atom.atom=true:=fun z hz=>by
 obtain ⟨x,hx,rfl⟩:=yJ.1 hz
 exact Tm.Qee he _ (h x hx)
theorem Cl.Qa6 {e:SEnv} (he:NH e) {c:Cl} (h:c.ok=true):(c.rn e).ok=true :=
 QeU (by rw [zC]; exact Cl.ok_len h) (Lt.RZ he (Cl.BR h))
theorem Cl.xE {c:Cl} (h:c.ok=true):NH (Do LT c.ns):=Ur QcP c.ns_nodup (Cl.MQ h) fun s=>Cl.Zy
theorem Cl.yE {c:Cl} (h:c.ok=true):NH (Do Gp c.ns):=Ur QcQ c.ns_nodup (Cl.MQ h) fun s=>Cl.Zy
def NI (l:List ByteArray):Prop:=∀ (i:Nat) (h:i<l.length),l[i]=pre LT (i:Nat)
noncomputable def Cl.norm (c:Cl):Bool:=dec (NI c.ns)
noncomputable def nz:Nat→Cl→Cl
 | 0,c=>c
 | n+1,c=>bif c.norm then c else nz n (c.rn (Do LT c.ns))
theorem Qa7:∀ (n:Nat) {c:Cl},c.ok=true→(nz n c).ok=true
 | 0,c,h=>h
 | n+1,c,h=>by
  rw [nz]
  cases c.norm with
  | true=>exact h
  | false=>exact Qa7 n (Cl.Qa6 (Cl.xE h) h)
def Ft:SC:=(.seq (.reg [⟨some 2,none,.boxv 71 2 (.t 0)⟩,⟨(some 4),none,(.alloc 71 [(.str ⟨#[]⟩),.nil])⟩]) (.seq (.reg [⟨some 10,none,.faddr 0 (.t 2)⟩,⟨some 11,none,.load false 1 (.t 10)⟩,⟨(some 12),none,(.build [(.str ⟨#[]⟩),.nil] [(0,(1,(.t 11)))])⟩,⟨(some 5),none,(.alloc 71 [(.str ⟨#[]⟩),.nil])⟩,⟨none,none,(.store 2 (.t 5) (.t 12))⟩]) (.seq (.seq (.reg [⟨some 14,none,.mv (.t 1)⟩,⟨some 15,none,.faddr 0 (.t 2)⟩,⟨some 16,none,.load false 1 (.t 15)⟩,⟨(some 17),none,(.mget true true false [(.str ⟨#[]⟩)] (.t 14) (.t 16))⟩,⟨some 13,none,.mv (.t 17)⟩,⟨some 18,none,.ext (.t 13) 0⟩,⟨some 19,none,.ext (.t 13) 1⟩,⟨some 6,none,.mv (.t 18)⟩,⟨some 7,none,.mv (.t 19)⟩]) (.seq (.reg [⟨some 20,none,.mv (.t 7)⟩,⟨some 21,none,.mv (.t 20)⟩,⟨(some 22),(some (21,true)),(.faddr 1 (.t 2))⟩,⟨(some 23),(some (21,true)),(.load false 1 (.t 22))⟩,⟨(some 24),(some (21,true)),(.len false (.t 23))⟩,⟨(some 25),(some (21,true)),(.bin .eql false (.t 24) (.c (.int .i64 0)))⟩,⟨some 26,none,.pick (.t 21) (.t 25) (.c (.bool false))⟩]) (.cond (.t 26) (.reg [⟨some 27,none,.mv (.t 6)⟩,⟨some 28,none,.faddr 0 (.t 5)⟩,⟨none,none,(.store 1 (.t 28) (.t 27))⟩]) .skip))) (.seq (.seq (.reg [⟨some 29,none,.faddr 1 (.t 2)⟩,⟨some 30,none,.load false 1 (.t 29)⟩,⟨some 31,none,.len false (.t 30)⟩,⟨some 32,none,.mv (.c (.int .i64 0))⟩]) (.block 0 (.loop [0,1,0,0,1,1,0,0,0,0,0,0,0,0,0,0,0,0,0,0,0,0,0,0,0,0,0,0,0,0,1,1,1,0,0,0,0,0,0,0,0,0,0,0,0,0] (.seq (.reg [⟨some 33,none,.bin .lss false (.t 32) (.t 31)⟩]) (.seq (.cond (.t 33) .skip (.exit 0)) (.seq (.block 1 (.seq (.reg [⟨some 34,none,.iaddr 2 (.t 30) (.t 32)⟩,⟨some 35,none,.load true 2 (.t 34)⟩,⟨(some 9),none,(.alloc 71 [(.str ⟨#[]⟩),.nil])⟩,⟨none,none,(.store 2 (.t 9) (.t 35))⟩]) (.dreg [[],[0],[],[],[2,3],[4,2,3],[1,0,5,4,2,3],[0,1,2,3,4,5,6],[7,0,1,2,3,4,5,6]] [⟨some 36,none,.faddr 1 (.t 5)⟩,⟨some 37,none,.load false 1 (.t 36)⟩,⟨some 38,none,.load true 2 (.t 9)⟩,⟨some 39,none,.mv (.t 1)⟩,⟨some 40,none,.call 143 [(.t 38),(.t 39)]⟩,⟨(some 41),none,(.mkrow 71 2 [(.str ⟨#[]⟩),.nil] 1 [(0,(.t 40))])⟩,⟨(some 42),none,(.append 71 2 40 [(.str ⟨#[]⟩),.nil] (.t 37) (.t 41))⟩,⟨some 43,none,.faddr 1 (.t 5)⟩,⟨none,none,(.store 1 (.t 43) (.t 42))⟩]))) (.reg [⟨some 44,none,.bin .add false (.t 32) (.c (.int .i64 1))⟩,⟨some 32,none,.mv (.t 44)⟩]))))))) (.seq (.reg [⟨some 45,none,.load true 2 (.t 5)⟩,⟨none,none,(.store 2 (.t 4) (.t 45))⟩]) .ret)))))
theorem H4:codeOf Tryz.prog 143=some ⟨46,Ft,[(.cell 4 true 2)]⟩:=by kernel_rfl
theorem B8:modes 143=⟨[],.own [none,some (71,2)],none,false⟩:=by unfold modes; rfl
abbrev RnC (e:SEnv) (x:Tm):Prop:=E 143 [x.sv,.mp true (EX e)] []=some ((x.rn e).osv,(x.rn e).obs)
theorem Zz (e:SEnv) (x:Tm) (hn:x.args.length≤1099511627776) (ih:∀ y∈x.args,RnC e y):RnC e x:=by
  unfold RnC
  obtain ⟨nm,hnm⟩:∃ nm,nm=bif x.args.isEmpty then (e x.name).getD x.name else x.name:=⟨_,rfl⟩
  have e0:x.rn e=.mk nm (x.args.map (Tm.rn e)):=by rw [Tm.RV,hnm]
  have e1:(Tm.mk nm (x.args.map (Tm.rn e))).osv=.agg [.str nm,.ref 0]:=rfl
  have e2:(Tm.mk nm (x.args.map (Tm.rn e))).obs=[.row 71 2 ((x.args.map (Tm.rn e)).map Tm.o)]:=rfl
  rw [e0,e1,e2]
  have h10:((1:Int)=0)=False:=by simp
  cases he:e x.name with
  | none =>
    have hme:EX e (.str x.name)=none:=by rw [LI,he]
    have hnn:nm=x.name:=by
      rw [hnm,he]
      cases x.args.isEmpty <;> rfl
    rw [hnn]
    clear hnm e0 e1 e2 hnn nm
    obtain ⟨nm,hnm⟩:∃ nm,nm=x.name:=⟨_,rfl⟩
    rw [←hnm] at hme ⊢
    refine Ad H4 B8 (of_decide_eq_true rfl) ?_
    simp (disch:=omega) only [Ft,go_sem,Aa,hme,← hnm]
    refine go_loop (α:=Int) (fun a=>⟨slots 46 0 [(1,.mp true (EX e)),(4,.ptr 0 0),(5,.ptr 1 0),(30,.arr (x.args.map Tm.d)),(31,.int .i64 x.args.length),(32,.int .i64 a)],(if a=0 then [.box 71 [.str ⟨#[]⟩,.nil],.box 71 [.str nm,.nil]] else [.box 71 [.str ⟨#[]⟩,.nil],.box 71 [.str nm,.ref 2],.row 71 2 (((x.args.map (Tm.rn e)).take a.toNat).map Tm.o)])⟩) (fun a=>∃ k:Nat,a=k∧k≤(x.args).length) (fun a=>(x.args).length-(a).toNat) 0 ⟨0,rfl,zF _⟩ (by simp (disch:=omega) only [go_sem,Aa,eq_self,if_true]) ?_
    rintro i ⟨k,hi,hk⟩
    have hni:i.toNat=k:=by omega
    have hni1:(i+1).toNat=k+1:=by omega
    rcases zB k (x.args).length with hlt | hge
    · have hg:=get_at Tm.d hlt
      rw [Tm.d_eq] at hg
      have hc:=ih x.args[k] (zD hlt)
      have hlm:k<(x.args.map (Tm.rn e)).length:=by rw [zC]; exact hlt
      have hs:=DD Tm.o hlm
      rw [Tm.o_eq,yC] at hs
      rcases zH k with h0 | h0
      · subst h0
        obtain rfl:i=0:=hi
        rw [z7,zL,zU] at hs
        simp (disch:=omega) only [go_sem,Aa,hni,hg,hc,Tm.osv,Tm.obs,B8,eq_self,if_true]
        refine ⟨1,⟨1,rfl,hlt⟩,by omega,?_⟩
        simp (disch:=omega) only [go_sem,Aa,h10,if_false,hs]
      · have hi0:(i=0)=False:=by simp; omega
        have hi1:(i+1=0)=False:=by simp; omega
        have htl:((x.args.map (Tm.rn e)).take k).length=k:=by rw [zQ,zC]; omega
        simp (disch:=omega) only [go_sem,Aa,hni,hg,hc,Tm.osv,Tm.obs,B8,hi0,if_false,htl]
        refine ⟨i+1,⟨k+1,by omega,hlt⟩,by omega,?_⟩
        simp (disch:=omega) only [go_sem,Aa,hni1,hi1,if_false,hs]
    · obtain rfl:k=x.args.length:=by omega
      have ht:(x.args.map (Tm.rn e)).take x.args.length=x.args.map (Tm.rn e):=by rw [←zC (f:=Tm.rn e)]; exact zR
      rcases zH x.args.length with h0 | h0
      · have hx:x.args=[]:=zE h0
        obtain rfl:i=0:=by omega
        first | omega | simp (disch:=omega) only [go_sem,Aa,hni,hx,eq_self,if_true,zL,zY]
      · have hi0:(i=0)=False:=by simp; omega
        first | omega | simp (disch:=omega) only [go_sem,Aa,hni,hi0,if_false,ht]
  | some v =>
    have hme:EX e (.str x.name)=some (false,[.str v]):=by rw [LI,he]
    rcases zH x.args.length with hz | hz
    · have hx:x.args=[]:=zE hz
      have hz0:((x.args.length:Int)=0)=True:=by rw [hx]; simp
      have hnn:nm=v:=by rw [hnm,he,hx]; rfl
      rw [hnn]
      clear hnm e0 e1 e2 hnn nm
      obtain ⟨nm,hnm⟩:∃ nm,nm=v:=⟨_,rfl⟩
      rw [←hnm] at hme ⊢
      refine Ad H4 B8 (of_decide_eq_true rfl) ?_
      simp (disch:=omega) only [Ft,go_sem,Aa,hme,hz0,Qc7]
      refine go_loop (α:=Int) (fun a=>⟨slots 46 0 [(1,.mp true (EX e)),(4,.ptr 0 0),(5,.ptr 1 0),(30,.arr (x.args.map Tm.d)),(31,.int .i64 x.args.length),(32,.int .i64 a)],(if a=0 then [.box 71 [.str ⟨#[]⟩,.nil],.box 71 [.str nm,.nil]] else [.box 71 [.str ⟨#[]⟩,.nil],.box 71 [.str nm,.ref 2],.row 71 2 (((x.args.map (Tm.rn e)).take a.toNat).map Tm.o)])⟩) (fun a=>∃ k:Nat,a=k∧k≤(x.args).length) (fun a=>(x.args).length-(a).toNat) 0 ⟨0,rfl,zF _⟩ (by simp (disch:=omega) only [go_sem,Aa,eq_self,if_true]) ?_
      rintro i ⟨k,hi,hk⟩
      have hni:i.toNat=k:=by omega
      have hni1:(i+1).toNat=k+1:=by omega
      rcases zB k (x.args).length with hlt | hge
      · have hg:=get_at Tm.d hlt
        rw [Tm.d_eq] at hg
        have hc:=ih x.args[k] (zD hlt)
        have hlm:k<(x.args.map (Tm.rn e)).length:=by rw [zC]; exact hlt
        have hs:=DD Tm.o hlm
        rw [Tm.o_eq,yC] at hs
        rcases zH k with h0 | h0
        · subst h0
          obtain rfl:i=0:=hi
          rw [z7,zL,zU] at hs
          simp (disch:=omega) only [go_sem,Aa,hni,hg,hc,Tm.osv,Tm.obs,B8,eq_self,if_true]
          refine ⟨1,⟨1,rfl,hlt⟩,by omega,?_⟩
          simp (disch:=omega) only [go_sem,Aa,h10,if_false,hs]
        · have hi0:(i=0)=False:=by simp; omega
          have hi1:(i+1=0)=False:=by simp; omega
          have htl:((x.args.map (Tm.rn e)).take k).length=k:=by rw [zQ,zC]; omega
          simp (disch:=omega) only [go_sem,Aa,hni,hg,hc,Tm.osv,Tm.obs,B8,hi0,if_false,htl]
          refine ⟨i+1,⟨k+1,by omega,hlt⟩,by omega,?_⟩
          simp (disch:=omega) only [go_sem,Aa,hni1,hi1,if_false,hs]
      · obtain rfl:k=x.args.length:=by omega
        have ht:(x.args.map (Tm.rn e)).take x.args.length=x.args.map (Tm.rn e):=by rw [←zC (f:=Tm.rn e)]; exact zR
        rcases zH x.args.length with h0 | h0
        · have hx:x.args=[]:=zE h0
          obtain rfl:i=0:=by omega
          first | omega | simp (disch:=omega) only [go_sem,Aa,hni,hx,eq_self,if_true,zL,zY]
        · have hi0:(i=0)=False:=by simp; omega
          first | omega | simp (disch:=omega) only [go_sem,Aa,hni,hi0,if_false,ht]
    · have hz0:((x.args.length:Int)=0)=False:=eq_false (by omega)
      have hnn:nm=x.name:=by
        rw [hnm]
        cases hx:x.args with
        | nil=>rw [hx] at hz; simp at hz
        | cons a r=>rfl
      rw [hnn]
      clear hnm e0 e1 e2 hnn nm
      obtain ⟨nm,hnm⟩:∃ nm,nm=x.name:=⟨_,rfl⟩
      rw [←hnm] at hme ⊢
      refine Ad H4 B8 (of_decide_eq_true rfl) ?_
      simp (disch:=omega) only [Ft,go_sem,Aa,hme,hz0,Qc8,← hnm]
      refine go_loop (α:=Int) (fun a=>⟨slots 46 0 [(1,.mp true (EX e)),(4,.ptr 0 0),(5,.ptr 1 0),(30,.arr (x.args.map Tm.d)),(31,.int .i64 x.args.length),(32,.int .i64 a)],(if a=0 then [.box 71 [.str ⟨#[]⟩,.nil],.box 71 [.str nm,.nil]] else [.box 71 [.str ⟨#[]⟩,.nil],.box 71 [.str nm,.ref 2],.row 71 2 (((x.args.map (Tm.rn e)).take a.toNat).map Tm.o)])⟩) (fun a=>∃ k:Nat,a=k∧k≤(x.args).length) (fun a=>(x.args).length-(a).toNat) 0 ⟨0,rfl,zF _⟩ (by simp (disch:=omega) only [go_sem,Aa,eq_self,if_true]) ?_
      rintro i ⟨k,hi,hk⟩
      have hni:i.toNat=k:=by omega
      have hni1:(i+1).toNat=k+1:=by omega
      rcases zB k (x.args).length with hlt | hge
      · have hg:=get_at Tm.d hlt
        rw [Tm.d_eq] at hg
        have hc:=ih x.args[k] (zD hlt)
        have hlm:k<(x.args.map (Tm.rn e)).length:=by rw [zC]; exact hlt
        have hs:=DD Tm.o hlm
        rw [Tm.o_eq,yC] at hs
        rcases zH k with h0 | h0
        · subst h0
          obtain rfl:i=0:=hi
          rw [z7,zL,zU] at hs
          simp (disch:=omega) only [go_sem,Aa,hni,hg,hc,Tm.osv,Tm.obs,B8,eq_self,if_true]
          refine ⟨1,⟨1,rfl,hlt⟩,by omega,?_⟩
          simp (disch:=omega) only [go_sem,Aa,h10,if_false,hs]
        · have hi0:(i=0)=False:=by simp; omega
          have hi1:(i+1=0)=False:=by simp; omega
          have htl:((x.args.map (Tm.rn e)).take k).length=k:=by rw [zQ,zC]; omega
          simp (disch:=omega) only [go_sem,Aa,hni,hg,hc,Tm.osv,Tm.obs,B8,hi0,if_false,htl]
          refine ⟨i+1,⟨k+1,by omega,hlt⟩,by omega,?_⟩
          simp (disch:=omega) only [go_sem,Aa,hni1,hi1,if_false,hs]
      · obtain rfl:k=x.args.length:=by omega
        have ht:(x.args.map (Tm.rn e)).take x.args.length=x.args.map (Tm.rn e):=by rw [←zC (f:=Tm.rn e)]; exact zR
        rcases zH x.args.length with h0 | h0
        · have hx:x.args=[]:=zE h0
          obtain rfl:i=0:=by omega
          first | omega | simp (disch:=omega) only [go_sem,Aa,hni,hx,eq_self,if_true,zL,zY]
        · have hi0:(i=0)=False:=by simp; omega
          first | omega | simp (disch:=omega) only [go_sem,Aa,hni,hi0,if_false,ht]
theorem Uu (e:SEnv) (x:Tm) (hn:x.nodes≤1099511627776):RnC e x :=
 Zz e x (by have:=Tm.length_le x.args; have:=Tm.An x; omega) fun y hy=>Uu e y (by have:=Tm.AX hy; have:=Tm.An x; omega)
termination_by SizeOf.sizeOf x
decreasing_by exact Tm.Aw hy
def JD:SC:=(.seq (.reg [⟨(some 2),none,(.mv (.c (.str ⟨#[]⟩)))⟩]) (.seq (.seq (.reg [⟨some 3,none,.mv (.t 0)⟩,⟨some 4,none,.bin .lss false (.t 3) (.c (.int .i64 0))⟩]) (.cond (.t 4) (.seq (.reg [⟨some 5,none,.mv (.t 0)⟩,⟨some 6,none,.un .neg (.t 5)⟩,⟨some 7,none,.call 75 [(.t 6)]⟩,⟨(some 8),none,(.bin .add false (.c (.str ⟨#[45]⟩)) (.t 7))⟩,⟨some 2,none,.mv (.t 8)⟩]) .ret) .skip)) (.seq (.seq (.reg [⟨some 9,none,.mv (.t 0)⟩,⟨some 10,none,.bin .lss false (.t 9) (.c (.int .i64 10))⟩]) (.cond (.t 10) (.seq (.reg [⟨some 11,none,.mv (.t 0)⟩,⟨some 12,none,.mv (.t 0)⟩,⟨some 13,none,.bin .add false (.t 12) (.c (.int .i64 1))⟩,⟨(some 14),none,(.slice true 0 (.c (.str ⟨#[48,49,50,51,52,53,54,55,56,57]⟩)) (some (.t 11)) (some (.t 13)))⟩,⟨some 2,none,.mv (.t 14)⟩]) .ret) .skip)) (.seq (.dreg [[],[0],[1,0],[],[3],[],[5],[6,5],[4,3,7,6,5],[2,1,0,8,4,3,7,6,5],[9,2,1,0,8,4,3,7,6,5]] [⟨some 15,none,.mv (.t 0)⟩,⟨some 16,none,.bin .quo false (.t 15) (.c (.int .i64 10))⟩,⟨some 17,none,.call 75 [(.t 16)]⟩,⟨some 18,none,.mv (.t 0)⟩,⟨some 19,none,.bin .rem false (.t 18) (.c (.int .i64 10))⟩,⟨some 20,none,.mv (.t 0)⟩,⟨some 21,none,.bin .rem false (.t 20) (.c (.int .i64 10))⟩,⟨some 22,none,.bin .add false (.t 21) (.c (.int .i64 1))⟩,⟨(some 23),none,(.slice true 0 (.c (.str ⟨#[48,49,50,51,52,53,54,55,56,57]⟩)) (some (.t 19)) (some (.t 22)))⟩,⟨some 24,none,.bin .add false (.t 17) (.t 23)⟩,⟨some 2,none,.mv (.t 24)⟩]) .ret))))
theorem NJ:codeOf Tryz.prog 75=some ⟨25,JD,[(.tmp 2)]⟩:=by kernel_rfl
theorem D5:modes 75=⟨[],.asis,none,false⟩:=by unfold modes; rfl
theorem Qe3 (d:Nat) (h:d<10):(⟨#[48,49,50,51,52,53,54,55,56,57]⟩:ByteArray).extract d (d+1)=⟨#[UInt8.ofNat (48+d)]⟩:=by
 have key:∀ d:_root_.Fin 10,(⟨#[48,49,50,51,52,53,54,55,56,57]⟩:ByteArray).extract d.val (d.val+1)=⟨#[UInt8.ofNat (48+d.val)]⟩:=by decide +kernel
 exact key ⟨d,h⟩
theorem QcS (n:Int) (h0:0≤n) (h1:n≤1099511627776) (ih:10≤n→E 75 [.int .i64 (n.tdiv 10)] []=some (.str (Fc (n.tdiv 10)),[])):E 75 [.int .i64 n] []=some (.str (Fc n),[]):=by
 have hsz:(⟨#[48,49,50,51,52,53,54,55,56,57]⟩:ByteArray).size=10:=rfl
 rcases Int.lt_or_le n 10 with h | h
 ·have e1:=Qe3 n.toNat (by omega)
  have e2:(n+1).toNat=n.toNat+1:=by omega
  rw [Zx h0 h]
  refine Ad NJ D5 (of_decide_eq_true rfl) ?_
  simp (disch:=omega) only [JD,go_sem,Aa,e1,e2,hsz]
 ·have hc:=ih h
  have hq:n.tdiv 10=n / 10:=zW h0
  have hr:n.tmod 10=n % 10:=yY h0
  have hq2:0≤n.tdiv 10∧n.tdiv 10≤n:=by omega
  have hr2:0≤n.tmod 10∧n.tmod 10<10:=by omega
  have hs:=FJ hq2.1 (by omega:n.tdiv 10≤1099511627776)
  have e1:=Qe3 (n.tmod 10).toNat (by omega)
  have e2:(n.tmod 10+1).toNat=(n.tmod 10).toNat+1:=by omega
  rw [QcM h]
  clear hq hr
  have hs1:(⟨#[UInt8.ofNat (48+(n.tmod 10).toNat)]⟩:ByteArray).size=1:=rfl
  refine Ad NJ D5 (of_decide_eq_true rfl) ?_
  simp (disch:=omega) only [JD,go_sem,Aa,hc,e1,e2,hsz,hs1,D5]
theorem Vx (n:Int) (h0:0≤n) (h1:n≤1099511627776):E 75 [.int .i64 n] []=some (.str (Fc n),[]) :=
 QcS n h0 h1 fun h=>Vx (n.tdiv 10) (by rw [zW h0]; omega) (by rw [zW h0]; omega)
termination_by n.toNat
decreasing_by rw [zW h0]; omega
def HY:SC:=(.seq (.reg [⟨some 1,none,.boxv 28 1 (.t 0)⟩,⟨some 2,none,.alloc 28 [.nil]⟩]) (.seq (.reg [⟨some 6,none,.build [.nil] []⟩,⟨some 3,none,.alloc 28 [.nil]⟩,⟨none,none,(.store 1 (.t 3) (.t 6))⟩]) (.seq (.seq (.reg [⟨some 7,none,.faddr 0 (.t 1)⟩,⟨some 8,none,.load false 1 (.t 7)⟩,⟨some 9,none,.len false (.t 8)⟩,⟨some 10,none,.mv (.c (.int .i64 0))⟩]) (.block 0 (.loop [0,0,1,1,0,0,0,0,1,1,1,0,0,0,0,0,0,0,0,0,0,0,0] (.seq (.reg [⟨some 11,none,.bin .lss false (.t 10) (.t 9)⟩]) (.seq (.cond (.t 11) .skip (.exit 0)) (.seq (.block 1 (.seq (.reg [⟨some 12,none,.iaddr 3 (.t 8) (.t 10)⟩,⟨some 13,none,.load true 3 (.t 12)⟩,⟨(some 5),none,(.alloc 73 [(.bool false),(.str ⟨#[]⟩),.nil])⟩,⟨none,none,(.store 3 (.t 5) (.t 13))⟩]) (.dreg [[],[0],[],[2],[3,2],[1,0,4,3,2],[0,1,2,3,4,5],[6,0,1,2,3,4,5]] [⟨some 14,none,.faddr 0 (.t 3)⟩,⟨some 15,none,.load false 1 (.t 14)⟩,⟨some 16,none,.load true 3 (.t 5)⟩,⟨some 17,none,.call 169 [(.t 16)]⟩,⟨(some 18),none,(.mkrow 73 3 [(.bool false),(.str ⟨#[]⟩),.nil] 1 [(0,(.t 17))])⟩,⟨(some 19),none,(.append 73 3 48 [(.bool false),(.str ⟨#[]⟩),.nil] (.t 15) (.t 18))⟩,⟨some 20,none,.faddr 0 (.t 3)⟩,⟨none,none,(.store 1 (.t 20) (.t 19))⟩]))) (.reg [⟨some 21,none,.bin .add false (.t 10) (.c (.int .i64 1))⟩,⟨some 10,none,.mv (.t 21)⟩]))))))) (.seq (.reg [⟨some 22,none,.load true 1 (.t 3)⟩,⟨none,none,(.store 1 (.t 2) (.t 22))⟩]) .ret))))
theorem NK:codeOf Tryz.prog 139=some ⟨23,HY,[(.cell 2 true 1)]⟩:=by kernel_rfl
theorem HZ:modes 139=⟨[],.own [some (73,3)],none,false⟩:=by unfold modes; rfl
theorem Vy (c:Cl) (hl:c.lits.length≤1048576) (hf:∀ x∈c.lits,x.atom.nodes≤1099511627776):E 139 [c.sv] []=some (c.osv,c.obs):=by
 have h10:((1:Int)=0)=False:=by simp
 obtain ⟨l,hcl⟩:∃ l,l=c.lits:=⟨_,rfl⟩
 have e0:c.sv=.agg [.arr (l.map Lt.d)]:=by rw [hcl]; first | done | rfl
 have e1:c.osv=.agg [.ref 0]:=rfl
 have e2:c.obs=[.row 73 3 (l.map Lt.o)]:=by rw [hcl]; first | done | rfl
 rw [e0,e1,e2]
 rw [←hcl] at hl hf
 clear hcl e0 e1 e2
 refine Ad NK HZ (of_decide_eq_true rfl) ?_
 simp (disch:=omega) only [HY,go_sem,Aa]
 refine go_loop (α:=Int) (fun a=>⟨slots 23 0 [(2,.ptr 0 0),(3,.ptr 1 0),(8,.arr (l.map Lt.d)),(9,.int .i64 l.length),(10,.int .i64 a)],(if a=0 then [.box 28 [.nil],.box 28 [.nil]] else [.box 28 [.nil],.box 28 [.ref 2],.row 73 3 ((l.take a.toNat).map Lt.o)])⟩) (fun a=>∃ k:Nat,a=k∧k≤(l).length) (fun a=>(l).length-(a).toNat) 0 ⟨0,rfl,zF _⟩ (by simp (disch:=omega) only [go_sem,Aa,eq_self,if_true]) ?_
 rintro i ⟨k,hi,hk⟩
 have hni:i.toNat=k:=by omega
 have hni1:(i+1).toNat=k+1:=by omega
 rcases zB k (l).length with hlt | hge
 ·have hg:=get_at Lt.d hlt
  rw [Lt.d_eq] at hg
  have hc:=Mj l[k] (hf _ (zD hlt))
  have hs:=DD Lt.o hlt
  rw [Lt.o_eq] at hs
  rcases zH k with h0 | h0
  ·subst h0
   obtain rfl:i=0:=hi
   rw [z7,zL,zU] at hs
   simp (disch:=omega) only [go_sem,Aa,hni,hg,hc,CF,eq_self,if_true]
   refine ⟨1,⟨1,rfl,hlt⟩,by omega,?_⟩
   simp (disch:=omega) only [go_sem,Aa,h10,if_false,hs]
  ·have hi0:(i=0)=False:=by simp; omega
   have hi1:(i+1=0)=False:=by simp; omega
   have htl:(l.take k).length=k:=by rw [zQ]; omega
   simp (disch:=omega) only [go_sem,Aa,hni,hg,hc,CF,hi0,if_false,htl]
   refine ⟨i+1,⟨k+1,by omega,hlt⟩,by omega,?_⟩
   simp (disch:=omega) only [go_sem,Aa,hni1,hi1,if_false,hs]
 ·obtain rfl:k=l.length:=by omega
  have ht:l.take l.length=l:=zR
  rcases zH l.length with h0 | h0
  ·have hx:l=[]:=zE h0
   obtain rfl:i=0:=by omega
   rw [hx]
   simp (disch:=omega) only [go_sem,Aa,hni,eq_self,if_true,zL]
  ·have hi0:(i=0)=False:=by simp; omega
   simp (disch:=omega) only [go_sem,Aa,hni,hi0,if_false,ht]
def GC:SC:=(.seq (.reg [⟨some 1,none,.boxv 28 1 (.t 0)⟩,⟨some 2,none,.mv (.c (.bool false))⟩]) (.seq (.seq (.reg [⟨some 5,none,.load true 1 (.t 1)⟩,⟨some 6,none,.call 84 [(.t 5)]⟩,⟨some 7,none,.len false (.t 6)⟩,⟨some 8,none,.mv (.c (.int .i64 0))⟩]) (.block 0 (.loop [0,0,0,0,0,0,1,1,1,0,0,0,0,0,0,0,0,0,0] (.seq (.reg [⟨some 9,none,.bin .lss false (.t 8) (.t 7)⟩]) (.seq (.cond (.t 9) .skip (.exit 0)) (.seq (.block 1 (.seq (.reg [⟨some 10,none,.mv (.t 8)⟩,⟨some 11,none,.iaddr 1 (.t 6) (.t 8)⟩,⟨some 12,none,.load false 1 (.t 11)⟩,⟨some 3,none,.mv (.t 10)⟩,⟨some 4,none,.mv (.t 12)⟩]) (.seq (.reg [⟨some 13,none,.mv (.t 4)⟩,⟨some 14,none,.mv (.t 3)⟩,⟨some 15,none,.call 85 [(.t 14)]⟩,⟨(some 16),none,(.bin .add false (.c (.str ⟨#[88]⟩)) (.t 15))⟩,⟨some 17,none,.bin .neq false (.t 13) (.t 16)⟩]) (.cond (.t 17) (.seq (.reg [⟨some 2,none,.mv (.c (.bool false))⟩]) .ret) .skip)))) (.reg [⟨some 18,none,.bin .add false (.t 8) (.c (.int .i64 1))⟩,⟨some 8,none,.mv (.t 18)⟩]))))))) (.seq (.reg [⟨some 2,none,.mv (.c (.bool true))⟩]) .ret)))
theorem LU:codeOf Tryz.prog 55=some ⟨19,GC,[(.tmp 2)]⟩:=by kernel_rfl
theorem C2:modes 55=⟨[],.asis,none,false⟩:=by unfold modes; rfl
theorem KT (c:Cl) (hc:c.ok=true):E 55 [c.sv] []=some (.bool c.norm,[]):=by
  have h1:=OV c hc
  have hn:=Cl.MQ hc
  have hcs:c.sv=.agg [.arr (c.lits.map Lt.d)]:=rfl
  obtain ⟨ns,hns⟩:∃ ns,ns=c.ns:=⟨_,rfl⟩
  rw [show C1 [] (Lt.vsL c.lits)=ns from hns.symm] at h1
  have hnm:c.norm=dec (NI ns):=by unfold Cl.norm; rw [hns]
  rw [←hns] at hn
  rw [hnm]
  refine Ad LU C2 (of_decide_eq_true rfl) ?_
  simp (disch:=omega) only [GC,go_sem,Aa,h1,Dn]
  refine go_loop (α:=Int) (fun a=>⟨slots 19 0 [(6,.ref 0),(7,.int .i64 ns.length),(8,.int .i64 a)],[.row 9 1 (ns.map fun s=>[OT.str s])]⟩) (fun a=>∃ k:Nat,a=k∧k≤(ns).length∧∀ (j:Nat),j<k→∀ hj:j<ns.length,ns[j]=pre LT (j:Nat)) (fun a=>(ns).length-(a).toNat) 0 ⟨0,rfl,zF _,fun j hj=>absurd hj (Nat.not_lt_zero _)⟩ (by simp (disch:=omega) only [go_sem,Aa]) ?_
  rintro i ⟨k,hi,hk,hR⟩
  have hni:i.toNat=k:=by omega
  have hni1:(i+1).toNat=k+1:=by omega
  rcases zB k (ns).length with hlt | hge
  · have hg:=get_at (fun s=>[OT.str s]) hlt
    have hit:=QcN i (by omega) (by omega)
    have hz:=FJ (show 0≤i by omega) (show i≤1099511627776 by omega)
    have hb:dec ((#[88]:Array UInt8).size+(Fc i).size≤9223372036854775807)=true:=Ay (by simp; omega)
    by_cases he:ns[k]=pre LT (k:Nat)
    · have he':dec (ns[k]=(⟨#[88]⟩:ByteArray)++Fc i)=true:=Ay (by rw [he,hi]; rfl)
      simp (disch:=omega) only [go_sem,Aa,hni,hg,hit,hb,he',Fs]
      refine ⟨i+1,⟨k+1,by omega,hlt,fun j hj hjl=>?_⟩,by omega,by first | trivial | rfl⟩
      rcases zB j k with h2 | h2
      · exact hR j h2 hjl
      · obtain rfl:j=k:=by omega
        exact he
    · have he':dec (ns[k]=(⟨#[88]⟩:ByteArray)++Fc i)=false:=A8 (fun e=>he (by rw [e,hi]; rfl))
      have hno:dec (NI ns)=false:=A8 fun h=>he (h k hlt)
      rw [hno]
      simp (disch:=omega) only [go_sem,Aa,hni,hg,hit,hb,he',Fs]
  · have hy:dec (NI ns)=true:=Ay fun j hj=>hR j (by omega) hj
    rw [hy]
    simp (disch:=omega) only [go_sem,Aa,hni]
def G7:SC:=(.seq (.reg [⟨some 1,none,.boxv 28 1 (.t 0)⟩,⟨some 2,none,.mv (.c (.bool false))⟩]) (.seq (.reg [⟨some 3,none,.load true 1 (.t 1)⟩,⟨some 4,none,.call 54 [(.t 3)]⟩,⟨some 5,none,.mv (.t 4)⟩,⟨(some 6),(some (5,true)),(.load true 1 (.t 1))⟩,⟨(some 7),(some (5,true)),(.call 55 [(.t 6)])⟩,⟨some 8,none,.pick (.t 5) (.t 7) (.c (.bool false))⟩,⟨some 2,none,.mv (.t 8)⟩]) .ret))
theorem JY:codeOf Tryz.prog 32=some ⟨9,G7,[(.tmp 2)]⟩:=by kernel_rfl
theorem BB:modes 32=⟨[],.asis,none,false⟩:=by unfold modes; rfl
theorem JE (c:Cl) (hc:c.tame):E 32 [c.sv] []=some (.bool (c.ok&&c.norm),[]):=by
 have h1:=G4 c hc
 cases hv:c.ok with
 | false =>
  rw [hv] at h1
  refine Ad JY BB (of_decide_eq_true rfl) ?_
  simp (disch:=omega) only [G7,go_sem,Aa,h1,Cq]
 | true =>
  rw [hv] at h1
  have h2:=KT c hv
  refine Ad JY BB (of_decide_eq_true rfl) ?_
  simp (disch:=omega) only [G7,go_sem,Aa,h1,h2,Cq,C2]
def JZ:SC:=(.seq (.reg [⟨some 4,none,.mv (.c (.mp true nomap))⟩]) (.seq (.reg [⟨some 8,none,.mkmap true none⟩,⟨some 5,none,.mv (.t 8)⟩]) (.seq (.seq (.reg [⟨some 9,none,.mv (.t 0)⟩,⟨some 10,none,.len false (.t 9)⟩,⟨some 11,none,.mv (.c (.int .i64 0))⟩]) (.block 0 (.loop [0,1,0,0,0,1,0,0,0,1,1,1,0,0,0,0,0,0,0,0,0,0,0,0] (.seq (.reg [⟨some 12,none,.bin .lss false (.t 11) (.t 10)⟩]) (.seq (.cond (.t 12) .skip (.exit 0)) (.seq (.block 1 (.seq (.reg [⟨some 13,none,.mv (.t 11)⟩,⟨some 14,none,.iaddr 1 (.t 9) (.t 11)⟩,⟨some 15,none,.load false 1 (.t 14)⟩,⟨some 6,none,.mv (.t 13)⟩,⟨some 7,none,.mv (.t 15)⟩]) (.reg [⟨some 16,none,.mv (.t 5)⟩,⟨some 17,none,.mv (.t 7)⟩,⟨some 18,none,.mv (.t 1)⟩,⟨some 19,none,.mv (.t 6)⟩,⟨some 20,none,.call 85 [(.t 19)]⟩,⟨some 21,none,.bin .add false (.t 18) (.t 20)⟩,⟨none,none,(.mset true (.t 16) (.t 17) (.t 21))⟩]))) (.reg [⟨some 22,none,.bin .add false (.t 11) (.c (.int .i64 1))⟩,⟨some 11,none,.mv (.t 22)⟩]))))))) (.seq (.reg [⟨some 23,none,.mv (.t 5)⟩,⟨some 4,none,.mv (.t 23)⟩]) .ret))))
theorem PU:codeOf Tryz.prog 140=some ⟨24,JZ,[(.tmp 4)]⟩:=by kernel_rfl
theorem EO:modes 140=⟨[],.frz,none,false⟩:=by unfold modes; rfl
theorem Xt (p:ByteArray):EX (Do p [])=nomap:=Zw
theorem Z0 (ns:List ByteArray) (hn:ns.length≤1048576) (p:ByteArray) (hp:p.size≤1048576):E 140 [.arr (ns.map fun s=>[D.str s]),.str p] []=some (.mp true (EX (Do p ns)),[]):=by
 have h0:=Xt p
 refine Ad PU EO (of_decide_eq_true rfl) ?_
 simp (disch:=omega) only [JZ,go_sem,Aa]
 refine go_loop (α:=Int) (fun a=>⟨slots 24 0 [(1,.str p),(5,.ref 0),(9,.arr (ns.map fun s=>[D.str s])),(10,.int .i64 ns.length),(11,.int .i64 a)],[.mp true (EX (Do p (ns.take a.toNat)))]⟩) (fun a=>∃ k:Nat,a=k∧k≤(ns).length) (fun a=>(ns).length-(a).toNat) 0 ⟨0,rfl,zF _⟩ (by simp (disch:=omega) only [go_sem,Aa,h0]) ?_
 rintro i ⟨k,hi,hk⟩
 have hni:i.toNat=k:=by omega
 have hni1:(i+1).toNat=k+1:=by omega
 rcases zB k (ns).length with hlt | hge
 ·have hg:=get_at (fun s=>[D.str s]) hlt
  have hit:=QcN i (by omega) (by omega)
  have hz:=FJ (show 0≤i by omega) (show i≤1099511627776 by omega)
  have hb:dec (p.size+(Fc i).size≤9223372036854775807)=true:=Ay (by omega)
  have hs:Oo (EX (Do p (ns.take k))) (.str ns[k]) (false,[.str (p++Fc i)])=EX (Do p (ns.take (k+1))):=by
   rw [Uq,LJ p hlt,hi]; rfl
  simp (disch:=omega) only [go_sem,Aa,hni,hg,hit,hb,hs,Fs]
  refine ⟨i+1,⟨k+1,by omega,hlt⟩,by omega,?_⟩
  simp (disch:=omega) only [go_sem,Aa,hni1]
 ·have ht:ns.take k=ns:=yI hge
  simp (disch:=omega) only [go_sem,Aa,hni,ht]
def Gq:SC:=(.seq (.reg [⟨some 2,none,.boxv 28 1 (.t 0)⟩,⟨some 4,none,.alloc 28 [.nil]⟩]) (.seq (.reg [⟨(some 8),none,(.mkrow 73 3 [(.bool false),(.str ⟨#[]⟩),.nil] 0 [])⟩,⟨some 5,none,.mv (.t 8)⟩]) (.seq (.seq (.reg [⟨some 9,none,.faddr 0 (.t 2)⟩,⟨some 10,none,.load false 1 (.t 9)⟩,⟨some 11,none,.len false (.t 10)⟩,⟨some 12,none,.mv (.c (.int .i64 0))⟩]) (.block 0 (.loop [0,1,0,0,1,1,0,0,0,0,1,1,1,0,0,0,0,0,0,0,0,0,0,0,0,0,0,0,0] (.seq (.reg [⟨some 13,none,.bin .lss false (.t 12) (.t 11)⟩]) (.seq (.cond (.t 13) .skip (.exit 0)) (.seq (.block 1 (.seq (.reg [⟨some 14,none,.iaddr 3 (.t 10) (.t 12)⟩,⟨some 15,none,.load true 3 (.t 14)⟩,⟨(some 7),none,(.alloc 73 [(.bool false),(.str ⟨#[]⟩),.nil])⟩,⟨none,none,(.store 3 (.t 7) (.t 15))⟩]) (.dreg [[],[],[1],[],[3],[],[4,3,5],[2,1,6,4,3,5],[7,2,1,6,4,3,5],[0,8,7,2,1,6,4,3,5],[9,0,8,7,2,1,6,4,3,5]] [⟨some 16,none,.mv (.t 5)⟩,⟨some 17,none,.faddr 0 (.t 7)⟩,⟨some 18,none,.load false 1 (.t 17)⟩,⟨some 19,none,.faddr 1 (.t 7)⟩,⟨some 20,none,.load true 2 (.t 19)⟩,⟨some 21,none,.mv (.t 1)⟩,⟨some 22,none,.call 143 [(.t 20),(.t 21)]⟩,⟨(some 23),none,(.build [(.bool false),(.str ⟨#[]⟩),.nil] [(0,(1,(.t 18))),(1,(2,(.t 22)))])⟩,⟨(some 24),none,(.mkrow 73 3 [(.bool false),(.str ⟨#[]⟩),.nil] 1 [(0,(.t 23))])⟩,⟨(some 25),none,(.append 73 3 48 [(.bool false),(.str ⟨#[]⟩),.nil] (.t 16) (.t 24))⟩,⟨some 5,none,.mv (.t 25)⟩]))) (.reg [⟨some 26,none,.bin .add false (.t 12) (.c (.int .i64 1))⟩,⟨some 12,none,.mv (.t 26)⟩]))))))) (.seq (.reg [⟨some 27,none,.mv (.t 5)⟩,⟨some 28,none,.call 138 [(.t 27)]⟩,⟨none,none,(.store 1 (.t 4) (.t 28))⟩]) .ret))))
theorem KU:codeOf Tryz.prog 98=some ⟨29,Gq,[(.cell 4 true 1)]⟩:=by kernel_rfl
theorem Cr:modes 98=⟨[],.own [some (73,3)],none,false⟩:=by unfold modes; rfl
theorem Ka (c:Cl) (hc:c.ok=true) (e:SEnv) (he:NH e):E 98 [c.sv,.mp true (EX e)] []=some ((c.rn e).osv,(c.rn e).obs):=by
 have hl:=Cl.ok_len hc
 have hcs:c.sv=.agg [.arr (c.lits.map Lt.d)]:=rfl
 have hat:=Lt.RZ he (Cl.BR hc)
 have hco:=RC (c.lits.map (Lt.rn e)) (by rw [zC]; omega) (fun x hx=>OX (hat x hx))
 rw [show mkC (c.lits.map (Lt.rn e))=c.rn e from rfl] at hco
 have her:=Lt.erss (c.lits.map (Lt.rn e))
 refine Ad KU Cr (of_decide_eq_true rfl) ?_
 simp (disch:=omega) only [Gq,go_sem,Aa]
 refine go_loop (α:=Int) (fun a=>⟨slots 29 0 [(1,.mp true (EX e)),(4,.ptr 0 0),(5,.ref 1),(10,.arr (c.lits.map Lt.d)),(11,.int .i64 c.lits.length),(12,.int .i64 a)],[.box 28 [.nil],.row 73 3 (((c.lits.map (Lt.rn e)).take a.toNat).map Lt.o)]⟩) (fun a=>∃ k:Nat,a=k∧k≤(c.lits).length) (fun a=>(c.lits).length-(a).toNat) 0 ⟨0,rfl,zF _⟩ (by simp (disch:=omega) only [go_sem,Aa]) ?_
 rintro i ⟨k,hi,hk⟩
 have hni:i.toNat=k:=by omega
 have hni1:(i+1).toNat=k+1:=by omega
 rcases zB k (c.lits).length with hlt | hge
 ·have hg:=get_at Lt.d hlt
  rw [Lt.d_eq] at hg
  have hnn:=Tm.CH (Cl.JB hc hlt)
  have hr:=Uu e c.lits[k].atom (by omega)
  unfold RnC at hr
  have hrs:c.lits[k].atom.sv=.agg [.str c.lits[k].atom.name,.arr (c.lits[k].atom.args.map Tm.d)]:=rfl
  have hlm:k<(c.lits.map (Lt.rn e)).length:=by rw [zC]; exact hlt
  have hs:=DD Lt.o hlm
  rw [Lt.o_eq,yC] at hs
  have hs':((c.lits.map (Lt.rn e)).take k).map Lt.o++[[OT.bool c.lits[k].pos,OT.str (c.lits[k].atom.rn e).name,OT.ow ((c.lits[k].atom.rn e).args.map Tm.o)]]=((c.lits.map (Lt.rn e)).take (k+1)).map Lt.o:=hs
  have htl:((c.lits.map (Lt.rn e)).take k).length=k:=by rw [zQ,zC]; omega
  simp (disch:=omega) only [go_sem,Aa,hni,hg,hr,hrs,htl,Tm.osv,Tm.obs,B8]
  refine ⟨i+1,⟨k+1,by omega,hlt⟩,by omega,?_⟩
  simp (disch:=omega) only [go_sem,Aa,hni1,hs']
 ·have ht:(c.lits.map (Lt.rn e)).take k=c.lits.map (Lt.rn e):=yI (by rw [zC]; exact hge)
  simp (disch:=omega) only [go_sem,Aa,hni,ht,hco,her,Lt.noss,Lt.fus,CP]
def IZ:SC:=(.seq (.reg [⟨some 1,none,.boxv 28 1 (.t 0)⟩,⟨some 2,none,.alloc 28 [.nil]⟩]) (.seq (.reg [⟨some 5,none,.load true 1 (.t 1)⟩,⟨some 6,none,.call 139 [(.t 5)]⟩,⟨some 3,none,.alloc 28 [.nil]⟩,⟨none,none,(.store 1 (.t 3) (.t 6))⟩]) (.seq (.seq (.reg [⟨some 4,none,.mv (.c (.int .i64 0))⟩]) (.block 0 (.loop [0,0,1,1,1,0,0,0,0,0,0,0,0,0,0,0,0,0,0,0,0,0] (.seq (.seq (.reg [⟨some 7,none,.mv (.t 4)⟩,⟨some 8,none,.bin .lss false (.t 7) (.c (.int .i64 10))⟩,⟨some 9,none,.mv (.t 8)⟩,⟨(some 10),(some (9,true)),(.load true 1 (.t 3))⟩,⟨(some 11),(some (9,true)),(.call 55 [(.t 10)])⟩,⟨(some 12),(some (9,true)),(.un .not (.t 11))⟩,⟨some 13,none,.pick (.t 9) (.t 12) (.c (.bool false))⟩]) (.cond (.t 13) .skip (.exit 0))) (.seq (.block 1 (.dreg [[],[],[1],[2,1],[0,3,2,1],[4,0,3,2,1]] [⟨some 16,none,.load true 1 (.t 3)⟩,⟨some 17,none,.load true 1 (.t 3)⟩,⟨some 18,none,.call 84 [(.t 17)]⟩,⟨(some 19),none,(.call 140 [(.t 18),(.c (.str ⟨#[88]⟩))])⟩,⟨some 20,none,.call 98 [(.t 16),(.t 19)]⟩,⟨none,none,(.store 1 (.t 3) (.t 20))⟩])) (.reg [⟨some 14,none,.mv (.t 4)⟩,⟨some 15,none,.bin .add false (.t 14) (.c (.int .i64 1))⟩,⟨some 4,none,.mv (.t 15)⟩])))))) (.seq (.reg [⟨some 21,none,.load true 1 (.t 3)⟩,⟨none,none,(.store 1 (.t 2) (.t 21))⟩]) .ret))))
theorem OZ:codeOf Tryz.prog 93=some ⟨22,IZ,[(.cell 2 true 1)]⟩:=by kernel_rfl
theorem FO:modes 93=⟨[],.own [some (73,3)],none,false⟩:=by unfold modes; rfl
theorem Xu (c:Cl) (hc:c.ok=true):E 93 [c.sv] []=some ((nz 10 c).osv,(nz 10 c).obs):=by
 have hl:=Cl.ok_len hc
 have h1:=Vy c (by omega) (fun x hx=>by have:=Tm.CH (Cl.BR hc x hx); omega)
 have hcs:∀ d:Cl,Cl.osv d=.agg [.ref 0]:=fun d=>rfl
 have hob:∀ d:Cl,Cl.obs d=[.row 73 3 (d.lits.map Lt.o)]:=fun d=>rfl
 have hsv:∀ d:Cl,d.sv=.agg [.arr (d.lits.map Lt.d)]:=fun d=>rfl
 rw [hcs,hob] at h1
 rw [hcs,hob]
 refine Ad OZ FO (of_decide_eq_true rfl) ?_
 simp (disch:=omega) only [IZ,go_sem,Aa,h1,HZ]
 refine go_loop (α:=Int × Cl) (fun a=>⟨slots 22 0 [(2,.ptr 0 0),(3,.ptr 1 0),(4,.int .i64 a.1)],[.box 28 [.nil],.box 28 [.ref 2],.row 73 3 (a.2.lits.map Lt.o)]⟩) (fun a=>∃ k:Nat,a.1=k∧k≤10∧a.2.ok=true∧nz (10-k) a.2=nz 10 c) (fun a=>10-a.1.toNat) (0,c) ⟨0,rfl,zF _,hc,rfl⟩ (by simp (disch:=omega) only [go_sem,Aa]) ?_
 rintro ⟨i,d⟩ ⟨k,hi,hk,hd,hR⟩
 dsimp only at hi hd hR
 have n1:=KT d hd
 have n2:=OV d hd
 have n3:=Z0 d.ns (by have:=Cl.MQ hd; omega) ⟨#[88]⟩ (by decide +kernel)
 have n4:=Ka d hd (Do ⟨#[88]⟩ d.ns) (Cl.xE hd)
 rw [show C1 [] (Lt.vsL d.lits)=d.ns from rfl] at n2
 rw [hcs,hob] at n4
 rw [hsv] at n1 n2 n4
 have her:=Lt.erss d.lits
 rcases zB k 10 with hlt | hge
 ·obtain ⟨m,hm⟩:∃ m,10-k=m+1:=⟨9-k,by omega⟩
  rw [hm,nz] at hR
  cases hn:d.norm with
  | true =>
   rw [hn,cond_true] at hR
   rw [hn] at n1
   rw [←hR]
   simp (disch:=omega) only [go_sem,Aa,n1,n2,n3,n4,her,Lt.noss,Lt.fus,C2,Dn,EO,Cr]
  | false =>
   rw [hn,cond_false] at hR
   rw [hn] at n1
   simp (disch:=omega) only [go_sem,Aa,n1,n2,n3,n4,her,Lt.noss,Lt.fus,C2,Dn,EO,Cr]
   refine ⟨(i+1,d.rn (Do LT d.ns)),⟨k+1,by dsimp only; omega,by omega,Cl.Qa6 (Cl.xE hd) hd,by rw [show 10-(k+1)=m by omega]; exact hR⟩,by dsimp only; omega,?_⟩
   first | trivial | rfl
 ·obtain rfl:k=10:=by omega
  have hR:d=nz 10 c:=hR
  rw [←hR]
  simp (disch:=omega) only [go_sem,Aa,n1,n2,n3,n4,her,Lt.noss,Lt.fus,C2,Dn,EO,Cr]
def NL:SC:=(.seq (.reg [⟨some 1,none,.boxv 28 1 (.t 0)⟩,⟨some 2,none,.alloc 28 [.nil]⟩]) (.seq (.reg [⟨some 6,none,.mkmap true none⟩,⟨some 3,none,.mv (.t 6)⟩]) (.seq (.seq (.reg [⟨some 7,none,.load true 1 (.t 1)⟩,⟨some 8,none,.call 84 [(.t 7)]⟩,⟨some 9,none,.len false (.t 8)⟩,⟨some 10,none,.mv (.c (.int .i64 0))⟩]) (.block 0 (.loop [0,1,1,1,0,0,0,0,1,1,1,0,0,0,0,0,0,0,0,0,0,0,0] (.seq (.reg [⟨some 11,none,.bin .lss false (.t 10) (.t 9)⟩]) (.seq (.cond (.t 11) .skip (.exit 0)) (.seq (.block 1 (.seq (.reg [⟨some 12,none,.iaddr 1 (.t 8) (.t 10)⟩,⟨some 13,none,.load false 1 (.t 12)⟩,⟨some 5,none,.mv (.t 13)⟩]) (.reg [⟨some 14,none,.mv (.t 3)⟩,⟨some 15,none,.mv (.t 5)⟩,⟨some 16,none,.mv (.t 5)⟩,⟨some 17,none,.slice true 0 (.t 16) (some (.c (.int .i64 1))) none⟩,⟨(some 18),none,(.bin .add false (.c (.str ⟨#[89]⟩)) (.t 17))⟩,⟨none,none,(.mset true (.t 14) (.t 15) (.t 18))⟩]))) (.reg [⟨some 19,none,.bin .add false (.t 10) (.c (.int .i64 1))⟩,⟨some 10,none,.mv (.t 19)⟩]))))))) (.seq (.reg [⟨some 20,none,.load true 1 (.t 1)⟩,⟨some 21,none,.mv (.t 3)⟩,⟨some 22,none,.call 98 [(.t 20),(.t 21)]⟩,⟨none,none,(.store 1 (.t 2) (.t 22))⟩]) .ret))))
theorem Vz:codeOf Tryz.prog 66=some ⟨23,NL,[(.cell 2 true 1)]⟩:=by kernel_rfl
theorem JF:modes 66=⟨[],.frz,none,false⟩:=by unfold modes; rfl
theorem Qef {p:ByteArray} (hp:p.size=1) (n:Int):(pre p n).extract 1 (pre p n).size=Fc n:=by
 unfold pre
 rw [y8,ByteArray.extract_append_eq_right hp.symm rfl]
theorem QeV {p:ByteArray} (hp:p.size=1) (n:Int):(pre p n).size=1+(Fc n).size:=by
 unfold pre
 rw [y8,hp]
theorem Qeg (c:Cl) (hc:c.ok=true) (hnm:c.norm=true):E 66 [c.sv] []=some ((c.rn (Do Gp c.ns)).sv,[]):=by
 have hl:=Cl.ok_len hc
 have hnn:=Cl.MQ hc
 have n2:=OV c hc
 have n4:=Ka c hc (Do Gp c.ns) (Cl.yE hc)
 have hnl:NI c.ns:=As.1 hnm
 have hcs:∀ d:Cl,Cl.osv d=.agg [.ref 0]:=fun d=>rfl
 have hob:∀ d:Cl,Cl.obs d=[.row 73 3 (d.lits.map Lt.o)]:=fun d=>rfl
 have hsv:∀ d:Cl,d.sv=.agg [.arr (d.lits.map Lt.d)]:=fun d=>rfl
 rw [show C1 [] (Lt.vsL c.lits)=c.ns from rfl] at n2
 rw [hcs,hob] at n4
 have her:=Lt.erss (c.rn (Do Gp c.ns)).lits
 rw [hsv] at n2 n4
 obtain ⟨ns,hns⟩:∃ ns,ns=c.ns:=⟨_,rfl⟩
 rw [←hns] at hnl hnn n2 n4 her ⊢
 have h0:=Xt Gp
 rw [hsv,hsv]
 refine Ad Vz JF (of_decide_eq_true rfl) ?_
 simp (disch:=omega) only [NL,go_sem,Aa,n2,Dn]
 refine go_loop (α:=Int) (fun a=>⟨slots 23 0 [(1,.ptr 0 0),(2,.ptr 1 0),(3,.ref 2),(8,.ref 3),(9,.int .i64 ns.length),(10,.int .i64 a)],[.box 28 [.arr (c.lits.map Lt.d)],.box 28 [.nil],.mp true (EX (Do Gp (ns.take a.toNat))),.row 9 1 (ns.map fun s=>[OT.str s])]⟩) (fun a=>∃ k:Nat,a=k∧k≤(ns).length) (fun a=>(ns).length-(a).toNat) 0 ⟨0,rfl,zF _⟩ (by simp (disch:=omega) only [go_sem,Aa,h0]) ?_
 rintro i ⟨k,hi,hk⟩
 have hni:i.toNat=k:=by omega
 have hni1:(i+1).toNat=k+1:=by omega
 rcases zB k (ns).length with hlt | hge
 ·have hg:=get_at (fun s=>[OT.str s]) hlt
  have hz:=FJ (show 0≤i by omega) (show i≤1099511627776 by omega)
  have hcut:=Qef (p:=LT) (by decide +kernel) i
  have hsz:=QeV (p:=LT) (by decide +kernel) i
  obtain ⟨nm,hnm'⟩:∃ nm,nm=ns[k]:=⟨_,rfl⟩
  have hk1:nm=pre LT i:=by rw [hnm',hnl k hlt,hi]
  rw [←hk1] at hcut hsz
  rw [hsz] at hcut
  have hb:dec ((#[89]:Array UInt8).size+(Fc i).size≤9223372036854775807)=true:=Ay (by simp; omega)
  have hs:Oo (EX (Do Gp (ns.take k))) (.str nm) (false,[.str ((⟨#[89]⟩:ByteArray)++Fc i)])=EX (Do Gp (ns.take (k+1))):=by
   rw [Uq,LJ Gp hlt,hi,hnm']; rfl
  rw [←hnm'] at hg
  clear hk1 hnm'
  simp (disch:=omega) only [go_sem,Aa,hni,hg,hb,hs,hsz,hcut]
  refine ⟨i+1,⟨k+1,by omega,hlt⟩,by omega,?_⟩
  simp (disch:=omega) only [go_sem,Aa,hni1]
 ·have ht:ns.take k=ns:=yI hge
  simp (disch:=omega) only [go_sem,Aa,hni,ht,n4,her,Lt.noss,Lt.fus,Cr]
theorem Uv {α β:Type} (g:α→β):∀ (l:List α) (i:Nat),(l.map g).eraseIdx i=(l.eraseIdx i).map g
 | [],i=>by cases i <;> rfl
 | a :: l,0=>rfl
 | a :: l,i+1=>by
  show g a :: (l.map g).eraseIdx i=g a :: (l.eraseIdx i).map g
  rw [Uv g l i]
noncomputable def Lt.ds (l:List Lt):List (List OT):=l.map fun b=>b.d.map D.ot
theorem Lt.Qe4 (l:List Lt):OT.erss (Lt.ds l)=l.map Lt.d:=Lt.der l
theorem Lt.Qe5 (l:List Lt):OT.AP (Lt.ds l)=true:=Lt.dfu l
theorem Lt.QeW (a b:List Lt):Lt.ds a++Lt.ds b=Lt.ds (a++b):=by unfold Lt.ds; rw [yF]
theorem Lt.V3 (a:List Lt):(Lt.ds a).length=a.length:=by unfold Lt.ds; rw [zC]
theorem Lt.QeX (a:List Lt):((Lt.ds a).all fun l=>l.length == 3)=true:=by
 unfold Lt.ds
 rw [zN]
 intro e he
 obtain ⟨b,_,rfl⟩:=yJ.1 he
 rfl
theorem Lt.Qfu (a:List Lt):((a.map Lt.d).map fun x=>x.map D.ot)=Lt.ds a:=by unfold Lt.ds; rw [yN]; rfl
theorem Cd:modes 95=⟨[],.asis,some OA,false⟩:=by unfold modes; rfl
theorem BX:modes 94=⟨[true],.asis,some L7,false⟩:=by unfold modes; rfl
theorem AQ:modes 99=⟨[true],.asis,some P6,false⟩:=by unfold modes; rfl
theorem Qb1 (xs:List Lt) (h0:xs≠[]) (h:xs.length≤1048576):E 95 [.arr (xs.map Lt.d)] []=some (.ref 0,[.row 73 3 (Lt.ds xs)]):=by
 rw [Hq (g:=OA) (congrArg FM.ext Cd)]
 unfold OA
 simp only
 rw [Ay ⟨by simpa using h0,by simpa using h,fun e he=>by obtain ⟨b,_,rfl⟩:=yJ.1 he; rfl⟩,cond_true,Lt.Qfu]
theorem Z1 (xs:List Lt) (i:Int) (h0:0≤i) (h1:i.toNat<xs.length) (h:xs.length≤1048576):E 94 [.ref 0,.int .i64 i,.int .i64 (i+1)] [.row 73 3 (Lt.ds xs)]=some (.ref 1,[.gone,.row 73 3 (Lt.ds (xs.eraseIdx i.toNat))]):=by
 rw [Hq (g:=L7) (congrArg FM.ext BX)]
 unfold L7
 simp only
 rw [Ay ⟨trivial,h0,by rw [Lt.V3]; exact h1,trivial,by rw [Lt.V3]; omega⟩,cond_true]
 unfold Lt.ds
 rw [Uv]
theorem QcT:E 99 [.nil,.int .i64 0] []=some (.nil,[]):=by
 rw [Hq (g:=P6) (congrArg FM.ext AQ)]
 unfold P6
 simp only
 rw [Ay trivial,cond_true]
theorem QcU (n:Int) (h:0<n) (h1:n≤1048576):E 99 [.nil,.int .i64 n] []=some (.ref 0,[.row 73 3 []]):=by
 rw [Hq (g:=P6) (congrArg FM.ext AQ)]
 unfold P6
 simp only
 rw [A8 (by omega),cond_false,Ay ⟨h,h1⟩,cond_true]
def KV:SC:=(.seq (.reg [⟨some 2,none,.boxv 28 1 (.t 0)⟩,⟨some 4,none,.mv (.c .nil)⟩]) (.seq (.reg [⟨some 5,none,.faddr 0 (.t 2)⟩,⟨some 6,none,.load false 1 (.t 5)⟩,⟨some 7,none,.call 95 [(.t 6)]⟩,⟨some 8,none,.mv (.t 1)⟩,⟨some 9,none,.mv (.t 1)⟩,⟨some 10,none,.bin .add false (.t 9) (.c (.int .i64 1))⟩,⟨some 11,none,.call 94 [(.t 7),(.t 8),(.t 10)]⟩,⟨some 4,none,.mv (.t 11)⟩]) .ret))
theorem Sa:codeOf Tryz.prog 59=some ⟨12,KV,[(.tmp 4)]⟩:=by kernel_rfl
theorem H5:modes 59=⟨[],.own [some (73,3)],none,false⟩:=by unfold modes; rfl
theorem Pa (c:Cl) (hl:c.lits.length≤1048575) (i:Int) (h0:0≤i) (h1:i.toNat<c.lits.length):E 59 [c.sv,.int .i64 i] []=some (.ref 0,[.row 73 3 (Lt.ds (c.lits.eraseIdx i.toNat))]):=by
 have hcs:c.sv=.agg [.arr (c.lits.map Lt.d)]:=rfl
 have h2:=Qb1 c.lits (fun e=>by rw [e] at h1; simp at h1) (by omega)
 have h3:=Z1 c.lits i h0 h1 (by omega)
 refine Ad Sa H5 (of_decide_eq_true rfl) ?_
 simp (disch:=omega) only [KV,go_sem,Aa,h2,h3,Cd,BX]
def BY:SC:=(.seq (.reg [⟨some 2,none,.mv (.c .nil)⟩]) (.seq (.reg [⟨some 3,none,.mv (.c (.int .i64 0))⟩]) (.seq (.seq (.reg [⟨some 9,none,.mv (.t 0)⟩,⟨some 10,none,.len false (.t 9)⟩,⟨some 11,none,.mv (.c (.int .i64 0))⟩]) (.block 0 (.loop [1,0,0,1,0,0,0,0,0,1,1,1,0,0,0,0,0,0,0,0,0,0,0,0,0,0,0,0,0,0,0,0,0,0,0,0] (.seq (.reg [⟨some 12,none,.bin .lss false (.t 11) (.t 10)⟩]) (.seq (.cond (.t 12) .skip (.exit 0)) (.seq (.block 1 (.seq (.reg [⟨some 13,none,.iaddr 1 (.t 9) (.t 11)⟩,⟨some 14,none,.load false 1 (.t 13)⟩,⟨some 5,none,.mv (.t 14)⟩]) (.seq (.reg [⟨some 15,none,.mv (.t 3)⟩,⟨some 16,none,.mv (.t 5)⟩,⟨some 17,none,.len false (.t 16)⟩,⟨some 18,none,.bin .add false (.t 15) (.t 17)⟩,⟨some 3,none,.mv (.t 18)⟩]) (.seq (.reg [⟨some 19,none,.mv (.t 3)⟩,⟨some 20,none,.bin .lss false (.t 19) (.c (.int .i64 0))⟩]) (.cond (.t 20) (.reg [⟨some 21,none,.un .neg (.c .nil)⟩,⟨none,none,(.un .neg (.c .nil))⟩]) .skip))))) (.reg [⟨some 22,none,.bin .add false (.t 11) (.c (.int .i64 1))⟩,⟨some 11,none,.mv (.t 22)⟩]))))))) (.seq (.reg [⟨some 23,none,.mv (.t 3)⟩,⟨some 24,none,.call 99 [(.c .nil),(.t 23)]⟩,⟨some 6,none,.mv (.t 24)⟩]) (.seq (.seq (.reg [⟨some 25,none,.mv (.t 0)⟩,⟨some 26,none,.len false (.t 25)⟩,⟨some 27,none,.mv (.c (.int .i64 0))⟩]) (.block 2 (.loop [0,0,0,0,0,0,1,0,0,0,0,0,0,0,0,0,0,0,0,0,0,0,0,0,0,1,1,1,0,0,0,0,0,0,0,0] (.seq (.reg [⟨some 28,none,.bin .lss false (.t 27) (.t 26)⟩]) (.seq (.cond (.t 28) .skip (.exit 2)) (.seq (.block 3 (.seq (.reg [⟨some 29,none,.iaddr 1 (.t 25) (.t 27)⟩,⟨some 30,none,.load false 1 (.t 29)⟩,⟨some 8,none,.mv (.t 30)⟩]) (.reg [⟨some 31,none,.mv (.t 6)⟩,⟨some 32,none,.mv (.t 8)⟩,⟨(some 33),none,(.append 73 3 48 [(.bool false),(.str ⟨#[]⟩),.nil] (.t 31) (.t 32))⟩,⟨some 6,none,.mv (.t 33)⟩]))) (.reg [⟨some 34,none,.bin .add false (.t 27) (.c (.int .i64 1))⟩,⟨some 27,none,.mv (.t 34)⟩]))))))) (.seq (.reg [⟨some 35,none,.mv (.t 6)⟩,⟨some 2,none,.mv (.t 35)⟩]) .ret))))))
theorem DG:codeOf Tryz.prog 67=some ⟨36,BY,[(.tmp 2)]⟩:=by kernel_rfl
theorem BZ:modes 67=⟨[],.own [some (73,3)],none,false⟩:=by unfold modes; rfl
theorem QcV (xs:List (List Lt)) (hx:xs.length≤1024) (hs:xs.flatten.length≤1048576):E 67 [.arr (xs.map fun l=>[D.arr (l.map Lt.d)])] []=some (.ref 0,[.row 73 3 (Lt.ds xs.flatten)]):=by
  have hd0:Lt.ds []=[]:=rfl
  refine Ad DG BZ (of_decide_eq_true rfl) ?_
  simp (disch:=omega) only [BY,go_sem,Aa]
  refine go_loop (α:=Int × (Int)) (fun a=>⟨slots 36 0 [(0,.arr (xs.map fun l=>[D.arr (l.map Lt.d)])),(3,.int .i64 (a.2)),(9,.arr (xs.map fun l=>[D.arr (l.map Lt.d)])),(10,.int .i64 xs.length),(11,.int .i64 (a.1))],[]⟩) (fun a=>∃ k:Nat,a.1=k∧k≤(xs).length∧(a.2)+((xs.drop k).flatten.length:Int)=xs.flatten.length∧0≤(a.2)) (fun a=>(xs).length-(a.1).toNat) (0,0) ⟨0,rfl,zF _,by rw [zJ]; dsimp only; omega,Int.le_refl _⟩ (by simp (disch:=omega) only [go_sem,Aa]) ?_
  rintro ⟨i,n⟩ ⟨k,hi,hk,hR⟩
  dsimp only at hi hR
  have hni:i.toNat=k:=by omega
  have hni1:(i+1).toNat=k+1:=by omega
  rcases zB k (xs).length with hlt | hge
  · have hg:=get_at (fun l:List Lt=>[D.arr (l.map Lt.d)]) hlt
    rw [zG hlt,y2,zV] at hR
    obtain ⟨hR1,hR2⟩:=hR
    have hge:dec (n+(xs[k].length:Int)<0)=false:=A8 (by omega)
    simp (disch:=omega) only [go_sem,Aa,hni,hg,hge]
    refine ⟨(i+1,n+xs[k].length),⟨k+1,by dsimp only; omega,hlt,by dsimp only; omega,by dsimp only; omega⟩,by dsimp only; omega,?_⟩
    first | trivial | rfl
  · rw [zI hge] at hR
    obtain ⟨hR1,hR2⟩:=hR
    have hn:n=xs.flatten.length:=by simpa using hR1
    clear hR1 hR2
    rcases zH xs.flatten.length with hz | hz
    · have hxe:∀ l∈xs,l=[]:=by
        have:=zE hz
        rwa [List.flatten_eq_nil_iff] at this
      have hfe:xs.flatten=[]:=zE hz
      obtain rfl:n=0:=by omega
      have hgr:=QcT
      rw [hfe]
      simp (disch:=omega) only [go_sem,Aa,hni,hgr,AQ]
      clear hi hni hni1 hk hge
      refine go_loop (α:=Int) (fun a=>⟨slots 36 0 [(6,(if a=0 then .nil else .ref 0)),(25,.arr (xs.map fun l=>[D.arr (l.map Lt.d)])),(26,.int .i64 xs.length),(27,.int .i64 a)],(if a=0 then [] else [.row 73 3 []])⟩) (fun a=>∃ k:Nat,a=k∧k≤(xs).length) (fun a=>(xs).length-(a).toNat) 0 ⟨0,rfl,zF _⟩ (by simp (disch:=omega) only [go_sem,Aa,eq_self,if_true]) ?_
      rintro i ⟨k,hi,hk⟩
      have hni:i.toNat=k:=by omega
      have hni1:(i+1).toNat=k+1:=by omega
      rcases zB k (xs).length with hlt | hge
      · have hg:=get_at (fun l:List Lt=>[D.arr (l.map Lt.d)]) hlt
        rw [hxe _ (zD hlt)] at hg
        rcases zH k with h0 | h0
        · subst h0
          obtain rfl:i=0:=hi
          simp (disch:=omega) only [go_sem,Aa,hg,eq_self,if_true]
          exact ⟨1,⟨1,rfl,hlt⟩,by omega,by first | trivial | rfl⟩
        · have hi0:(i=0)=False:=by simp; omega
          have hi1:(i+1=0)=False:=by simp; omega
          simp (disch:=omega) only [go_sem,Aa,hni,hg,hi0,if_false]
          exact ⟨i+1,⟨k+1,by omega,hlt⟩,by omega,by simp only [hi1,if_false,and_self]⟩
      · rcases zH k with h0 | h0
        · subst h0
          obtain rfl:i=0:=hi
          simp (disch:=omega) only [go_sem,Aa,eq_self,if_true,hd0]
        · have hi0:(i=0)=False:=by simp; omega
          simp (disch:=omega) only [go_sem,Aa,hni,hi0,if_false,hd0]
    · have hgr:=QcU n (by omega) (by omega)
      simp (disch:=omega) only [go_sem,Aa,hni,hgr,AQ]
      clear hi hni hni1 hk hge
      refine go_loop (α:=Int × (List Lt)) (fun a=>⟨slots 36 0 [(6,.ref 0),(25,.arr (xs.map fun l=>[D.arr (l.map Lt.d)])),(26,.int .i64 xs.length),(27,.int .i64 (a.1))],[.row 73 3 (Lt.ds (a.2))]⟩) (fun a=>∃ k:Nat,a.1=k∧k≤(xs).length∧(a.2)++(xs.drop k).flatten=xs.flatten) (fun a=>(xs).length-(a.1).toNat) (0,[]) ⟨0,rfl,zF _,by rw [zJ]; rfl⟩ (by simp (disch:=omega) only [go_sem,Aa,hd0]) ?_
      rintro ⟨i,acc⟩ ⟨k,hi,hk,hR⟩
      dsimp only at hi hR
      have hni:i.toNat=k:=by omega
      have hni1:(i+1).toNat=k+1:=by omega
      rcases zB k (xs).length with hlt | hge
      · have hg:=get_at (fun l:List Lt=>[D.arr (l.map Lt.d)]) hlt
        rw [zG hlt,y2,← y3] at hR
        have hlen:=congrArg List.length hR
        rw [zV,zV] at hlen
        have hap:Lt.ds acc++Lt.ds xs[k]=Lt.ds (acc++xs[k]):=Lt.QeW _ _
        have h1:=Lt.Qfu xs[k]
        have h2:=Lt.V3 xs[k]
        have h3:=Lt.V3 acc
        have h4:=Lt.QeX xs[k]
        simp (disch:=omega) only [go_sem,Aa,hni,hg,hap,h1,h2,h3,h4]
        refine ⟨(i+1,acc++xs[k]),⟨k+1,by dsimp only; omega,hlt,hR⟩,by dsimp only; omega,?_⟩
        first | trivial | rfl | simp only [hap]
      · rw [zI hge] at hR
        have hR:acc=xs.flatten:=by simpa using hR
        rw [←hR]
        simp (disch:=omega) only [go_sem,Aa,hni]
theorem LK (a:ByteArray):a.toList=a.data.toList:=ByteArray.toList_eq a
theorem Uw (p a b:ByteArray):strLt (p++a) (p++b)=strLt a b:=by
 unfold strLt
 rw [LK,LK,LK a,LK b,yU,yU,yW,yW]
 induction p.data.toList with
 | nil=>rfl
 | cons c l ih =>
  rw [yB,yB]
  simp only [Op.bytesLess,ih]
  simp
theorem NM {p a b:ByteArray}:p++a=p++b ↔ a=b:=by
 constructor
 ·intro h
  have h2:=congrArg (fun x:ByteArray=>x.data.toList) h
  simp only [yU,yW] at h2
  have h3:=List.append_cancel_left h2
  exact WJ (by rw [LK,LK]; exact h3)
 ·intro h; rw [h]
theorem QcW (p q a b:ByteArray):Ev (p++a) (p++b)=Ev (q++a) (q++b):=by
 unfold Ev
 rw [Uw,Uw]
 by_cases h:a=b
 ·rw [Ay (NM.2 h),Ay (NM.2 h)]
 ·rw [A8 (fun e=>h (NM.1 e)),A8 (fun e=>h (NM.1 e))]
def YOf (e:SEnv) (x:Tm):Prop:=∀ v∈x.vs,∃ r,v=LT++r∧e v=some (Gp++r)
theorem Tm.QcX {e:SEnv} {x:Tm} (hy:YOf e x) (hn:x.names=true) (hv:Ao x.name=true):∃ r,x.name=LT++r∧(x.rn e).name=Gp++r∧x.args=[]∧(x.rn e).args=[]:=by
 have h0:=Tm.Ez hn hv
 obtain ⟨r,h1,h2⟩:=hy x.name (by rw [Tm.F9,hv]; simp)
 refine ⟨r,h1,?_,h0,?_⟩
 ·rw [(Tm.Mm e x).1,h0,h2]; rfl
 ·rw [(Tm.Mm e x).2,h0]; rfl
theorem Tm.Qa8 {e:SEnv} (he:NH e) {x:Tm} (hn:x.names=true):Ao (x.rn e).name=Ao x.name:=by
 cases hv:Ao x.name with
 | false=>rw [Tm.JC he x hv,hv]
 | true =>
  rw [(Tm.Mm e x).1,Tm.Ez hn hv]
  show Ao ((e x.name).getD x.name)=true
  cases h:e x.name with
  | none=>exact hv
  | some n=>exact (he _ _ h).2
theorem YOf.arg {e:SEnv} {x:Tm} (hy:YOf e x) (hv:Ao x.name=false) {y:Tm} (h:y∈x.args):YOf e y:=fun v hv2=>hy v (by
 rw [Tm.F9,hv,cond_false,Tm.vsL_mem]
 exact ⟨y,h,hv2⟩)
theorem QcY {p a b:Int} (h:p=0→a=b):orZ p a=orZ p b:=by
 unfold orZ
 by_cases hp:p=0
 ·rw [if_pos hp,if_pos hp,h hp]
 ·rw [if_neg hp,if_neg hp]
theorem Qeh {n m:ByteArray} (h:GK (kvZ n) (kvZ m)=0):Ao n=Ao m:=by
 have:=(EA _ _ 0).zero.1 h
 unfold kvZ at this
 cases h1:Ao n <;> cases h2:Ao m <;> rw [h1,h2] at this <;> first | rfl | (simp at this)
theorem Qe6 {n m:ByteArray} (h:Ao n=Ao m):kvZ n=kvZ m:=by unfold kvZ; rw [h]
mutual
theorem Tm.QeY {e:SEnv} (he:NH e):∀ x y:Tm,x.names=true→y.names=true→YOf e x→YOf e y→(x.rn e).cmp (y.rn e)=x.cmp y
 | .mk n xs,.mk m ys=>fun hx hy ex ey=>by
  have k1:=Qe6 (Tm.Qa8 he hx)
  have k2:=Qe6 (Tm.Qa8 he hy)
  rw [Tm.Iw,Tm.Iw (.mk n xs),k1,k2]
  refine QcY fun hk=>?_
  have hk:=Qeh hk
  cases hv:Ao (Tm.mk n xs).name with
  | true =>
   have hw:Ao (Tm.mk m ys).name=true:=by rw [←hk]; exact hv
   obtain ⟨r,a1,a2,a3,a4⟩:=Tm.QcX ex hx hv
   obtain ⟨q,b1,b2,b3,b4⟩:=Tm.QcX ey hy hw
   rw [a1,a2,a3,a4,b1,b2,b3,b4,QcW Gp LT]
  | false =>
   have hw:Ao (Tm.mk m ys).name=false:=by rw [←hk]; exact hv
   rw [Tm.JC he _ hv,Tm.JC he _ hw,(Tm.Mm e _).2,(Tm.Mm e _).2,zC,zC]
   rw [show Tm.cmpL ((Tm.mk n xs).args.map (Tm.rn e)) ((Tm.mk m ys).args.map (Tm.rn e))=Tm.cmpL (Tm.mk n xs).args (Tm.mk m ys).args from Tm.V4 he xs ys (fun z hz=>Tm.DO hx hz) (fun z hz=>Tm.DO hy hz) (fun z hz=>ex.arg hv hz) fun z hz=>ey.arg hw hz]
theorem Tm.V4 {e:SEnv} (he:NH e):∀ xs ys:List Tm,(∀ z∈xs,z.names=true)→(∀ z∈ys,z.names=true)→(∀ z∈xs,YOf e z)→(∀ z∈ys,YOf e z)→Tm.cmpL (xs.map (Tm.rn e)) (ys.map (Tm.rn e))=Tm.cmpL xs ys
 | [],[]=>fun _ _ _ _=>rfl
 | [],y :: ys=>fun _ _ _ _=>by rw [zK,zL,Tm.cmpL,Tm.cmpL]
 | x :: xs,[]=>fun _ _ _ _=>by rw [zK,zL,Tm.cmpL,Tm.cmpL]
 | x :: xs,y :: ys=>fun h1 h2 h3 h4=>by
  rw [zK,zK,Tm.cmpL,Tm.cmpL,Tm.QeY he x y (h1 _ (by simp)) (h2 _ (by simp)) (h3 _ (by simp)) (h4 _ (by simp)),Tm.V4 he xs ys (fun z hz=>h1 z (by simp [hz])) (fun z hz=>h2 z (by simp [hz])) (fun z hz=>h3 z (by simp [hz])) fun z hz=>h4 z (by simp [hz])]
end
theorem Sc {x:Tm} (h:x.atom=true):Ao x.name=false:=by
 unfold Tm.atom at h
 split at h
 ·rename_i hq
  have:x.name=⟨#[61]⟩:=As.1 hq
  rw [this]; decide +kernel
 ·rw [zA] at h
  exact OR h.1
theorem Tm.Qei {e:SEnv} (he:NH e) (x y:Tm) (hx:x.atom=true) (hy:y.atom=true) (ex:YOf e x) (ey:YOf e y):(x.rn e).cmp (y.rn e)=x.cmp y:=by
 have hv:=Sc hx
 have hw:=Sc hy
 rw [Tm.Iw,Tm.Iw x,Tm.JC he _ hv,Tm.JC he _ hw,(Tm.Mm e _).2,(Tm.Mm e _).2,zC,zC]
 rw [Tm.V4 he x.args y.args (Tm.FN hx).2 (Tm.FN hy).2 (fun z hz=>ex.arg hv hz) fun z hz=>ey.arg hw hz]
theorem Cl.Z2 {c:Cl} (hc:c.ok=true) (hn:c.norm=true):(c.rn (Do Gp c.ns)).lits=c.lits.map (Lt.rn (Do Gp c.ns)):=by
 have he:=Cl.yE hc
 have hnl:NI c.ns:=As.1 hn
 have hy:∀ x∈c.lits,YOf (Do Gp c.ns) x.atom:=fun x hx v hv=>by
  have hm:v∈c.ns:=Cl.QcO.2 ⟨x,hx,hv⟩
  obtain ⟨k,hk,rfl⟩:=zX hm
  exact ⟨Fc k,hnl k hk,RW Gp c.ns_nodup hk⟩
 have hs:CS (c.lits.map (Lt.rn (Do Gp c.ns))):=by
  unfold CS
  rw [List.pairwise_map]
  refine List.Pairwise.imp_of_mem ?_ (Cl.Ut hc)
  intro a b ha hb h
  have e:((Lt.rn (Do Gp c.ns) a).cmp (Lt.rn (Do Gp c.ns) b))=a.cmp b:=by
   unfold Lt.cmp Lt.rn
   dsimp only
   rw [Tm.Qei he _ _ (Cl.BR hc a ha) (Cl.BR hc b hb) (hy a ha) (hy b hb)]
  rw [e]; exact h
 unfold Cl.rn
 rw [Xs hs]
def bdLe (x y:Bd):Bool:=!strLt y.var x.var
def Gr:List Bd→Bd→List Bd
 | [],b=>[b]
 | x :: xs,b=>bif strLt x.var b.var then x :: Gr xs b else b :: x :: xs
theorem LL (b:Bd):∀ xs:List Bd,(Gr xs b).Perm (b :: xs)
 | []=>.refl _
 | x :: xs=>by
  rw [Gr]
  cases strLt x.var b.var with
  | true=>exact ((LL b xs).cons x).trans (.swap b x xs)
  | false=>exact .refl _
theorem Sd {a b c:Bd} (h:bdLe a b=true) (k:bdLe b c=true):bdLe a c=true:=by
  unfold bdLe at *
  cases hq:strLt c.var a.var with
  | false=>rfl
  | true =>
    cases hb:strLt b.var a.var with
    | true=>rw [hb] at h; cases h
    | false =>
      cases hc:strLt c.var b.var with
      | true=>rw [hc] at k; cases k
      | false =>
        cases hab:strLt a.var b.var with
        | true=>rw [KN hq hab] at hc; cases hc
        | false =>
          have:=KM hab hb
          rw [this] at hq; rw [hq] at hc; cases hc
theorem Z3 (a b:Bd):(bdLe a b || bdLe b a)=true:=by
 unfold bdLe
 cases h:strLt b.var a.var with
 | false=>rfl
 | true=>rw [KL h]; rfl
theorem PC (b:Bd):∀ xs:List Bd,xs.Pairwise (fun x y=>bdLe x y=true)→(Gr xs b).Pairwise fun x y=>bdLe x y=true
  | [],_=>by simp [Gr]
  | x :: xs,h=>by
    rw [Gr]
    rw [zZ] at h
    cases hq:strLt x.var b.var with
    | true =>
      rw [cond_true,zZ]
      refine ⟨fun y hy=>?_,PC b xs h.2⟩
      rcases yL.1 ((LL b xs).mem_iff.1 hy) with rfl | hy
      · unfold bdLe; rw [KL hq]; rfl
      · exact h.1 y hy
    | false =>
      have hb:bdLe b x=true:=by unfold bdLe; rw [hq]; rfl
      rw [cond_false,zZ,zZ]
      refine ⟨fun y hy=>?_,h⟩
      rcases yL.1 hy with rfl | hy
      · exact hb
      · exact Sd hb (h.1 y hy)
def I7 (xs ys:List Bd):List Bd:=ys.foldl Gr xs
theorem Pb:∀ (ys xs:List Bd),(I7 xs ys).Perm (xs++ys)
 | [],xs=>by simp [I7]
 | y :: ys,xs=>by
  have h:=Pb ys (Gr xs y)
  simp only [I7,z8] at h ⊢
  refine h.trans ?_
  have h2:(Gr xs y++ys).Perm ((y :: xs)++ys):=(LL y xs).append_right ys
  exact h2.trans List.perm_middle.symm
theorem PD:∀ (ys xs:List Bd),xs.Pairwise (fun x y=>bdLe x y=true)→(I7 xs ys).Pairwise fun x y=>bdLe x y=true
 | [],xs,h=>h
 | y :: ys,xs,h=>by
  simp only [I7,z8]
  exact PD ys (Gr xs y) (PC y xs h)
theorem QcZ (xs a b:List Bd):I7 xs (a++b)=I7 (I7 xs a) b:=y4
theorem Qb2 {ys:List Bd} (hn:(ys.map Bd.var).Nodup):I7 [] ys=ys.mergeSort bdLe:=by
 have h1:(I7 [] ys).Perm ys:=by simpa using Pb ys []
 have h2:(ys.mergeSort bdLe).Perm ys:=List.mergeSort_perm _ _
 refine List.Perm.eq_of_pairwise (le:=fun x y=>bdLe x y=true) ?_ (PD ys [] xA) (List.pairwise_mergeSort (le:=bdLe) (fun _ _ _ h k=>Sd h k) Z3 ys) (h1.trans h2.symm)
 intro a b ha hb hab hba
 unfold bdLe at hab hba
 have e:a.var=b.var:=KM (by simpa using hba) (by simpa using hab)
 have ha:=h1.mem_iff.1 ha
 have hb:=h2.mem_iff.1 hb
 obtain ⟨i,hi,rfl⟩:=zX ha
 obtain ⟨j,hj,rfl⟩:=zX hb
 have hij:i=j:=(List.getElem_inj (h₀:=by simpa using hi) (h₁:=by simpa using hj) hn).1 (by simpa using e)
 subst hij; rfl
theorem Xv (b:Bd):∀ xs:List Bd,Gr xs b=xs.take (Bo xs b.var)++b :: xs.drop (Bo xs b.var)
 | []=>by simp [Gr,Bo]
 | x :: xs=>by
  rw [Gr,Bo]
  cases h:strLt x.var b.var with
  | true=>rw [cond_true,Xv b xs]; simp
  | false=>simp
noncomputable def CI (u:Sb) (b:Bd):Option Bd:=bif dec ((b.term.ap u.look).name=b.var) then none else some ⟨b.var,b.term.ap u.look⟩
noncomputable def H6 (s u:Sb):List Bd:=s.binds.filterMap (CI u)
noncomputable def Qa9 (s u:Sb):List Bd:=u.binds.filter fun b=>!DS s.binds b.var
noncomputable def Cs (s u:Sb):List Bd:=H6 s u++Qa9 s u
noncomputable def Cm (s u:Sb):Sb:=⟨(Cs s u).mergeSort bdLe⟩
theorem MR:∀ {xs:List Bd},ND xs→(xs.map Bd.var).Nodup:=by
 intro xs h
 unfold List.Nodup
 rw [yO]
 intro i j hi hj hij e
 rw [zC] at hj
 have:=h i j hij hj
 simp only [yC] at e
 rw [e,Hv] at this
 cases this
theorem Xw {xs:List Bd} (hs:ND xs) (n:ByteArray):DS xs n=xs.any fun b=>dec (b.var=n):=by
 rw [←R2,RJ hs]
 cases DS xs n with
 | true=>rw [if_pos rfl]; exact (Ay (by omega)).symm
 | false=>rw [if_neg (by simp)]; exact (A8 (by omega)).symm
theorem Ux {s u:Sb} {b:Bd} (h:b∈H6 s u):∃ c∈s.binds,b.var=c.var∧b.term=c.term.ap u.look:=by
 obtain ⟨c,hc,h⟩:=List.mem_filterMap.1 h
 refine ⟨c,hc,?_⟩
 unfold CI at h
 cases hq:dec ((c.term.ap u.look).name=c.var) with
 | true=>rw [hq] at h; cases h
 | false=>rw [hq] at h; obtain rfl:=yP h; exact ⟨rfl,rfl⟩
theorem KW (u:Sb):∀ xs:List Bd,((xs.filterMap (CI u)).map Bd.var).Sublist (xs.map Bd.var)
  | []=>.slnil
  | x :: xs=>by
    rw [List.filterMap_cons,zK]
    have h:=KW u xs
    cases hq:CI u x with
    | none=>exact h.cons _
    | some c =>
      have e:c.var=x.var:=by
        unfold CI at hq
        cases hd:dec ((x.term.ap u.look).name=x.var) with
        | true=>rw [hd] at hq; cases hq
        | false=>rw [hd] at hq; obtain rfl:=yP hq; rfl
      simp only [zK,e]
      exact h.cons_cons _
theorem NN {s u:Sb} (hs:ND s.binds) (hu:ND u.binds):((Cs s u).map Bd.var).Nodup:=by
 unfold Cs
 rw [yF,List.nodup_append]
 refine ⟨(KW u s.binds).nodup (MR hs),(List.Sublist.map _ List.filter_sublist).nodup (MR hu),fun a ha b hb e=>?_⟩
 subst e
 obtain ⟨x,hx,rfl⟩:=yJ.1 ha
 obtain ⟨y,hy,e⟩:=yJ.1 hb
 obtain ⟨c,hc,h1,_⟩:=Ux hx
 have hy2:=(List.mem_filter.1 hy).2
 rw [Xw hs,Bool.not_eq_true'] at hy2
 have:=List.any_eq_false.1 hy2 c hc
 exact this (Ay (by rw [←h1,e]))
theorem Se (s u:Sb):(Cs s u).length≤s.binds.length+u.binds.length:=by
 unfold Cs H6 Qa9
 rw [zV]
 have h1:=List.length_filterMap_le (CI u) s.binds
 have h2:=List.length_filter_le (fun b=>!DS s.binds b.var) u.binds
 omega
mutual
def Tm.wt:Tm→Nat
 | .mk name args=>1+Tm.wtS args
def Tm.wtS:List Tm→Nat
 | []=>0
 | x :: xs=>Tm.wt x+Tm.wtS xs
end
theorem Tm.wt_eq (x:Tm):x.wt=1+Tm.wtS x.args:=by
 obtain ⟨name,args⟩:=x
 rw [Tm.wt]; rfl
mutual
noncomputable def Tm.mk1:Tm→Int→Tm × Int
 | .mk name args,k=>((Tm.mk (HN k) ((Tm.mkS args (k+1)).1)),(Tm.mkS args (k+1)).2)
noncomputable def Tm.mkS:List Tm→Int→List Tm × Int
 | [],k=>([],k)
 | x :: xs,k=>((Tm.mk1 x k).1 :: (Tm.mkS xs (Tm.mk1 x k).2).1,(Tm.mkS xs (Tm.mk1 x k).2).2)
end
theorem Tm.mk1_eq (x:Tm) (k:Int):x.mk1 k=((Tm.mk (HN k) ((Tm.mkS x.args (k+1)).1)),(Tm.mkS x.args (k+1)).2):=by
 obtain ⟨name,args⟩:=x
 rw [Tm.mk1]; rfl
theorem Tm.mk1_d (x:Tm) (k:Int):Tm.d (x.mk1 k).1=[.str (HN k),.arr ((Tm.mkS x.args (k+1)).1.map Tm.d)]:=by
 rw [Tm.mk1_eq,Tm.d_eq]
 try rfl
theorem Tm.mk1_o (x:Tm) (k:Int):Tm.o (x.mk1 k).1=[.str (HN k),.ow ((Tm.mkS x.args (k+1)).1.map Tm.o)]:=by
 rw [Tm.mk1_eq,Tm.o_eq]
 try rfl
theorem Tm.MS:∀ (xs:List Tm) (k:Int),(∀ x∈xs,∀ k,(x.mk1 k).2=k+x.wt)→(Tm.mkS xs k).2=k+Tm.wtS xs
 | [],k,_=>by simp [Tm.mkS,Tm.wtS]
 | x :: xs,k,h=>by
  rw [Tm.mkS,Tm.wtS]
  have h1:=h x (by simp) k
  have h2:=Tm.MS xs (x.mk1 k).2 fun y hy=>h y (by simp [hy])
  dsimp only
  omega
theorem Tm.mk1_end (x:Tm) (k:Int):(x.mk1 k).2=k+x.wt:=by
 rw [Tm.mk1_eq,Tm.wt_eq]
 have h:=fun k=>Tm.MS x.args k fun y hy k=>Tm.mk1_end y k
 simp only [h]
 omega
termination_by SizeOf.sizeOf x
decreasing_by exact Tm.Aw hy
theorem Tm.mkS_end (xs:List Tm) (k:Int):(Tm.mkS xs k).2=k+Tm.wtS xs:=Tm.MS xs k fun x _ k=>Tm.mk1_end x k
theorem Tm.Z4:∀ xs:List Tm,(∀ x∈xs,x.wt≤5*(1+x.bulk))→Tm.wtS xs≤5*(xs.length+Tm.sumB xs)
 | [],_=>by simp [Tm.wtS]
 | x :: xs,h=>by
  have h1:=h x (by simp)
  have h2:=Tm.Z4 xs fun y hy=>h y (by simp [hy])
  rw [Tm.wtS,Tm.sumB]; simp only [zP]; omega
theorem Tm.wt_bulk (x:Tm):x.wt≤5*(1+x.bulk):=by
 rw [Tm.wt_eq,Tm.bulk_eq]
 have h:=Tm.Z4 x.args fun y hy=>Tm.wt_bulk y
 omega
termination_by SizeOf.sizeOf x
decreasing_by exact Tm.Aw hy
theorem Tm.wtS_bulk (xs:List Tm):Tm.wtS xs≤5*(xs.length+Tm.sumB xs):=Tm.Z4 xs fun x _=>Tm.wt_bulk x
theorem Tm.length_wt:∀ xs:List Tm,xs.length≤Tm.wtS xs
 | []=>zO _
 | x :: xs=>by
  have:=Tm.length_wt xs
  have:=Tm.wt_eq x
  rw [Tm.wtS]; simp only [zP]; omega
def Ja:SC:=(.seq (.reg [⟨some 4,none,.mv (.c (.int .i64 0))⟩]) (.seq (.seq (.reg [⟨some 5,none,.mv (.c (.int .i64 0))⟩]) (.block 0 (.loop [1,1,0,0,0,1,0,0,0,0,0,0,0,0,0,0,0,0,0,0,0,0,0,0,0,0,0,0] (.seq (.seq (.reg [⟨some 6,none,.mv (.t 5)⟩,⟨some 7,none,.mv (.t 0)⟩,⟨some 8,none,.len false (.t 7)⟩,⟨some 9,none,.bin .lss false (.t 6) (.t 8)⟩]) (.cond (.t 9) .skip (.exit 0))) (.seq (.block 1 (.seq (.reg [⟨some 12,none,.mv (.t 0)⟩,⟨some 13,none,.mv (.t 5)⟩,⟨some 14,none,.mv (.t 1)⟩,⟨some 15,none,.call 61 [(.t 14)]⟩,⟨some 16,none,.iaddr 2 (.t 12) (.t 13)⟩,⟨some 17,none,.faddr 0 (.t 16)⟩,⟨none,none,(.store 1 (.t 17) (.t 15))⟩]) (.seq (.reg [⟨some 18,none,.mv (.t 1)⟩,⟨some 19,none,.bin .add false (.t 18) (.c (.int .i64 1))⟩,⟨some 1,none,.mv (.t 19)⟩]) (.reg [⟨some 20,none,.mv (.t 0)⟩,⟨some 21,none,.mv (.t 5)⟩,⟨some 22,none,.iaddr 2 (.t 20) (.t 21)⟩,⟨some 23,none,.faddr 1 (.t 22)⟩,⟨some 24,none,.load false 1 (.t 23)⟩,⟨some 25,none,.mv (.t 1)⟩,⟨some 26,none,.call 62 [(.t 24),(.t 25)]⟩,⟨some 1,none,.mv (.t 26)⟩])))) (.reg [⟨some 10,none,.mv (.t 5)⟩,⟨some 11,none,.bin .add false (.t 10) (.c (.int .i64 1))⟩,⟨some 5,none,.mv (.t 11)⟩])))))) (.seq (.reg [⟨some 27,none,.mv (.t 1)⟩,⟨some 4,none,.mv (.t 27)⟩]) .ret)))
theorem Pc:codeOf Tryz.prog 62=some ⟨28,Ja,[(.tmp 4)]⟩:=by kernel_rfl
theorem FP:modes 62=⟨[true],.asis,none,true⟩:=by unfold modes; rfl
abbrev Ia (xs:List Tm):Prop:=∀ (k:Int) (ob:List Ob),1≤k→k+Tm.wtS xs≤1099511627776→toTree ob=[.tree (xs.map Tm.o) []]→E 62 [.ref 0,.int .i64 k] ob=some (.int .i64 (Tm.mkS xs k).2,[.tree ((Tm.mkS xs k).1.map Tm.o) []])
theorem KX (xs:List Tm) (ih:∀ x∈xs,Ia x.args):Ia xs:=by
 intro k0 ob h1 h2 hob
 have hlen:ob.length=1:=by rw [←Jt,hob]; rfl
 have hL:=Tm.length_wt xs
 refine Ad Pc FP (of_decide_eq_true rfl) ?_
 simp (disch:=omega) only [Ja,go_sem,Aa,hob,hlen]
 refine go_loop (α:=Int × (Int) × (List Tm)) (fun a=>⟨slots 28 0 [(0,.ref 0),(1,.int .i64 (a.2.1)),(5,.int .i64 (a.1))],[.tree (((a.2.2)++xs.drop (a.1).toNat).map Tm.o) []]⟩) (fun a=>∃ k:Nat,a.1=k∧k≤(xs).length∧(a.2.2).length=k∧1≤(a.2.1)∧(a.2.1)+Tm.wtS (xs.drop k)=k0+Tm.wtS xs∧Tm.mkS xs k0=((a.2.2)++(Tm.mkS (xs.drop k) (a.2.1)).1,(Tm.mkS (xs.drop k) (a.2.1)).2)) (fun a=>(xs).length-(a.1).toNat) (0,k0,[]) ⟨0,rfl,zF _,rfl,h1,by rw [zJ],by simp⟩ (by simp (disch:=omega) only [go_sem,Aa,yD]) ?_
 rintro ⟨i,kk,dn⟩ ⟨k,hi,hk,hR⟩
 dsimp only at hi hR
 have hni:i.toNat=k:=by omega
 have hni1:(i+1).toNat=k+1:=by omega
 rcases zB k (xs).length with hlt | hge
 ·obtain ⟨hd,hk1,hkn,hm⟩:=hR
  have hdr:xs.drop k=xs[k] :: xs.drop (k+1):=zG hlt
  have hel:(dn++xs.drop k).length=xs.length:=by simp; omega
  have hg:(List.map Tm.o (dn++xs.drop k))[k]?=some [.str xs[k].name,.ow (xs[k].args.map Tm.o)]:=by
   rw [←Tm.o_eq,hdr,List.getElem?_map,yZ (by omega),hd,Nat.sub_self]; rfl
  rw [hdr,Tm.wtS] at hkn
  rw [hdr,Tm.mkS] at hm
  have hn1:=Tm.wt_eq xs[k]
  have e1:=Tm.mkS_end xs[k].args ((kk+1))
  have t0:=J2 (k:=kk) (by omega) (by omega)
  have c58:=ih xs[k] (zD hlt) ((kk+1)) [.tree (xs[k].args.map Tm.o) []] (by omega) (by omega) rfl
  have hs:=P7 Tm.o dn (xs.drop (k+1)) xs[k] (xs[k].mk1 kk).1 hd
  rw [Tm.mk1_o,← hdr] at hs
  have hgs:∀ a,((List.map Tm.o (dn++xs.drop k)).set k a)[k]?=some a:=fun a=>List.getElem?_set_self (by rw [zC,hel]; exact hlt)
  have he:=Tm.mk1_end xs[k] kk
  have three:∀ z:Int,dec ((3:Int)=0)=false:=fun _=>A8 (by omega)
  simp (disch:=omega) only [go_sem,Aa,hni,hel,hg,t0,c58,FP,EM,hgs,List.length_set,List.set_set,hs,three 0]
  refine ⟨(i+1,(xs[k].mk1 kk).2,dn++[(xs[k].mk1 kk).1]),⟨k+1,by dsimp only; omega,hlt,by dsimp only; simp [hd],by dsimp only; omega,by dsimp only; omega,by rw [hm]; simp⟩,by dsimp only; omega,?_⟩
  dsimp only
  rw [hni1,Tm.mk1_eq]
  refine ⟨⟨?_,rfl⟩,rfl⟩
  first | rfl | omega
 ·obtain ⟨hd,hk1,hkn,hm⟩:=hR
  have hdr:xs.drop k=[]:=zI hge
  rw [hdr,Tm.mkS] at hm
  rw [hm]
  simp (disch:=omega) only [go_sem,Aa,hni,hdr,y7]
theorem NO (x:Tm):Ia x.args:=KX x.args fun y hy=>NO y
termination_by SizeOf.sizeOf x
decreasing_by exact Tm.Aw hy
theorem Xx (xs:List Tm):Ia xs:=KX xs fun y _=>NO y
def Lt.wt (x:Lt):Nat:=2+Tm.wtS x.atom.args
theorem Lt.wt_eq (x:Lt):x.wt=2+Tm.wtS x.atom.args:=rfl
noncomputable def Lt.mk1 (x:Lt) (k:Int):Lt × Int:=((Lt.mk (dec (k.tmod 3=0)) (Tm.mk (HN (k+1)) ((Tm.mkS x.atom.args (k+1+1)).1))),(Tm.mkS x.atom.args (k+1+1)).2)
theorem Lt.mk1_eq (x:Lt) (k:Int):x.mk1 k=((Lt.mk (dec (k.tmod 3=0)) (Tm.mk (HN (k+1)) ((Tm.mkS x.atom.args (k+1+1)).1))),(Tm.mkS x.atom.args (k+1+1)).2):=rfl
def Lt.wtS:List Lt→Nat
 | []=>0
 | x :: xs=>Lt.wt x+Lt.wtS xs
noncomputable def Lt.mkS:List Lt→Int→List Lt × Int
 | [],k=>([],k)
 | x :: xs,k=>((Lt.mk1 x k).1 :: (Lt.mkS xs (Lt.mk1 x k).2).1,(Lt.mkS xs (Lt.mk1 x k).2).2)
theorem Lt.mk1_d (x:Lt) (k:Int):Lt.d (x.mk1 k).1=[.bool (dec (k.tmod 3=0)),.str (HN (k+1)),.arr ((Tm.mkS x.atom.args (k+1+1)).1.map Tm.d)]:=by
 rw [Lt.mk1_eq,Lt.d_eq]
 try rfl
theorem Lt.mk1_o (x:Lt) (k:Int):Lt.o (x.mk1 k).1=[.bool (dec (k.tmod 3=0)),.str (HN (k+1)),.ow ((Tm.mkS x.atom.args (k+1+1)).1.map Tm.o)]:=by
 rw [Lt.mk1_eq,Lt.o_eq]
 try rfl
theorem Lt.mk1_end (x:Lt) (k:Int):(x.mk1 k).2=k+x.wt:=by
 rw [Lt.mk1_eq,Lt.wt_eq]
 first
  |omega
  |(simp only [Tm.mkS_end]; done)
  |(simp only [Tm.mkS_end]; omega)
  |simp
theorem Lt.mkS_end:∀ (xs:List Lt) (k:Int),(Lt.mkS xs k).2=k+Lt.wtS xs
 | [],k=>by simp [Lt.mkS,Lt.wtS]
 | x :: xs,k=>by
  rw [Lt.mkS,Lt.wtS]
  have h1:=Lt.mk1_end x k
  have h2:=Lt.mkS_end xs (x.mk1 k).2
  dsimp only
  omega
theorem Lt.wt_bulk (x:Lt):x.wt≤5*(1+x.bulk):=by
 rw [Lt.wt_eq,Lt.bulk_eq]
 have h0:=Tm.wtS_bulk x.atom.args
 have q1:=Tm.bulk_eq x.atom
 omega
theorem Lt.wtS_bulk:∀ xs:List Lt,Lt.wtS xs≤5*(xs.length+Lt.sumB xs)
 | []=>by simp [Lt.wtS]
 | x :: xs=>by
  have h1:=Lt.wt_bulk x
  have h2:=Lt.wtS_bulk xs
  rw [Lt.wtS,Lt.sumB]; simp only [zP]; omega
theorem Lt.length_wt:∀ xs:List Lt,xs.length≤Lt.wtS xs
 | []=>zO _
 | x :: xs=>by
  have:=Lt.length_wt xs
  have:=Lt.wt_eq x
  rw [Lt.wtS]; simp only [zP]; omega
def GD:SC:=(.seq (.reg [⟨some 4,none,.mv (.c (.int .i64 0))⟩]) (.seq (.seq (.reg [⟨some 5,none,.mv (.c (.int .i64 0))⟩]) (.block 0 (.loop [1,1,0,0,0,1,0,0,0,0,0,0,0,0,0,0,0,0,0,0,0,0,0,0,0,0,0,0,0,0,0,0,0,0,0,0,0,0,0] (.seq (.seq (.reg [⟨some 6,none,.mv (.t 5)⟩,⟨some 7,none,.mv (.t 0)⟩,⟨some 8,none,.len false (.t 7)⟩,⟨some 9,none,.bin .lss false (.t 6) (.t 8)⟩]) (.cond (.t 9) .skip (.exit 0))) (.seq (.block 1 (.seq (.reg [⟨some 12,none,.mv (.t 0)⟩,⟨some 13,none,.mv (.t 5)⟩,⟨some 14,none,.mv (.t 1)⟩,⟨some 15,none,.bin .rem false (.t 14) (.c (.int .i64 3))⟩,⟨some 16,none,.bin .eql false (.t 15) (.c (.int .i64 0))⟩,⟨some 17,none,.iaddr 3 (.t 12) (.t 13)⟩,⟨some 18,none,.faddr 0 (.t 17)⟩,⟨none,none,(.store 1 (.t 18) (.t 16))⟩]) (.seq (.reg [⟨some 19,none,.mv (.t 1)⟩,⟨some 20,none,.bin .add false (.t 19) (.c (.int .i64 1))⟩,⟨some 1,none,.mv (.t 20)⟩]) (.seq (.reg [⟨some 21,none,.mv (.t 0)⟩,⟨some 22,none,.mv (.t 5)⟩,⟨some 23,none,.mv (.t 1)⟩,⟨some 24,none,.call 61 [(.t 23)]⟩,⟨some 25,none,.iaddr 3 (.t 21) (.t 22)⟩,⟨some 26,none,.faddr 1 (.t 25)⟩,⟨some 27,none,.faddr 0 (.t 26)⟩,⟨none,none,(.store 1 (.t 27) (.t 24))⟩]) (.seq (.reg [⟨some 28,none,.mv (.t 1)⟩,⟨some 29,none,.bin .add false (.t 28) (.c (.int .i64 1))⟩,⟨some 1,none,.mv (.t 29)⟩]) (.reg [⟨some 30,none,.mv (.t 0)⟩,⟨some 31,none,.mv (.t 5)⟩,⟨some 32,none,.iaddr 3 (.t 30) (.t 31)⟩,⟨some 33,none,.faddr 1 (.t 32)⟩,⟨some 34,none,.faddr 1 (.t 33)⟩,⟨some 35,none,.load false 1 (.t 34)⟩,⟨some 36,none,.mv (.t 1)⟩,⟨some 37,none,.call 62 [(.t 35),(.t 36)]⟩,⟨some 1,none,.mv (.t 37)⟩])))))) (.reg [⟨some 10,none,.mv (.t 5)⟩,⟨some 11,none,.bin .add false (.t 10) (.c (.int .i64 1))⟩,⟨some 5,none,.mv (.t 11)⟩])))))) (.seq (.reg [⟨some 38,none,.mv (.t 1)⟩,⟨some 4,none,.mv (.t 38)⟩]) .ret)))
theorem LV:codeOf Tryz.prog 35=some ⟨39,GD,[(.tmp 4)]⟩:=by kernel_rfl
theorem GE:modes 35=⟨[true],.asis,none,true⟩:=by unfold modes; rfl
abbrev KY (xs:List Lt):Prop:=∀ (k:Int) (ob:List Ob),1≤k→k+Lt.wtS xs≤1099511627776→toTree ob=[.tree (xs.map Lt.o) []]→E 35 [.ref 0,.int .i64 k] ob=some (.int .i64 (Lt.mkS xs k).2,[.tree ((Lt.mkS xs k).1.map Lt.o) []])
theorem NP (xs:List Lt):KY xs:=by
 intro k0 ob h1 h2 hob
 have hlen:ob.length=1:=by rw [←Jt,hob]; rfl
 have hL:=Lt.length_wt xs
 refine Ad LV GE (of_decide_eq_true rfl) ?_
 simp (disch:=omega) only [GD,go_sem,Aa,hob,hlen]
 refine go_loop (α:=Int × (Int) × (List Lt)) (fun a=>⟨slots 39 0 [(0,.ref 0),(1,.int .i64 (a.2.1)),(5,.int .i64 (a.1))],[.tree (((a.2.2)++xs.drop (a.1).toNat).map Lt.o) []]⟩) (fun a=>∃ k:Nat,a.1=k∧k≤(xs).length∧(a.2.2).length=k∧1≤(a.2.1)∧(a.2.1)+Lt.wtS (xs.drop k)=k0+Lt.wtS xs∧Lt.mkS xs k0=((a.2.2)++(Lt.mkS (xs.drop k) (a.2.1)).1,(Lt.mkS (xs.drop k) (a.2.1)).2)) (fun a=>(xs).length-(a.1).toNat) (0,k0,[]) ⟨0,rfl,zF _,rfl,h1,by rw [zJ],by simp⟩ (by simp (disch:=omega) only [go_sem,Aa,yD]) ?_
 rintro ⟨i,kk,dn⟩ ⟨k,hi,hk,hR⟩
 dsimp only at hi hR
 have hni:i.toNat=k:=by omega
 have hni1:(i+1).toNat=k+1:=by omega
 rcases zB k (xs).length with hlt | hge
 ·obtain ⟨hd,hk1,hkn,hm⟩:=hR
  have hdr:xs.drop k=xs[k] :: xs.drop (k+1):=zG hlt
  have hel:(dn++xs.drop k).length=xs.length:=by simp; omega
  have hg:(List.map Lt.o (dn++xs.drop k))[k]?=some [.bool xs[k].pos,.str xs[k].atom.name,.ow (xs[k].atom.args.map Tm.o)]:=by
   rw [←Lt.o_eq,hdr,List.getElem?_map,yZ (by omega),hd,Nat.sub_self]; rfl
  rw [hdr,Lt.wtS] at hkn
  rw [hdr,Lt.mkS] at hm
  have hn1:=Lt.wt_eq xs[k]
  have e2:=Tm.mkS_end xs[k].atom.args ((kk+1+1))
  have t0:=J2 (k:=(kk+1)) (by omega) (by omega)
  have c64:=Xx xs[k].atom.args ((kk+1+1)) [.tree (xs[k].atom.args.map Tm.o) []] (by omega) (by omega) rfl
  have hs:=P7 Lt.o dn (xs.drop (k+1)) xs[k] (xs[k].mk1 kk).1 hd
  rw [Lt.mk1_o,← hdr] at hs
  have hgs:∀ a,((List.map Lt.o (dn++xs.drop k)).set k a)[k]?=some a:=fun a=>List.getElem?_set_self (by rw [zC,hel]; exact hlt)
  have he:=Lt.mk1_end xs[k] kk
  have three:∀ z:Int,dec ((3:Int)=0)=false:=fun _=>A8 (by omega)
  simp (disch:=omega) only [go_sem,Aa,hni,hel,hg,t0,c64,FP,EM,hgs,List.length_set,List.set_set,hs,three 0]
  refine ⟨(i+1,(xs[k].mk1 kk).2,dn++[(xs[k].mk1 kk).1]),⟨k+1,by dsimp only; omega,hlt,by dsimp only; simp [hd],by dsimp only; omega,by dsimp only; omega,by rw [hm]; simp⟩,by dsimp only; omega,?_⟩
  dsimp only
  rw [hni1,Lt.mk1_eq]
  refine ⟨⟨?_,rfl⟩,rfl⟩
  first | rfl | omega
 ·obtain ⟨hd,hk1,hkn,hm⟩:=hR
  have hdr:xs.drop k=[]:=zI hge
  rw [hdr,Lt.mkS] at hm
  rw [hm]
  simp (disch:=omega) only [go_sem,Aa,hni,hdr,y7]
theorem Sf (xs:List Lt):KY xs:=NP xs
end Go.Proofs.YtibdknkacmimgaaGreatDoor
