/-
  This text holds, one behind the other: This text gives the steps of runs once more, of a kind where no draw is taken back: no function is told apart there. No condition.
  This text tells what the comparison of literals answers, as a function that takes no draw back. No condition.
  This text tells what the equality of terms answers in both packages. No condition.
  This text tells what copies of terms answer in both packages. No condition.
  This text holds a rule for runs of which a part of the answer is left open. No condition.
  This text tells what the reference's copies of terms answer. No condition.
  This text tells what making a clause of a list of literals answers in both packages: the list in order, without repeats. No condition.
  This text tells what the reference's making of a clause answers. No condition.
  This text holds plain laws of the order of names. No condition.
  This text tells what the validity of substitutions answers in both packages, and the place of a binding. No condition.
  This text tells what the search for a binding answers. No condition.
  This text holds the plain laws of applying a substitution to a term. No condition.
  This text tells what applying a substitution answers in both packages. No condition.
  This text holds plain laws of expressions and of the sizes of terms. No condition.
  This text tells what ApplySubstitution answers in both packages. No condition.
  This text holds plain laws of atoms. No condition.
  This text tells what applying a substitution to a clause answers in both packages. No condition.
  This text holds a plain law of atoms. No condition.
  This text tells what the variables of a term answer in both packages. No condition.
  This text tells what the variables of a clause answer. No condition.
  This text tells what the reference's application of a substitution to a clause answers, and ApplyToClause of both packages. No condition.
  This text holds plain laws of renaming variables: maps from names to names, fresh names. No condition.
  This text holds plain laws of numerals: no two numbers have the same; numbered names, the next one that is not taken. No condition.
  This text holds plain laws of renaming the variables of clauses. No condition.
  This text tells what renaming a term by a map and printing a number answer. No condition.
  This text tells whether a name is in a list of names, in the reference. No condition.
  This text tells what the variables of a clause in their order answer in the reference. No condition.
  This text tells what renaming and normalizing a clause answer in the reference. No condition.
  This text tells what normalizing, and renaming a clause apart, answer in the reference. No condition.
  This text shows that renaming a normal clause apart keeps its order. No condition.
  This text holds the plain laws of composing substitutions. No condition.
  This text tells what the laws' marks answer. No condition.
-/
import Derived.Test.YtepbennkcbmgoaaGreatDoorK51c
set_option maxHeartbeats 16000000
open Bool renaming and_eq_true → zA, and_false → zM, true_and → yG, and_true → yJ, false_and → yK, false_or → y3
open Nat renaming lt_or_ge → zB, zero_le → zH, eq_zero_or_pos → zI, le_refl → zN, not_lt → y6
open List renaming length_map → zC, getElem_mem → zD, drop_eq_getElem_cons → zE, eq_nil_of_length_eq_zero → zF, drop_eq_nil_of_le → zG, drop_zero → zJ, map_cons → zK, map_nil → zL, all_eq_true → zO, length_cons → zP, length_take → zQ, take_length → zR, getElem_of_mem → zS, getElem?_eq_getElem → zU, length_nil → zV, nil_append → zW, foldl_cons → zX, pairwise_cons → zZ, getElem_map → z7, take_zero → z8, cons_append → yB, map_append → yD, take_succ_eq_append_getElem → yF, mem_cons → yH, length_append → yI, pairwise_iff_getElem → yL, getElem_cons_succ → yO, getElem_cons_zero → yP, map_map → yQ, mem_map → yR, foldl_nil → yS, getElem?_eq_none → yT, mem_append → yV, mem_singleton → yX, getElem?_append_right → yZ, foldl_append → y2, append_nil → y5
open Option.some renaming injEq → zT, inj → yM
open Int renaming tdiv_eq_ediv_of_nonneg → zY, toNat_zero → yC, toNat_natCast → yN, tmod_eq_emod_of_nonneg → yY
open Prod.mk renaming injEq → yA
open ByteArray renaming data_append → yU
open Array renaming toList_append → yW
open Option renaming getD_none → y4
open List.Pairwise renaming nil → y7
set_option maxRecDepth 100000
set_option linter.unusedSimpArgs false
set_option linter.unusedVariables false
set_option linter.unusedSectionVars false
namespace Go.Proofs.YtepbennkcbmgoaaGreatDoor
open Go.RowKit
namespace Wd
def modes:FuncId→FM:=fun _=>⟨[],.asis,none,false⟩
theorem mode (f:FuncId):modes f=⟨[],.asis,none,false⟩:=rfl
theorem Nr:@NP QX Tryz.prog modes:=fun _ _ _ _ _ _ hg _=>by cases hg
noncomputable def E:FEnv:=ev Tryz.prog modes
noncomputable def calls:CallF:=Dm modes E
theorem E_told {f:FuncId} {xs:List SV} {ob:List Ob} {r:SV} {ob':List Ob} (h:E f xs ob=some (r,ob')):FunD Tryz.prog f xs ob r ob':=@QaX QX _ _ Qde Nr f xs ob r ob' h
noncomputable def run (n0:Nat):SC→St→Option (X × St):=fr Tryz.prog calls (JF n0)
def go (n0:Nat) (sc:SC) (st:St) (K:X→St→Prop):Prop:=∃ x st',run n0 sc st=some (x,st')∧K x st'
def Sy (n0:Nat) (b:SC) (K:X→St→Prop):X→St→Prop
 | .normal,st=>go n0 b st K
 | .exit i,st=>K (.exit i) st
 | .ret,st=>K .ret st
def blk (id:Nat) (K:X→St→Prop):X→St→Prop
 | .normal,st=>K .normal st
 | .exit i,st=>if i=id then K .normal st else K (.exit i) st
 | .ret,st=>K .ret st
def Sz (r:Option St) (k:X→St→Prop):Prop :=
 match r with
 | some st=>k .normal st
 | none=>False
def S1 (anc:List (List Nat)) (r:Option (List Ent × St)) (k:X→St→Prop):Prop :=
 match r with
 | some (es,st)=>obB anc [] (GE es) 0=true∧k .normal st
 | none=>False
def Ij (v:SV) (a b:Unit→Prop):Prop :=
 match v with
 | .bool true=>a ()
 | .bool false=>b ()
 | _=>False
noncomputable def Ns (ops:List SOper) (st:St):Option St:=QB Tryz.prog calls ops st
noncomputable def Nt (ops:List SOper) (acc:List Ent) (st:St):Option (List Ent × St):=IJ Tryz.prog calls ops acc st
section
variable {n0:Nat} {st:St} {K:X→St→Prop}
theorem go_skip:go n0 .skip st K=K .normal st:=by
 refine propext ⟨fun ⟨x,st',h,k⟩=>?_,fun k=>⟨_,_,rfl,k⟩⟩
 obtain ⟨rfl,rfl⟩:X.normal=x∧st=st':=by simpa [run,fr] using h
 exact k
theorem Rb {i:Nat}:go n0 (.exit i) st K=K (.exit i) st:=by
 refine propext ⟨fun ⟨x,st',h,k⟩=>?_,fun k=>⟨_,_,rfl,k⟩⟩
 obtain ⟨rfl,rfl⟩:X.exit i=x∧st=st':=by simpa [run,fr] using h
 exact k
theorem go_ret:go n0 .ret st K=K .ret st:=by
 refine propext ⟨fun ⟨x,st',h,k⟩=>?_,fun k=>⟨_,_,rfl,k⟩⟩
 obtain ⟨rfl,rfl⟩:X.ret=x∧st=st':=by simpa [run,fr] using h
 exact k
theorem Wq {ops:List SOper}:go n0 (.reg ops) st K=Sz (Ns ops st) K:=by
 unfold Sz Ns
 refine propext ⟨fun ⟨x,st',h,k⟩=>?_,fun k=>?_⟩
 ·simp only [run,fr] at h
  split at h
  ·rename_i s hs
   simp only [zT,yA] at h
   obtain ⟨rfl,rfl⟩:=h
   first | exact k | (simp only [hs]; exact k)
  ·cases h
 ·split at k
  ·rename_i s hs
   exact ⟨.normal,s,by simp only [run,fr,hs],k⟩
  ·exact k.elim
theorem Rc {anc:List (List Nat)} {ops:List SOper}:go n0 (.dreg anc ops) st K=S1 anc (Nt ops [] st) K:=by
 unfold S1 Nt
 refine propext ⟨fun ⟨x,st',h,k⟩=>?_,fun k=>?_⟩
 ·simp only [run,fr] at h
  split at h
  ·rename_i es s hs
   obtain ⟨h1,h2⟩:=Aq h
   simp only [zT,yA] at h2
   obtain ⟨rfl,rfl⟩:=h2
   first | exact ⟨h1,k⟩ | (simp only [hs]; exact ⟨h1,k⟩)
  ·cases h
 ·split at k
  ·rename_i es s hs
   exact ⟨.normal,s,by simp only [run,fr,hs,k.1,cond_true],k.2⟩
  ·exact k.elim
theorem Wr {a b:SC}:go n0 (.seq a b) st K=go n0 a st (Sy n0 b K):=by
 refine propext ⟨fun ⟨x,st',h,k⟩=>?_,fun ⟨x,st',h,k⟩=>?_⟩
 ·simp only [run,fr,CE] at h
  split at h
  ·rename_i s hs
   exact ⟨.normal,s,hs,x,st',h,k⟩
  ·rename_i i s hs
   simp only [zT,yA] at h
   obtain ⟨rfl,rfl⟩:=h
   exact ⟨_,_,hs,k⟩
  ·rename_i s hs
   simp only [zT,yA] at h
   obtain ⟨rfl,rfl⟩:=h
   exact ⟨_,_,hs,k⟩
  ·cases h
 ·simp only [run] at h
  cases x with
  | normal =>
   obtain ⟨x2,st2,h2,k2⟩:=k
   exact ⟨x2,st2,by simp only [run,fr,CE,h]; exact h2,k2⟩
  | exit i=>exact ⟨_,st',by simp only [run,fr,CE,h],k⟩
  | ret=>exact ⟨_,st',by simp only [run,fr,CE,h],k⟩
theorem NZ {id:Nat} {b:SC}:go n0 (.block id b) st K=go n0 b st (blk id K):=by
 refine propext ⟨fun ⟨x,st',h,k⟩=>?_,fun ⟨x,st',h,k⟩=>?_⟩
 ·simp only [run,fr,Fs] at h
  split at h
  ·rename_i s hs
   simp only [zT,yA] at h
   obtain ⟨rfl,rfl⟩:=h
   exact ⟨.normal,s,hs,k⟩
  ·rename_i i s hs
   refine ⟨.exit i,s,hs,?_⟩
   simp only [blk]
   by_cases hi:i=id
   ·simp only [if_pos hi,zT,yA] at h ⊢
    obtain ⟨rfl,rfl⟩:=h
    exact k
   ·simp only [if_neg hi,zT,yA] at h ⊢
    obtain ⟨rfl,rfl⟩:=h
    exact k
  ·rename_i s hs
   simp only [zT,yA] at h
   obtain ⟨rfl,rfl⟩:=h
   exact ⟨_,s,hs,k⟩
  ·cases h
 ·simp only [run] at h
  cases x with
  | normal=>exact ⟨_,st',by simp only [run,fr,Fs,h],k⟩
  | exit i =>
   simp only [blk] at k
   by_cases hi:i=id
   ·simp only [if_pos hi] at k
    exact ⟨.normal,st',by simp only [run,fr,Fs,h,if_pos hi],k⟩
   ·simp only [if_neg hi] at k
    exact ⟨.exit i,st',by simp only [run,fr,Fs,h,if_neg hi],k⟩
  | ret=>exact ⟨_,st',by simp only [run,fr,Fs,h],k⟩
theorem Aa {q:SX} {a b:SC}:go n0 (.cond q a b) st K=Ij (A3 (gets st.sl) q) (fun _=>go n0 a st K) (fun _=>go n0 b st K):=by
 unfold Ij
 refine propext ⟨fun ⟨x,st',h,k⟩=>?_,fun k=>?_⟩
 ·simp only [run,fr] at h
  split at h
  ·rename_i t ht
   simp only [ht]
   cases t with
   | true=>exact ⟨x,st',h,k⟩
   | false=>exact ⟨x,st',h,k⟩
  ·cases h
 ·split at k
  ·rename_i ht
   obtain ⟨x,st',h,k⟩:=k
   exact ⟨x,st',by simp only [run,fr,ht,cond_true]; exact h,k⟩
  ·rename_i ht
   obtain ⟨x,st',h,k⟩:=k
   exact ⟨x,st',by simp only [run,fr,ht,cond_false]; exact h,k⟩
  ·exact k.elim
theorem Rd {a b:Unit→Prop}:Ij (.bool true) a b=a ():=rfl
theorem Re {a b:Unit→Prop}:Ij (.bool false) a b=b ():=rfl
theorem Rf {t:Bool} {a b:Unit→Prop}:Ij (.bool (!t)) a b=Ij (.bool t) b a:=by cases t <;> rfl
theorem Ws {b:SC}:Sy n0 b K .normal st=go n0 b st K:=rfl
theorem Wt {b:SC} {i:Nat}:Sy n0 b K (.exit i) st=K (.exit i) st:=rfl
theorem Wu {b:SC}:Sy n0 b K .ret st=K .ret st:=rfl
theorem Qbf {id:Nat}:blk id K .normal st=K .normal st:=rfl
theorem Qbg {id i:Nat}:blk id K (.exit i) st=if i=id then K .normal st else K (.exit i) st:=rfl
theorem Qbh {id:Nat}:blk id K .ret st=K .ret st:=rfl
theorem Rg:Sz (some st) K=K .normal st:=rfl
def quiet:List Ent→Bool
 | []=>true
 | ⟨_,_,[],_⟩ :: r=>quiet r
 | ⟨_,_,_ :: _,_⟩ :: _=>false
theorem H6 {anc:List (List Nat)} {rd:List Nat} {j:Nat}:∀ {l:List Ent} {i:Nat},quiet l=true→Rz anc rd [] j (GE l) i=true
 | [],i,_=>rfl
 | ⟨_,_,[],rdi⟩ :: r,i,h=>by
  have:=H6 (anc:=anc) (rd:=rd) (j:=j) (l:=r) (i:=i+1) h
  simp only [GE,zK,zL] at this ⊢
  simp only [Rz,this,yJ]
  have e1:meets [] (rd++[])=false:=rfl
  have e2:meets rdi []=false:=by cases rdi <;> simp [meets]
  rw [e1,e2]; rfl
theorem Py {l l':List Ent} (h:quiet l=true) (h':quiet l'=true):quiet (l++l')=true:=by
 induction l with
 | nil=>exact h'
 | cons x r ih =>
  obtain ⟨a,b,c,d⟩:=x
  cases c with
  | nil=>exact ih h
  | cons _ _=>cases h
theorem Jj {anc:List (List Nat)}:∀ {l pre:List Ent} {j:Nat},quiet pre=true→quiet l=true→obB anc (GE pre) (GE l) j=true
 | [],pre,j,_,_=>rfl
 | ⟨a,b,[],rd⟩ :: r,pre,j,hp,h=>by
  have e:=Jj (anc:=anc) (l:=r) (pre:=pre++[⟨a,b,[],rd⟩]) (j:=j+1) (Py hp rfl) h
  have e2:=H6 (anc:=anc) (rd:=rd) (j:=j) (i:=0) hp
  simp only [GE,yD,zK,zL] at e e2 ⊢
  simp only [obB,e2,e,Bool.and_self]
theorem Rh {anc:List (List Nat)} {es:List Ent}:S1 anc (some (es,st)) K=match quiet es with
  | true=>K .normal st
  | false=>obB anc [] (GE es) 0=true∧K .normal st:=by
 show (obB anc [] (GE es) 0=true∧K .normal st)=_
 cases h:quiet es with
 | true=>exact propext ⟨fun h=>h.2,fun h'=>⟨Jj (pre:=[]) rfl h,h'⟩⟩
 | false=>rfl
noncomputable def Qal (r:List SOper) (e:Option (Ent × St)):Option St :=
 match e with
 | some (_,st)=>Ns r st
 | none=>none
noncomputable def Qam (r:List SOper) (acc:List Ent) (e:Option (Ent × St)):Option (List Ent × St) :=
 match e with
 | some (x,st)=>Nt r (acc++[x]) st
 | none=>none
noncomputable def opF (so:SOp) (sl:List SV) (ob:List Ob):Option R3:=fOp Tryz.prog calls so sl ob
theorem Oa:Ns [] st=some st:=rfl
theorem Ma {d:Option Tmp} {so:SOp} {r:List SOper} {sl:List SV} {ob:List Ob}:Ns (⟨d,none,so⟩ :: r) ⟨sl,ob⟩=Qal r (Hr d ⟨sl,ob⟩ (opF so sl ob)):=rfl
noncomputable def gdF (d:Option Tmp) (so:SOp) (want:Bool) (sl:List SV) (ob:List Ob) (v:SV):Option (Ent × St) :=
 match v with
 | .bool b=>bif TL b want then Hr d ⟨sl,ob⟩ (opF so sl ob) else some (⟨false,.tup [],[],[]⟩,⟨EH sl d (.tup []),ob⟩)
 | .tup []=>some (⟨false,.tup [],[],[]⟩,⟨EH sl d (.tup []),ob⟩)
 | _=>none
theorem Ri {d:Option Tmp} {k:Nat} {want:Bool} {so:SOp} {r:List SOper} {sl:List SV} {ob:List Ob}:Ns (⟨d,some (k,want),so⟩ :: r) ⟨sl,ob⟩=Qal r (gdF d so want sl ob (gets sl k)):=rfl
theorem Oc {acc:List Ent}:Nt [] acc st=some (acc,st):=rfl
theorem Mb {d:Option Tmp} {so:SOp} {r:List SOper} {acc:List Ent} {sl:List SV} {ob:List Ob}:Nt (⟨d,none,so⟩ :: r) acc ⟨sl,ob⟩=Qam r acc (Hr d ⟨sl,ob⟩ (opF so sl ob)):=rfl
theorem Rj {d:Option Tmp} {k:Nat} {want:Bool} {so:SOp} {r:List SOper} {acc:List Ent} {sl:List SV} {ob:List Ob}:Nt (⟨d,some (k,want),so⟩ :: r) acc ⟨sl,ob⟩=Qam r acc (gdF d so want sl ob (gets sl k)):=rfl
theorem Wv {r:List SOper} {e:Ent}:Qal r (some (e,st))=Ns r st:=rfl
theorem Ww {r:List SOper} {acc:List Ent} {e:Ent}:Qam r acc (some (e,st))=Nt r (acc++[e]) st:=rfl
theorem Qbi {d:Option Tmp} {so:SOp} {sl:List SV} {ob:List Ob}:gdF d so true sl ob (.bool true)=Hr d ⟨sl,ob⟩ (opF so sl ob):=rfl
theorem Wx {d:Option Tmp} {so:SOp} {sl:List SV} {ob:List Ob}:gdF d so false sl ob (.bool false)=Hr d ⟨sl,ob⟩ (opF so sl ob):=rfl
theorem Wy {d:Option Tmp} {so:SOp} {sl:List SV} {ob:List Ob}:gdF d so true sl ob (.bool false)=some (⟨false,.tup [],[],[]⟩,⟨EH sl d (.tup []),ob⟩):=rfl
theorem Wz {d:Option Tmp} {so:SOp} {sl:List SV} {ob:List Ob}:gdF d so false sl ob (.bool true)=some (⟨false,.tup [],[],[]⟩,⟨EH sl d (.tup []),ob⟩):=rfl
theorem Qbj {d:Option Tmp} {so:SOp} {want:Bool} {sl:List SV} {ob:List Ob}:gdF d so want sl ob (.tup [])=some (⟨false,.tup [],[],[]⟩,⟨EH sl d (.tup []),ob⟩):=rfl
theorem W2 {d:Option Tmp} {x:SV} {rd:List Nat}:Hr d st (some (x,[],rd))=some (⟨true,x,[],rd⟩,⟨EH st.sl d x,st.ob⟩):=rfl
theorem W3 {d:Option Tmp} {x:SV} {q:Nat × Ob} {u:List (Nat × Ob)} {rd:List Nat}:Hr d st (some (x,q :: u,rd))=bif VQ (Du st.ob (q :: u)).length (q :: u) then some (⟨true,x,q :: u,rd⟩,⟨EH st.sl d x,Du st.ob (q :: u)⟩) else none:=rfl
def Lb (ob:List Ob) (xs:List SV) (sel:List Nat) (r:Option (SV × List Ob)) (n:Nat):Option R3 :=
 match r with
 | some (r,fob')=>bif decide (n≤fob'.length) then some (Eb sel (Bh sel xs) ob.length r fob') else none
 | none=>none
def Qan (hd:List Bool) (f:FuncId) (xs:List SV) (ob:List Ob) (sel:List Nat) (e:List SV→List Ob→Option (SV × List Ob)) (b:Option (List Ob)):Option R3 :=
 match b with
 | some fob=>bif nodupB sel&&Hs ob.length sel&&Fp fob.length fob then Lb ob xs sel (e (Fn hd (Ap ob) sel xs) fob) fob.length else none
 | none=>none
def S2 (hd:List Bool) (f:FuncId) (xs:List SV) (ob:List Ob) (sel:List Nat) (e:List SV→List Ob→Option (SV × List Ob)):Option R3:=Qan hd f xs ob sel e (E1 sel ob sel)
theorem Od {f:FuncId} {xs:List SV} {ob:List Ob}:calls f xs ob=EJ (modes f).res (S2 (modes f).hand f xs ob (reach ob 64 (Fo (modes f).hand xs) []) (E f)):=rfl
theorem W4 {r:Option R3}:EJ .asis r=r:=rfl
theorem W5 {r:Option R3}:EJ .frz r=r:=rfl
theorem W6 {l:List (Option (Nat × Nat))} {r:Option R3}:EJ (.own l) r=r:=rfl
theorem W7 {l:List (Option (Nat × Nat))} {r:Option R3}:EJ (.tr l) r=r:=rfl
theorem W8 {l:List Nat} {r:Option R3}:EJ (.frl l) r=r:=rfl
theorem W9 {r:R3}:EJ .late (some r)=Qk r:=rfl
theorem Fe:∀ u:List (Nat × Ob),CU [] u=u
 | []=>rfl
 | (g,o) :: u=>by rw [CU,Fe u]; rfl
theorem WA {m:RM} {b:Bool} {u:List (Nat × Ob)} {rd:List Nat}:EJ m (some (.bool b,u,rd))=some (.bool b,u,rd):=by
 cases m <;> first | rfl | (show some (SV.bool b,CU [] u,rd)=_; rw [Fe])
theorem WB {m:RM} {k:IntKind} {n:Int} {u:List (Nat × Ob)} {rd:List Nat}:EJ m (some (.int k n,u,rd))=some (.int k n,u,rd):=by
 cases m <;> first | rfl | (show some (SV.int k n,CU [] u,rd)=_; rw [Fe])
theorem Mc {hd:List Bool} {f:FuncId} {xs:List SV} {ob:List Ob} {e:List SV→List Ob→Option (SV × List Ob)}:S2 hd f xs ob [] e=Lb ob xs [] (e (Fn hd (Ap ob) [] xs) []) 0:=rfl
theorem JK {hd:List Bool} {f:FuncId} {xs:List SV} {ob:List Ob} {g:Nat} {r:List Nat} {e:List SV→List Ob→Option (SV × List Ob)}:S2 hd f xs ob (g :: r) e=Qan hd f xs ob (g :: r) e (E1 (g :: r) ob (g :: r)):=rfl
theorem Rk {ob:List Ob} {xs:List SV} {r:SV} {fob':List Ob}:Lb ob xs [] (some (r,fob')) 0=some (Eb [] (Bh [] xs) ob.length r fob'):=rfl
theorem Rl {ob:List Ob} {xs:List SV} {sel:List Nat} {r:SV} {fob':List Ob} {n:Nat}:Lb ob xs sel (some (r,fob')) n=bif decide (n≤fob'.length) then some (Eb sel (Bh sel xs) ob.length r fob') else none:=rfl
theorem WC {hd:List Bool} {f:FuncId} {xs:List SV} {ob:List Ob} {sel:List Nat} {fob:List Ob} {e:List SV→List Ob→Option (SV × List Ob)}:Qan hd f xs ob sel e (some fob)=bif nodupB sel&&Hs ob.length sel&&Fp fob.length fob then Lb ob xs sel (e (Fn hd (Ap ob) sel xs) fob) fob.length else none:=rfl
theorem Md {p:Nat} {r:SV}:Eb [] [] p r []=(r.ren (sgp [] p),[],[]):=rfl
def El {α:Type} (n0:Nat) (keep:List Nat) (H:α→St) (R:α→Prop) (μ:α→Nat) (a:α) (K:X→St→Prop):X→St→Prop
 | .normal,st'=>∃ y,R y∧μ y < μ a∧canon n0 keep st'=H y
 | .exit i,st'=>K (.exit i) st'
 | .ret,st'=>K .ret st'
theorem Oe {α:Type} {keep:List Nat} {H:α→St} {R:α→Prop} {μ:α→Nat} {a:α} {st':St}:El n0 keep H R μ a K .normal st'=∃ y,R y∧μ y < μ a∧canon n0 keep st'=H y:=rfl
theorem Of {α:Type} {keep:List Nat} {H:α→St} {R:α→Prop} {μ:α→Nat} {a:α} {i:Nat} {st':St}:El n0 keep H R μ a K (.exit i) st'=K (.exit i) st':=rfl
theorem Og {α:Type} {keep:List Nat} {H:α→St} {R:α→Prop} {μ:α→Nat} {a:α} {st':St}:El n0 keep H R μ a K .ret st'=K .ret st':=rfl
theorem go_loop {α:Type} {keep:List Nat} {b:SC} (H:α→St) (R:α→Prop) (μ:α→Nat) (a0:α) (hR:R a0) (h0:canon n0 keep st=H a0) (round:∀ a,R a→go n0 b (H a) (El n0 keep H R μ a K)):go n0 (.loop keep b) st K:=by
 have key:∀ (n:Nat) (a:α) (st:St),μ a≤n→R a→canon n0 keep st=H a→∃ x st',Sf n0 keep (run n0 b) st=some (x,st')∧K x st':=by
  intro n
  induction n with
  | zero =>
   intro a st hn hR hc
   obtain ⟨x,st',h,k⟩:=round a hR
   cases x with
   | normal =>
    obtain ⟨y,_,h2,_⟩:=k
    omega
   | exit i=>exact ⟨_,st',by rw [EK,hc,h]; rfl,k⟩
   | ret=>exact ⟨_,st',by rw [EK,hc,h]; rfl,k⟩
  | succ n ih =>
   intro a st hn hR hc
   obtain ⟨x,st',h,k⟩:=round a hR
   cases x with
   | normal =>
    obtain ⟨y,h1,h2,h3⟩:=k
    obtain ⟨x2,st2,h4,k2⟩:=ih y st' (by omega) h1 h3
    exact ⟨x2,st2,by rw [EK,hc,h]; exact h4,k2⟩
   | exit i=>exact ⟨_,st',by rw [EK,hc,h]; rfl,k⟩
   | ret=>exact ⟨_,st',by rw [EK,hc,h]; rfl,k⟩
 exact key (μ a0) a0 st (zN _) hR h0
def JL (n0:Nat) (keep keepO:List Nat) (H:EL→St) (F:X × St) (p:EL):X→St→Prop
 | .normal,st'=>canon n0 keep st'=H p
 | .exit i,st'=>F=(.exit i,canon n0 keepO st')
 | .ret,st'=>F=(.ret,canon n0 keepO st')
def Yl (n0:Nat) (keepO:List Nat) (F:X × St):X→St→Prop
 | .normal,_=>False
 | .exit i,st'=>F=(.exit i,canon n0 keepO st')
 | .ret,st'=>F=(.ret,canon n0 keepO st')
theorem Me {keep keepO:List Nat} {H:EL→St} {F:X × St} {p:EL} {st':St}:JL n0 keep keepO H F p .normal st'=(canon n0 keep st'=H p):=rfl
theorem Mf {keep keepO:List Nat} {H:EL→St} {F:X × St} {p:EL} {i:Nat} {st':St}:JL n0 keep keepO H F p (.exit i) st'=(F=(.exit i,canon n0 keepO st')):=rfl
theorem Mg {keep keepO:List Nat} {H:EL→St} {F:X × St} {p:EL} {st':St}:JL n0 keep keepO H F p .ret st'=(F=(.ret,canon n0 keepO st')):=rfl
theorem Rm {keepO:List Nat} {F:X × St} {i:Nat} {st':St}:Yl n0 keepO F (.exit i) st'=(F=(.exit i,canon n0 keepO st')):=rfl
theorem Rn {keepO:List Nat} {F:X × St} {st':St}:Yl n0 keepO F .ret st'=(F=(.ret,canon n0 keepO st')):=rfl
end
def slots:Nat→Nat→List (Nat × SV)→List SV
 | 0,_,_=>[]
 | n+1,k,[]=>.any :: slots n (k+1) []
 | n+1,k,(j,x) :: r=>bif j == k then x :: slots n (k+1) r else .any :: slots n (k+1) ((j,x) :: r)
def TU (res:RM) (n0:Nat) (rs:List RX) (out:SV × List Ob) (x:X) (st:St):Prop:=fin res n0 rs x st=some out
def Qao (res:RM) (n0:Nat) (r:Option (SV × List Ob)):Option (SV × List Ob) :=
 match r with
 | some (r,ob)=>order res n0 r ob
 | none=>none
def Oh (res:RM) (n0:Nat) (ob:List Ob) (r:Option SV):Option (SV × List Ob) :=
 match r with
 | some r0=>Qao res n0 (gc n0 r0 ob)
 | none=>none
theorem WD {res:RM} {n0:Nat} {rs:List RX} {out:SV × List Ob} {sl:List SV} {ob:List Ob}:TU res n0 rs out .ret ⟨sl,ob⟩=(Oh res n0 ob (NL ⟨sl,ob⟩ rs)=some out):=rfl
theorem WE {res:RM} {n0:Nat} {rs:List RX} {out:SV × List Ob} {sl:List SV} {ob:List Ob}:TU res n0 rs out .normal ⟨sl,ob⟩=(Oh res n0 ob (NL ⟨sl,ob⟩ rs)=some out):=rfl
theorem Ro {res:RM} {n0:Nat} {ob:List Ob} {r:SV}:Oh res n0 ob (some r)=Qao res n0 (gc n0 r ob):=rfl
theorem WF {n0:Nat} {r:SV} {ob:List Ob} {res:RM}:Qao res n0 (some (r,ob))=order res n0 r ob:=rfl
theorem Ad {f:FuncId} {fc:FC} {hand:List Bool} {res:RM} {tr:Bool} {xs:List SV} {ob:List Ob} {out:SV × List Ob} (hc:codeOf Tryz.prog f=some fc) (hr:modes f=⟨hand,res,none,tr⟩) (hn:xs.length≤fc.nt) (h:go ob.length (Ig res fc.sc) ⟨xs++KM (fc.nt-xs.length),entry tr ob⟩ (TU res ob.length fc.rs out)):E f xs ob=some out:=by
 obtain ⟨x,st',h1,h2⟩:=h
 unfold E
 rw [Qdo]
 unfold Hw
 rw [hc,hr]
 simp only
 rw [decide_eq_true hn,cond_true]
 have h1:fr Tryz.prog (Dm modes (ev Tryz.prog modes)) (JF ob.length) (Ig res fc.sc) ⟨xs++KM (fc.nt-xs.length),entry tr ob⟩=some (x,st'):=h1
 rw [h1]
 exact h2
end Wd
namespace Wd
attribute [local go_sem] Fn RI SV.isNil Ob.idsB SV.idsB SV.M9 List.getElem?_cons_zero List.getElem?_cons_succ OT.AA OT.C5 OT.full entry toTree UG RY UF Gy FP Fc XP PX VR OT.erss OT.ers OT.er OT.BB OT.D4 OT.noSh quiet obB Rz GE meets IF go_skip Rb go_ret Wq Rc Wr NZ Rd Re Rf Ws Wt Wu Qbf Qbg Qbh Rg Rh Oa Ma Ri Oc Mb Rj Wv Ww Qbi Wx Wy Wz Qbj W2 W3 Od W4 W5 W6 W7 W8 W9 WA WB Qk RR CU seen Mc JK Rk Rl WC Md Eb Oe Of Og WD WE Ro WF order opF fOp FH UC QbV U9 UA XO II eqK A3 gets Ap QA EH Du Mv Ph AN VQ SV.cellsN SV.one Kj splice Ei TJ Ki KG Ef BA Cf B3 Kk Kl VH eOp.mkEs eOp.addS D.sv OT.sv D.ot Ia nodupB reach SV.refs SV.Qi SV.ptrs SV.Qj Ob.refs Ob.liveB Fo E1 SV.back SV.MA Ob.back HZ If CH Bh Bo Hs Fp SV.ren SV.Mw Ob.ren mkU sgp gc MC names My VS VT VU Np ZL VW VX VY VZ Wa Wb SC.mark Qm Fq slots NL VP rxV KM RQ SV.noSh SV.M8 Ob.noSh SV.own SV.RV FQ cond_true cond_false zP zV zK zL List.drop_succ_cons zJ List.drop_nil List.take_succ_cons z8 List.take_nil y5 zW yB List.all_cons List.all_nil List.getD_cons_zero List.getD_cons_succ List.any_cons List.any_nil List.contains_cons List.contains_nil List.isEmpty_nil List.isEmpty_cons List.flatten_cons List.flatten_nil List.replicate_succ List.replicate_zero List.set_cons_zero List.set_cons_succ Nat.add_zero Nat.zero_add zN zH yJ yG Bool.and_self Bool.or_false y3 Bool.true_or Bool.or_true Bool.not_true Bool.not_false yK zM decide_true decide_false beq_self_eq_true if_true if_false Option.map_some Option.map_none zT Option.getD_some y4 yN true_and and_true and_self eq_self_iff_true zC Bool.false_eq_true Bool.true_eq_false yA SV.int.injEq SV.bool.injEq SV.str.injEq SV.agg.injEq SV.tup.injEq SV.arr.injEq List.cons.injEq St.mk.injEq Int.zero_add Qbl Qbm WG Ar Ax QeK svK svD Z8 svM MV.sv Uy RO NM RP GG St.app TM MK.sv Me Mf Mg Rm Rn mode
def CJ:SC:=(.seq (.reg [⟨some 2,none,.mv (.c (.bool false))⟩]) (.seq (.reg [⟨some 3,none,.mv (.t 0)⟩,⟨some 4,none,.mv (.t 0)⟩,⟨some 5,none,.bin .neq false (.t 3) (.t 4)⟩,⟨some 2,none,.mv (.t 5)⟩]) .ret))
theorem Fg:codeOf Tryz.prog 305=some ⟨6,CJ,[(.tmp 2)]⟩:=by kernel_rfl
theorem Bi:modes 305=⟨[],.asis,none,false⟩:=by unfold modes; rfl
def DJ:SC:=(.seq (.reg [⟨some 2,none,.mv (.c (.bool false))⟩]) (.seq (.reg [⟨some 3,none,.mv (.t 0)⟩,⟨some 4,none,.mv (.t 0)⟩,⟨some 5,none,.bin .neq false (.t 3) (.t 4)⟩,⟨some 2,none,.mv (.t 5)⟩]) .ret))
theorem GJ:codeOf Tryz.prog 314=some ⟨6,DJ,[(.tmp 2)]⟩:=by kernel_rfl
theorem B7:modes 314=⟨[],.asis,none,false⟩:=by unfold modes; rfl
def AT:SC:=(.seq (.reg [⟨some 4,none,.mv (.c (.int .i64 0))⟩]) (.seq (.reg [⟨some 7,none,.mv (.t 0)⟩,⟨some 8,none,.call 305 [(.t 7)]⟩,⟨some 5,none,.mv (.t 8)⟩]) (.seq (.reg [⟨some 9,none,.mv (.t 1)⟩,⟨some 10,none,.call 305 [(.t 9)]⟩,⟨some 6,none,.mv (.t 10)⟩]) (.seq (.seq (.reg [⟨some 11,none,.mv (.t 5)⟩]) (.cond (.t 11) (.seq (.seq (.reg [⟨some 12,none,.mv (.t 6)⟩]) (.cond (.t 12) (.seq (.reg [⟨some 4,none,.mv (.c (.int .i64 0))⟩]) .ret) .skip)) (.seq (.reg [⟨some 4,none,.mv (.c (.int .i64 (-(0+1))))⟩]) .ret)) .skip)) (.seq (.seq (.reg [⟨some 13,none,.mv (.t 6)⟩]) (.cond (.t 13) (.seq (.reg [⟨some 4,none,.mv (.c (.int .i64 1))⟩]) .ret) .skip)) (.seq (.seq (.reg [⟨some 14,none,.mv (.t 0)⟩,⟨some 15,none,.mv (.t 1)⟩,⟨some 16,none,.bin .lss false (.t 14) (.t 15)⟩]) (.cond (.t 16) (.seq (.reg [⟨some 4,none,.mv (.c (.int .i64 (-(0+1))))⟩]) .ret) .skip)) (.seq (.seq (.reg [⟨some 17,none,.mv (.t 0)⟩,⟨some 18,none,.mv (.t 1)⟩,⟨some 19,none,.bin .gtr false (.t 17) (.t 18)⟩]) (.cond (.t 19) (.seq (.reg [⟨some 4,none,.mv (.c (.int .i64 1))⟩]) .ret) .skip)) (.seq (.reg [⟨some 4,none,.mv (.c (.int .i64 0))⟩]) .ret))))))))
theorem Bw:codeOf Tryz.prog 283=some ⟨20,AT,[(.tmp 4)]⟩:=by kernel_rfl
theorem AB:modes 283=⟨[],.asis,none,false⟩:=by unfold modes; rfl
def Br:SC:=(.seq (.reg [⟨some 4,none,.mv (.c (.int .i64 0))⟩]) (.seq (.reg [⟨some 7,none,.mv (.t 0)⟩,⟨some 8,none,.call 314 [(.t 7)]⟩,⟨some 5,none,.mv (.t 8)⟩]) (.seq (.reg [⟨some 9,none,.mv (.t 1)⟩,⟨some 10,none,.call 314 [(.t 9)]⟩,⟨some 6,none,.mv (.t 10)⟩]) (.seq (.seq (.reg [⟨some 11,none,.mv (.t 5)⟩]) (.cond (.t 11) (.seq (.seq (.reg [⟨some 12,none,.mv (.t 6)⟩]) (.cond (.t 12) (.seq (.reg [⟨some 4,none,.mv (.c (.int .i64 0))⟩]) .ret) .skip)) (.seq (.reg [⟨some 4,none,.mv (.c (.int .i64 (-(0+1))))⟩]) .ret)) .skip)) (.seq (.seq (.reg [⟨some 13,none,.mv (.t 6)⟩]) (.cond (.t 13) (.seq (.reg [⟨some 4,none,.mv (.c (.int .i64 1))⟩]) .ret) .skip)) (.seq (.seq (.reg [⟨some 14,none,.mv (.t 0)⟩,⟨some 15,none,.mv (.t 1)⟩,⟨some 16,none,.bin .lss false (.t 14) (.t 15)⟩]) (.cond (.t 16) (.seq (.reg [⟨some 4,none,.mv (.c (.int .i64 (-(0+1))))⟩]) .ret) .skip)) (.seq (.seq (.reg [⟨some 17,none,.mv (.t 0)⟩,⟨some 18,none,.mv (.t 1)⟩,⟨some 19,none,.bin .gtr false (.t 17) (.t 18)⟩]) (.cond (.t 19) (.seq (.reg [⟨some 4,none,.mv (.c (.int .i64 1))⟩]) .ret) .skip)) (.seq (.reg [⟨some 4,none,.mv (.c (.int .i64 0))⟩]) .ret))))))))
theorem BN:codeOf Tryz.prog 274=some ⟨20,Br,[(.tmp 4)]⟩:=by kernel_rfl
theorem AI:modes 274=⟨[],.asis,none,false⟩:=by unfold modes; rfl
def Fz:SC:=(.seq (.reg [⟨some 2,none,.mv (.c (.int .i64 0))⟩]) (.seq (.reg [⟨some 3,none,.mv (.c (.int .i64 0))⟩]) (.seq (.seq (.reg [⟨some 6,none,.mv (.t 0)⟩,⟨some 7,none,.len false (.t 6)⟩,⟨some 8,none,.mv (.c (.int .i64 0))⟩]) (.block 0 (.loop [0,0,0,1,0,0,1,1,1,0,0,0,0,0,0,0,0,0] (.seq (.reg [⟨some 9,none,.bin .lss false (.t 8) (.t 7)⟩]) (.seq (.cond (.t 9) .skip (.exit 0)) (.seq (.block 1 (.seq (.reg [⟨some 10,none,.iaddr 1 (.t 6) (.t 8)⟩,⟨some 11,none,.load false 1 (.t 10)⟩,⟨some 5,none,.mv (.t 11)⟩]) (.seq (.reg [⟨some 12,none,.mv (.t 5)⟩,⟨some 13,none,.mv (.t 3)⟩,⟨some 14,none,.bin .neq false (.t 12) (.t 13)⟩]) (.cond (.t 14) (.seq (.reg [⟨some 15,none,.mv (.t 5)⟩,⟨some 2,none,.mv (.t 15)⟩]) .ret) .skip)))) (.reg [⟨some 16,none,.bin .add false (.t 8) (.c (.int .i64 1))⟩,⟨some 8,none,.mv (.t 16)⟩]))))))) (.seq (.reg [⟨some 17,none,.mv (.t 3)⟩,⟨some 2,none,.mv (.t 17)⟩]) .ret))))
theorem JQ:codeOf Tryz.prog 272=some ⟨18,Fz,[(.tmp 2)]⟩:=by kernel_rfl
theorem CA:modes 272=⟨[],.asis,none,false⟩:=by unfold modes; rfl
theorem Lh (a:ByteArray):E 305 [.str a] []=some (.bool false,[]):=by
 refine Ad Fg Bi (of_decide_eq_true rfl) ?_
 simp (disch:=omega) only [CJ,go_sem,Aa]
theorem Li (a:Int):E 314 [.int .i64 a] []=some (.bool false,[]):=by
 refine Ad GJ B7 (of_decide_eq_true rfl) ?_
 simp (disch:=omega) only [DJ,go_sem,Aa]
theorem JR (a b:ByteArray):E 283 [.str a,.str b] []=some (.int .i64 (E2 a b),[]):=by
 have h1:=Lh a
 have h2:=Lh b
 unfold E2
 cases h3:strLt a b
 ·cases h4:dec (a=b)
  ·refine Ad Bw AB (of_decide_eq_true rfl) ?_
   simp (disch:=omega) only [AT,go_sem,Aa,h1,h2,h3,h4,Bi]
  ·refine Ad Bw AB (of_decide_eq_true rfl) ?_
   simp (disch:=omega) only [AT,go_sem,Aa,h1,h2,h3,h4,Bi]
 ·refine Ad Bw AB (of_decide_eq_true rfl) ?_
  simp (disch:=omega) only [AT,go_sem,Aa,h1,h2,h3,Bi]
theorem HG (a b:Int):E 274 [.int .i64 a,.int .i64 b] []=some (.int .i64 (Hd a b),[]):=by
 have h1:=Li a
 have h2:=Li b
 unfold Hd
 cases h3:dec (a<b)
 ·cases h4:dec (b<a)
  ·refine Ad BN AI (of_decide_eq_true rfl) ?_
   simp (disch:=omega) only [Br,go_sem,Aa,h1,h2,h3,h4,B7]
  ·refine Ad BN AI (of_decide_eq_true rfl) ?_
   simp (disch:=omega) only [Br,go_sem,Aa,h1,h2,h3,h4,B7]
 ·refine Ad BN AI (of_decide_eq_true rfl) ?_
  simp (disch:=omega) only [Br,go_sem,Aa,h1,h2,h3,B7]
def orL:List Int→Int
 | []=>0
 | x :: xs=>if x=0 then orL xs else x
theorem QfQ (xs:List Int) (hl:xs.length≤1099511627776):E 272 [.arr (xs.map fun n=>[D.int n])] []=some (.int .i64 (orL xs),[]):=by
 refine Ad JQ CA (of_decide_eq_true rfl) ?_
 simp (disch:=omega) only [Fz,go_sem,Aa]
 refine go_loop (α:=Int) (fun a=>⟨slots 18 0 [(3,.int .i64 0),(6,.arr (xs.map fun n=>[D.int n])),(7,.int .i64 xs.length),(8,.int .i64 a)],[]⟩) (fun a=>∃ k:Nat,a=k∧k≤(xs).length∧orL (xs.drop k)=orL xs) (fun a=>(xs).length-(a).toNat) 0 ⟨0,rfl,zH _,by rw [zJ]⟩ (by simp (disch:=omega) only [go_sem,Aa]) ?_
 rintro i ⟨k,hi,hk,hR⟩
 have hni:i.toNat=k:=by omega
 have hni1:(i+1).toNat=k+1:=by omega
 rcases zB k (xs).length with hlt | hge
 ·have hg:=get_at (fun n=>[D.int n]) hlt
  rw [zE hlt,orL] at hR
  by_cases h0:xs[k]=0
  ·rw [if_pos h0] at hR
   simp (disch:=omega) only [go_sem,Aa,hni,hg,h0]
   exact ⟨i+1,⟨k+1,by omega,hlt,hR⟩,by omega,by first | trivial | rfl⟩
  ·rw [if_neg h0] at hR
   simp (disch:=omega) only [go_sem,Aa,hni,hg,h0]
   exact hR
 ·rw [zG hge,orL] at hR
  simp (disch:=omega) only [go_sem,Aa,hni]
  exact hR
theorem Ys (a b:Int):E 272 [.arr [[.int a],[.int b]]] []=some (.int .i64 (orZ a b),[]):=by
 have h:=QfQ [a,b] (by simp)
 have e:orL [a,b]=orZ a b:=by
  simp only [orL,orZ]
  split
  ·split <;> omega
  ·rfl
 rw [e] at h
 exact h
def CK:SC:=(.seq (.reg [⟨some 2,none,.mv (.c (.bool false))⟩]) (.seq (.reg [⟨some 3,none,.mv (.t 0)⟩,⟨some 4,none,.bin .geq false (.t 3) (.c (.int .u8 65))⟩,⟨some 5,none,.mv (.t 4)⟩,⟨(some 6),(some (5,true)),(.mv (.t 0))⟩,⟨(some 7),(some (5,true)),(.bin .leq false (.t 6) (.c (.int .u8 90)))⟩,⟨some 8,none,.pick (.t 5) (.t 7) (.c (.bool false))⟩,⟨some 2,none,.mv (.t 8)⟩]) .ret))
theorem Ep:codeOf Tryz.prog 240=some ⟨9,CK,[(.tmp 2)]⟩:=by kernel_rfl
theorem CL:modes 240=⟨[],.asis,none,false⟩:=by unfold modes; rfl
def F0:SC:=(.seq (.reg [⟨some 1,none,.boxv 33 2 (.t 0)⟩,⟨some 2,none,.mv (.c (.bool false))⟩]) (.seq (.reg [⟨some 3,none,.faddr 0 (.t 1)⟩,⟨some 4,none,.load false 1 (.t 3)⟩,⟨some 5,none,.idx (.t 4) (.c (.int .i64 0))⟩,⟨some 6,none,.call 240 [(.t 5)]⟩,⟨some 2,none,.mv (.t 6)⟩]) .ret))
theorem JS:codeOf Tryz.prog 209=some ⟨7,F0,[(.tmp 2)]⟩:=by kernel_rfl
theorem Ak:modes 209=⟨[],.asis,none,false⟩:=by unfold modes; rfl
theorem P3 (n:Int):E 240 [.int .u8 n] []=some (.bool (dec (65≤n)&&dec (n≤90)),[]):=by
 cases h1:dec (65≤n)
 ·refine Ad Ep CL (of_decide_eq_true rfl) ?_
  simp (disch:=omega) only [CK,go_sem,Aa,h1]
 ·refine Ad Ep CL (of_decide_eq_true rfl) ?_
  simp (disch:=omega) only [CK,go_sem,Aa,h1]
theorem Dr (x:Tm) (h:x.cok=true):E 209 [x.sv] []=some (.bool (Ao x.name),[]):=by
 rw [Tm.KY,zA] at h
 obtain ⟨h1,h2⟩:=Ve h.1
 have h3:=P3 (J9 x.name 0)
 rw [h2] at h3
 refine Ad JS Ak (of_decide_eq_true rfl) ?_
 simp (disch:=omega) only [F0,go_sem,Aa,h3,CL]
def Au:SC:=(.seq (.reg [⟨some 6,none,.mv (.c (.int .i64 0))⟩]) (.seq (.seq (.reg [⟨some 11,none,.mv (.t 0)⟩,⟨some 12,none,.len false (.t 11)⟩,⟨some 13,none,.mv (.c (.int .i64 0))⟩]) (.block 0 (.loop [1,1,1,0,0,0,0,0,0,0,0,1,1,1,0,0,0,0,0,0,0,0,0,0,0,0,0,0,0,0,0,0,0,0,0,0,0,0,0] (.seq (.reg [⟨some 14,none,.bin .lss false (.t 13) (.t 12)⟩]) (.seq (.cond (.t 14) .skip (.exit 0)) (.seq (.block 1 (.seq (.reg [⟨some 15,none,.mv (.t 13)⟩,⟨some 16,none,.iaddr 2 (.t 11) (.t 13)⟩,⟨some 17,none,.load true 2 (.t 16)⟩,⟨(some 8),none,(.alloc 33 [(.str ⟨#[]⟩),.nil])⟩,⟨some 7,none,.mv (.t 15)⟩,⟨none,none,(.store 2 (.t 8) (.t 17))⟩]) (.seq (.seq (.reg [⟨some 18,none,.mv (.t 7)⟩,⟨some 19,none,.mv (.t 1)⟩,⟨some 20,none,.len false (.t 19)⟩,⟨some 21,none,.bin .geq false (.t 18) (.t 20)⟩]) (.cond (.t 21) (.seq (.reg [⟨some 6,none,.mv (.c (.int .i64 1))⟩]) .ret) .skip)) (.seq (.reg [⟨some 22,none,.mv (.t 1)⟩,⟨some 23,none,.mv (.t 7)⟩,⟨some 24,none,.iaddr 2 (.t 22) (.t 23)⟩,⟨some 25,none,.load true 2 (.t 24)⟩,⟨(some 9),none,(.alloc 33 [(.str ⟨#[]⟩),.nil])⟩,⟨none,none,(.store 2 (.t 9) (.t 25))⟩]) (.seq (.reg [⟨some 26,none,.mv (.t 2)⟩,⟨some 27,none,.load true 2 (.t 8)⟩,⟨some 28,none,.load true 2 (.t 9)⟩,⟨some 29,none,.callv (.t 26) [(.t 27),(.t 28)]⟩,⟨some 10,none,.mv (.t 29)⟩]) (.seq (.reg [⟨some 30,none,.mv (.t 10)⟩,⟨some 31,none,.bin .neq false (.t 30) (.c (.int .i64 0))⟩]) (.cond (.t 31) (.seq (.reg [⟨some 32,none,.mv (.t 10)⟩,⟨some 6,none,.mv (.t 32)⟩]) .ret) .skip))))))) (.reg [⟨some 33,none,.bin .add false (.t 13) (.c (.int .i64 1))⟩,⟨some 13,none,.mv (.t 33)⟩]))))))) (.seq (.seq (.reg [⟨some 34,none,.mv (.t 0)⟩,⟨some 35,none,.len false (.t 34)⟩,⟨some 36,none,.mv (.t 1)⟩,⟨some 37,none,.len false (.t 36)⟩,⟨some 38,none,.bin .lss false (.t 35) (.t 37)⟩]) (.cond (.t 38) (.seq (.reg [⟨some 6,none,.mv (.c (.int .i64 (-(0+1))))⟩]) .ret) .skip)) (.seq (.reg [⟨some 6,none,.mv (.c (.int .i64 0))⟩]) .ret))))
theorem AC:codeOf Tryz.prog 313=some ⟨39,Au,[(.tmp 6)]⟩:=by kernel_rfl
theorem Av:modes 313=⟨[],.asis,none,false⟩:=by unfold modes; rfl
def B0:SC:=(.seq (.reg [⟨some 2,none,.boxv 33 2 (.t 0)⟩,⟨some 3,none,.boxv 33 2 (.t 1)⟩,⟨some 4,none,.mv (.c (.int .i64 0))⟩]) (.seq (.dreg [[],[0],[],[2,1,0],[1,0,3,2],[3,2,1,0,4]] [⟨some 8,none,.load true 2 (.t 2)⟩,⟨some 9,none,.call 209 [(.t 8)]⟩,⟨some 10,none,.load true 2 (.t 3)⟩,⟨some 11,none,.call 209 [(.t 10)]⟩,⟨some 5,none,.mv (.t 9)⟩,⟨some 6,none,.mv (.t 11)⟩]) (.seq (.block 0 (.seq (.reg [⟨some 13,none,.mv (.t 5)⟩,⟨some 14,none,.mv (.t 13)⟩,⟨(some 15),(some (14,true)),(.mv (.t 6))⟩,⟨(some 16),(some (14,true)),(.un .not (.t 15))⟩,⟨some 17,none,.pick (.t 14) (.t 16) (.c (.bool false))⟩,⟨some 12,none,.mv (.t 17)⟩]) (.cond (.t 12) (.seq (.reg [⟨some 4,none,.mv (.c (.int .i64 (-(0+1))))⟩]) .ret) (.seq (.reg [⟨some 19,none,.mv (.t 6)⟩,⟨some 20,none,.mv (.t 19)⟩,⟨(some 21),(some (20,true)),(.mv (.t 5))⟩,⟨(some 22),(some (20,true)),(.un .not (.t 21))⟩,⟨some 23,none,.pick (.t 20) (.t 22) (.c (.bool false))⟩,⟨some 18,none,.mv (.t 23)⟩]) (.cond (.t 18) (.seq (.reg [⟨some 4,none,.mv (.c (.int .i64 1))⟩]) .ret) .skip))))) (.seq (.seq (.dreg [[],[0],[],[2],[1,0,3,2],[],[5],[6,5],[],[8],[9,8],[7,6,5,10,9,8,4,1,0,3,2],[4,1,0,3,2,11,7,6,5,10,9,8],[12,4,1,0,3,2,11,7,6,5,10,9,8],[13,12,4,1,0,3,2,11,7,6,5,10,9,8]] [⟨some 24,none,.faddr 0 (.t 2)⟩,⟨some 25,none,.load false 1 (.t 24)⟩,⟨some 26,none,.faddr 0 (.t 3)⟩,⟨some 27,none,.load false 1 (.t 26)⟩,⟨some 28,none,.call 283 [(.t 25),(.t 27)]⟩,⟨some 29,none,.faddr 1 (.t 2)⟩,⟨some 30,none,.load false 1 (.t 29)⟩,⟨some 31,none,.len false (.t 30)⟩,⟨some 32,none,.faddr 1 (.t 3)⟩,⟨some 33,none,.load false 1 (.t 32)⟩,⟨some 34,none,.len false (.t 33)⟩,⟨some 35,none,.call 274 [(.t 31),(.t 34)]⟩,⟨some 36,none,.mkrow 3 1 [(.int .i64 0)] 2 [(0,(.t 28)),(1,(.t 35))]⟩,⟨some 37,none,.call 272 [(.t 36)]⟩,⟨some 7,none,.mv (.t 37)⟩]) (.seq (.reg [⟨some 38,none,.mv (.t 7)⟩,⟨some 39,none,.bin .neq false (.t 38) (.c (.int .i64 0))⟩]) (.cond (.t 39) (.seq (.reg [⟨some 40,none,.mv (.t 7)⟩,⟨some 4,none,.mv (.t 40)⟩]) .ret) .skip))) (.seq (.reg [⟨some 41,none,.faddr 1 (.t 2)⟩,⟨some 42,none,.load false 1 (.t 41)⟩,⟨some 43,none,.faddr 1 (.t 3)⟩,⟨some 44,none,.load false 1 (.t 43)⟩,⟨some 45,none,.call 313 [(.t 42),(.t 44),(.c (.fn 273 []))]⟩,⟨some 4,none,.mv (.t 45)⟩]) .ret)))))
theorem C6:codeOf Tryz.prog 273=some ⟨46,B0,[(.tmp 4)]⟩:=by kernel_rfl
theorem AY:modes 273=⟨[],.asis,none,false⟩:=by unfold modes; rfl
theorem EE:K9 Tryz.prog 273=true:=by kernel_rfl
theorem IP (fid:Nat) (xs ys:List Tm) (hl:xs.length≤1099511627776) (hl':ys.length≤1099511627776) (hg:K9 Tryz.prog fid=true) (hm:(modes fid).hand=[]) (hE:∀ x∈xs,∀ y∈ys,E fid [x.sv,y.sv] []=some (.int .i64 (x.cmp y),[])):E 313 [.arr (xs.map Tm.d),.arr (ys.map Tm.d),.fn fid []] []=some (.int .i64 (Tm.cmpL xs ys),[]):=by
 refine Ad AC Av (of_decide_eq_true rfl) ?_
 simp (disch:=omega) only [Au,go_sem,Aa]
 refine go_loop (α:=Int) (fun a=>⟨slots 39 0 [(0,.arr (xs.map Tm.d)),(1,.arr (ys.map Tm.d)),(2,.fn fid []),(11,.arr (xs.map Tm.d)),(12,.int .i64 xs.length),(13,.int .i64 a)],[]⟩) (fun a=>∃ k:Nat,a=k∧k≤(xs).length∧k≤ys.length∧Tm.cmpL (xs.drop k) (ys.drop k)=Tm.cmpL xs ys) (fun a=>(xs).length-(a).toNat) 0 ⟨0,rfl,zH _,zH _,by rw [zJ,zJ]⟩ (by simp (disch:=omega) only [go_sem,Aa]) ?_
 rintro i ⟨k,hi,hk,hR⟩
 have hni:i.toNat=k:=by omega
 have hni1:(i+1).toNat=k+1:=by omega
 rcases zB k (xs).length with hlt | hge
 ·obtain ⟨hk',hR⟩:=hR
  have hgx:=get_at Tm.d hlt
  rw [Tm.d_eq] at hgx
  rcases zB k ys.length with hlt' | hge'
  ·have hgy:=get_at Tm.d hlt'
   rw [Tm.d_eq] at hgy
   have hc:=hE xs[k] (zD hlt) ys[k] (zD hlt')
   rw [P1 hlt hlt'] at hR
   by_cases h0:xs[k].cmp ys[k]=0
   ·rw [orZ,if_pos h0] at hR
    rw [h0] at hc
    simp (disch:=omega) only [go_sem,Aa,hni,hgx,hgy,hc,hg,hm]
    exact ⟨i+1,⟨k+1,by omega,hlt,hlt',hR⟩,by omega,by first | trivial | rfl⟩
   ·rw [orZ,if_neg h0] at hR
    simp (disch:=omega) only [go_sem,Aa,hni,hgx,hgy,hc,hg,hm,h0]
    exact hR
  ·rw [S9 hlt hge'] at hR
   simp (disch:=omega) only [go_sem,Aa,hni,hgx]
   exact hR
 ·obtain ⟨hk',hR⟩:=hR
  obtain rfl:k=xs.length:=by omega
  rcases zB xs.length ys.length with hlt' | hge'
  ·rw [Yr (zN _) hlt'] at hR
   simp (disch:=omega) only [go_sem,Aa,hni]
   exact hR
  ·rw [P2 (zN _) hge'] at hR
   simp (disch:=omega) only [go_sem,Aa,hni]
   exact hR
abbrev TY (f:FuncId) (x y:Tm):Prop:=x.cok=true→y.cok=true→x.nodes≤1099511627776→y.nodes≤1099511627776→E f [x.sv,y.sv] []=some (.int .i64 (x.cmp y),[])
theorem GK (x:Tm) (ih:∀ x'∈x.args,∀ y,TY 273 x' y) (y:Tm):TY 273 x y:=by
 intro hx hy hnx hny
 have lx:=Tm.length_le x.args
 have ly:=Tm.length_le y.args
 have nx:=Tm.An x
 have ny:=Tm.An y
 have h1:=Dr x hx
 have h2:=Dr y hy
 have h3:=JR x.name y.name
 have h4:=HG x.args.length y.args.length
 have h5:=Ys (E2 x.name y.name) (Hd x.args.length y.args.length)
 rw [Tm.KY,zA] at hx hy
 have h6:=IP 273 x.args y.args (by omega) (by omega) EE (by rw [AY]) fun x' hx' y' hy'=>ih x' hx' y' (Tm.H0 hx.2 hx') (Tm.H0 hy.2 hy') (by have:=Tm.AW hx'; omega) (by have:=Tm.AW hy'; omega)
 rw [Tm.Wl]
 cases vx:Ao x.name <;> rw [vx] at h1 <;> cases vy:Ao y.name <;> rw [vy] at h2
 all_goals
  simp only [Bool.not_true,Bool.not_false,yJ,zM,yG,yK,if_true,if_false,Bool.false_eq_true]
  by_cases h0:orZ (E2 x.name y.name) (Hd x.args.length y.args.length)=0
  ·rw [h0] at h5
   try rw [h0]
   refine Ad C6 AY (of_decide_eq_true rfl) ?_
   simp (disch:=omega) only [B0,go_sem,Aa,h1,h2,h3,h4,h5,h6,Ak,AB,AI,CA,Av]
   try rfl
  ·try rw [orZ.eq_1 (orZ _ _) _,if_neg h0]
   refine Ad C6 AY (of_decide_eq_true rfl) ?_
   simp (disch:=omega) only [B0,go_sem,Aa,h0,h1,h2,h3,h4,h5,Ak,AB,AI,CA]
theorem Er (x y:Tm):TY 273 x y:=GK x (fun x' hx' y'=>Er x' y') y
termination_by SizeOf.sizeOf x
decreasing_by exact Tm.lt_of_mem hx'
def Es:SC:=(.seq (.reg [⟨some 2,none,.mv (.c (.int .i64 0))⟩]) (.seq (.seq (.reg [⟨some 3,none,.mv (.t 0)⟩]) (.cond (.t 3) (.seq (.reg [⟨some 2,none,.mv (.c (.int .i64 1))⟩]) .ret) .skip)) (.seq (.reg [⟨some 2,none,.mv (.c (.int .i64 0))⟩]) .ret)))
theorem G4:codeOf Tryz.prog 88=some ⟨4,Es,[(.tmp 2)]⟩:=by kernel_rfl
theorem Et:modes 88=⟨[],.asis,none,false⟩:=by unfold modes; rfl
def BO:SC:=(.seq (.reg [⟨some 2,none,.boxv 122 3 (.t 0)⟩,⟨some 3,none,.boxv 122 3 (.t 1)⟩,⟨some 4,none,.mv (.c (.int .i64 0))⟩]) (.seq (.dreg [[],[0],[],[2],[1,0,3,2],[],[5],[6,5,4,1,0,3,2],[],[8],[9,8,7,6,5,4,1,0,3,2],[7,6,5,4,1,0,3,2,10,9,8],[4,1,0,3,2,11,7,6,5,10,9,8],[12,4,1,0,3,2,11,7,6,5,10,9,8],[13,12,4,1,0,3,2,11,7,6,5,10,9,8]] [⟨some 5,none,.faddr 1 (.t 2)⟩,⟨some 6,none,.load true 2 (.t 5)⟩,⟨some 7,none,.faddr 1 (.t 3)⟩,⟨some 8,none,.load true 2 (.t 7)⟩,⟨some 9,none,.call 273 [(.t 6),(.t 8)]⟩,⟨some 10,none,.faddr 0 (.t 2)⟩,⟨some 11,none,.load false 1 (.t 10)⟩,⟨some 12,none,.call 88 [(.t 11)]⟩,⟨some 13,none,.faddr 0 (.t 3)⟩,⟨some 14,none,.load false 1 (.t 13)⟩,⟨some 15,none,.call 88 [(.t 14)]⟩,⟨some 16,none,.call 274 [(.t 12),(.t 15)]⟩,⟨some 17,none,.mkrow 3 1 [(.int .i64 0)] 2 [(0,(.t 9)),(1,(.t 16))]⟩,⟨some 18,none,.call 272 [(.t 17)]⟩,⟨some 4,none,.mv (.t 18)⟩]) .ret))
theorem DA:codeOf Tryz.prog 203=some ⟨19,BO,[(.tmp 4)]⟩:=by kernel_rfl
theorem Bj:modes 203=⟨[],.asis,none,false⟩:=by unfold modes; rfl
theorem SA (b:Bool):E 88 [.bool b] []=some (.int .i64 (H3 b),[]):=by
 cases b
 ·refine Ad G4 Et (of_decide_eq_true rfl) ?_
  simp (disch:=omega) only [Es,go_sem,Aa]
  rfl
 ·refine Ad G4 Et (of_decide_eq_true rfl) ?_
  simp (disch:=omega) only [Es,go_sem,Aa]
  rfl
theorem compareLiterals_E (x y:Lt) (hx:x.atom.cok=true) (hy:y.atom.cok=true) (hnx:x.atom.nodes≤1099511627776) (hny:y.atom.nodes≤1099511627776):E 203 [x.sv,y.sv] []=some (.int .i64 (x.cmp y),[]):=by
 have h1:=Er x.atom y.atom hx hy hnx hny
 have h2:=SA x.pos
 have h3:=SA y.pos
 have h4:=HG (H3 x.pos) (H3 y.pos)
 have h5:=Ys (x.atom.cmp y.atom) (Hd (H3 x.pos) (H3 y.pos))
 unfold Lt.cmp
 refine Ad DA Bj (of_decide_eq_true rfl) ?_
 simp (disch:=omega) only [BO,go_sem,Aa,h1,h2,h3,h4,h5,AY,Et,AI,CA]
end Wd
theorem Ot (x y:Lt) (hx:x.atom.cok=true) (hy:y.atom.cok=true) (hnx:x.atom.nodes≤1099511627776) (hny:y.atom.nodes≤1099511627776):FunD Tryz.prog 203 [x.sv,y.sv] [] (.int .i64 (x.cmp y)) []:=Wd.E_told (Wd.compareLiterals_E x y hx hy hnx hny)
def AD:SC:=(.seq (.reg [⟨some 6,none,.mv (.c (.bool false))⟩]) (.seq (.seq (.reg [⟨some 10,none,.mv (.t 0)⟩,⟨some 11,none,.len false (.t 10)⟩,⟨some 12,none,.mv (.t 1)⟩,⟨some 13,none,.len false (.t 12)⟩,⟨some 14,none,.bin .neq false (.t 11) (.t 13)⟩]) (.cond (.t 14) (.seq (.reg [⟨some 6,none,.mv (.c (.bool false))⟩]) .ret) .skip)) (.seq (.seq (.reg [⟨some 15,none,.mv (.t 0)⟩,⟨some 16,none,.len false (.t 15)⟩,⟨some 17,none,.mv (.c (.int .i64 0))⟩]) (.block 0 (.loop [0,1,1,0,0,0,0,0,0,0,0,0,0,0,0,1,1,1,0,0,0,0,0,0,0,0,0,0,0,0,0,0] (.seq (.reg [⟨some 18,none,.bin .lss false (.t 17) (.t 16)⟩]) (.seq (.cond (.t 18) .skip (.exit 0)) (.seq (.block 1 (.seq (.reg [⟨some 19,none,.mv (.t 17)⟩,⟨some 20,none,.iaddr 2 (.t 15) (.t 17)⟩,⟨some 21,none,.load true 2 (.t 20)⟩,⟨(some 8),none,(.alloc 33 [(.str ⟨#[]⟩),.nil])⟩,⟨some 7,none,.mv (.t 19)⟩,⟨none,none,(.store 2 (.t 8) (.t 21))⟩]) (.seq (.reg [⟨some 22,none,.mv (.t 1)⟩,⟨some 23,none,.mv (.t 7)⟩,⟨some 24,none,.iaddr 2 (.t 22) (.t 23)⟩,⟨some 25,none,.load true 2 (.t 24)⟩,⟨(some 9),none,(.alloc 33 [(.str ⟨#[]⟩),.nil])⟩,⟨none,none,(.store 2 (.t 9) (.t 25))⟩]) (.seq (.reg [⟨some 26,none,.mv (.t 2)⟩,⟨some 27,none,.load true 2 (.t 8)⟩,⟨some 28,none,.load true 2 (.t 9)⟩,⟨some 29,none,.callv (.t 26) [(.t 27),(.t 28)]⟩,⟨some 30,none,.un .not (.t 29)⟩]) (.cond (.t 30) (.seq (.reg [⟨some 6,none,.mv (.c (.bool false))⟩]) .ret) .skip))))) (.reg [⟨some 31,none,.bin .add false (.t 17) (.c (.int .i64 1))⟩,⟨some 17,none,.mv (.t 31)⟩]))))))) (.seq (.reg [⟨some 6,none,.mv (.c (.bool true))⟩]) .ret))))
theorem Bb:codeOf Tryz.prog 277=some ⟨32,AD,[(.tmp 6)]⟩:=by kernel_rfl
theorem AE:modes 277=⟨[],.asis,none,false⟩:=by unfold modes; rfl
def F2:SC:=(.seq (.reg [⟨some 2,none,.boxv 33 2 (.t 0)⟩,⟨some 3,none,.boxv 33 2 (.t 1)⟩,⟨some 4,none,.mv (.c (.bool false))⟩]) (.seq (.reg [⟨some 5,none,.faddr 0 (.t 2)⟩,⟨some 6,none,.load false 1 (.t 5)⟩,⟨some 7,none,.faddr 0 (.t 3)⟩,⟨some 8,none,.load false 1 (.t 7)⟩,⟨some 9,none,.bin .eql false (.t 6) (.t 8)⟩,⟨some 10,none,.mv (.t 9)⟩,⟨(some 11),(some (10,true)),(.faddr 1 (.t 2))⟩,⟨(some 12),(some (10,true)),(.load false 1 (.t 11))⟩,⟨(some 13),(some (10,true)),(.faddr 1 (.t 3))⟩,⟨(some 14),(some (10,true)),(.load false 1 (.t 13))⟩,⟨(some 15),(some (10,true)),(.call 277 [(.t 12),(.t 14),(.c (.fn 208 []))])⟩,⟨some 16,none,.pick (.t 10) (.t 15) (.c (.bool false))⟩,⟨some 4,none,.mv (.t 16)⟩]) .ret))
theorem Ip:codeOf Tryz.prog 208=some ⟨17,F2,[(.tmp 4)]⟩:=by kernel_rfl
theorem Ae:modes 208=⟨[],.asis,none,false⟩:=by unfold modes; rfl
theorem Ou:K9 Tryz.prog 208=true:=by kernel_rfl
def Gm:SC:=(.seq (.reg [⟨some 2,none,.boxv 33 2 (.t 0)⟩,⟨some 3,none,.boxv 33 2 (.t 1)⟩,⟨some 4,none,.mv (.c (.bool false))⟩]) (.seq (.seq (.reg [⟨some 6,none,.faddr 0 (.t 2)⟩,⟨some 7,none,.load false 1 (.t 6)⟩,⟨some 8,none,.faddr 0 (.t 3)⟩,⟨some 9,none,.load false 1 (.t 8)⟩,⟨some 10,none,.bin .neq false (.t 7) (.t 9)⟩,⟨some 11,none,.mv (.t 10)⟩,⟨(some 12),(some (11,false)),(.faddr 1 (.t 2))⟩,⟨(some 13),(some (11,false)),(.load false 1 (.t 12))⟩,⟨(some 14),(some (11,false)),(.len false (.t 13))⟩,⟨(some 15),(some (11,false)),(.faddr 1 (.t 3))⟩,⟨(some 16),(some (11,false)),(.load false 1 (.t 15))⟩,⟨(some 17),(some (11,false)),(.len false (.t 16))⟩,⟨(some 18),(some (11,false)),(.bin .neq false (.t 14) (.t 17))⟩,⟨some 19,none,.pick (.t 11) (.c (.bool true)) (.t 18)⟩]) (.cond (.t 19) (.seq (.reg [⟨some 4,none,.mv (.c (.bool false))⟩]) .ret) .skip)) (.seq (.seq (.reg [⟨some 5,none,.mv (.c (.int .i64 0))⟩]) (.block 0 (.loop [0,0,1,1,0,1,0,0,0,0,0,0,0,0,0,0,0,0,0,0,0,0,0,0,0,0,0,0,0,0,0,0,0,0,0,0,0,0,0] (.seq (.seq (.reg [⟨some 20,none,.mv (.t 5)⟩,⟨some 21,none,.faddr 1 (.t 2)⟩,⟨some 22,none,.load false 1 (.t 21)⟩,⟨some 23,none,.len false (.t 22)⟩,⟨some 24,none,.bin .lss false (.t 20) (.t 23)⟩]) (.cond (.t 24) .skip (.exit 0))) (.seq (.block 1 (.seq (.dreg [[],[0],[],[1,0,2],[3,1,0,2],[],[5],[],[6,5,7],[8,6,5,7],[4,3,1,0,2,9,8,6,5,7],[10,4,3,1,0,2,9,8,6,5,7]] [⟨some 27,none,.faddr 1 (.t 2)⟩,⟨some 28,none,.load false 1 (.t 27)⟩,⟨some 29,none,.mv (.t 5)⟩,⟨some 30,none,.iaddr 2 (.t 28) (.t 29)⟩,⟨some 31,none,.load true 2 (.t 30)⟩,⟨some 32,none,.faddr 1 (.t 3)⟩,⟨some 33,none,.load false 1 (.t 32)⟩,⟨some 34,none,.mv (.t 5)⟩,⟨some 35,none,.iaddr 2 (.t 33) (.t 34)⟩,⟨some 36,none,.load true 2 (.t 35)⟩,⟨some 37,none,.call 230 [(.t 31),(.t 36)]⟩,⟨some 38,none,.un .not (.t 37)⟩]) (.cond (.t 38) (.seq (.reg [⟨some 4,none,.mv (.c (.bool false))⟩]) .ret) .skip))) (.reg [⟨some 25,none,.mv (.t 5)⟩,⟨some 26,none,.bin .add false (.t 25) (.c (.int .i64 1))⟩,⟨some 5,none,.mv (.t 26)⟩])))))) (.seq (.reg [⟨some 4,none,.mv (.c (.bool true))⟩]) .ret))))
theorem IS:codeOf Tryz.prog 230=some ⟨39,Gm,[(.tmp 4)]⟩:=by kernel_rfl
theorem Ai:modes 230=⟨[],.asis,none,false⟩:=by unfold modes; rfl
theorem Qy {α:Type} {xs ys:List α} {k:Nat} (hx:k<xs.length) (hy:k<ys.length):xs.drop k=ys.drop k ↔ xs[k]=ys[k]∧xs.drop (k+1)=ys.drop (k+1):=by
 rw [zE hx,zE hy,List.cons.injEq]
theorem Yt (fid:Nat) (xs ys:List Tm) (hl:xs.length≤1099511627776) (hl':ys.length≤1099511627776) (hg:K9 Tryz.prog fid=true) (hm:(modes fid).hand=[]) (hE:∀ x∈xs,∀ y∈ys,E fid [x.sv,y.sv] []=some (.bool (dec (x=y)),[])):E 277 [.arr (xs.map Tm.d),.arr (ys.map Tm.d),.fn fid []] []=some (.bool (dec (xs=ys)),[]):=by
 by_cases hlen:xs.length=ys.length
 ·have hq:((xs.length:Int)=(ys.length:Int))=True:=by first | exact eq_true (by omega) | exact eq_false (by omega)
  refine Ad Bb AE (of_decide_eq_true rfl) ?_
  simp (disch:=omega) only [AD,go_sem,Aa,hq]
  refine go_loop (α:=Int) (fun a=>⟨slots 32 0 [(1,.arr (ys.map Tm.d)),(2,.fn fid []),(15,.arr (xs.map Tm.d)),(16,.int .i64 xs.length),(17,.int .i64 a)],[]⟩) (fun a=>∃ k:Nat,a=k∧k≤(xs).length∧dec (xs.drop k=ys.drop k)=dec (xs=ys)) (fun a=>(xs).length-(a).toNat) 0 ⟨0,rfl,zH _,by rw [zJ,zJ]⟩ (by simp (disch:=omega) only [go_sem,Aa]) ?_
  rintro i ⟨k,hi,hk,hR⟩
  have hni:i.toNat=k:=by omega
  have hni1:(i+1).toNat=k+1:=by omega
  rcases zB k (xs).length with hlt | hge
  ·have hgx:=get_at Tm.d hlt
   rw [Tm.d_eq] at hgx
   have hlt':k<ys.length:=by omega
   have hgy:=get_at Tm.d hlt'
   rw [Tm.d_eq] at hgy
   have hc:=hE xs[k] (zD hlt) ys[k] (zD hlt')
   rw [Fv (Qy hlt hlt')] at hR
   by_cases h0:xs[k]=ys[k]
   ·rw [Ar h0] at hc
    rw [Fv (and_iff_right h0)] at hR
    simp (disch:=omega) only [go_sem,Aa,hni,hgx,hgy,hc,hg,hm]
    exact ⟨i+1,⟨k+1,by omega,hlt,hR⟩,by omega,by first | trivial | rfl⟩
   ·rw [Ax h0] at hc
    rw [Ax (fun h=>h0 h.1)] at hR
    simp (disch:=omega) only [go_sem,Aa,hni,hgx,hgy,hc,hg,hm]
    exact hR
  ·rw [zG hge,zG (by omega),Dv] at hR
   simp (disch:=omega) only [go_sem,Aa,hni]
   exact hR
 ·have hq:((xs.length:Int)=(ys.length:Int))=False:=by first | exact eq_true (by omega) | exact eq_false (by omega)
  have he:dec (xs=ys)=false:=Ax fun h=>hlen (by rw [h])
  rw [he]
  refine Ad Bb AE (of_decide_eq_true rfl) ?_
  simp (disch:=omega) only [AD,go_sem,Aa,hq]
theorem Tm.eq_iff (x y:Tm):x=y ↔ x.name=y.name∧x.args=y.args:=by
 obtain ⟨n,a⟩:=x
 obtain ⟨m,b⟩:=y
 rw [Tm.mk.injEq]; rfl
theorem TZ (x:Tm) (y:Tm) (hnx:x.nodes≤1099511627776) (hny:y.nodes≤1099511627776) (ih:∀ x'∈x.args,∀ y':Tm,x'.nodes≤1099511627776→y'.nodes≤1099511627776→E 208 [x'.sv,y'.sv] []=some (.bool (dec (x'=y')),[])):E 208 [x.sv,y.sv] []=some (.bool (dec (x=y)),[]):=by
 have lx:=Tm.length_le x.args
 have ly:=Tm.length_le y.args
 have nx:=Tm.An x
 have ny:=Tm.An y
 have h6:=Yt 208 x.args y.args (by omega) (by omega) Ou (by rw [Ae]) fun x' hx' y' hy'=>ih x' hx' y' (by have:=Tm.AW hx'; omega) (by have:=Tm.AW hy'; omega)
 rw [Fv (Tm.eq_iff x y)]
 by_cases h0:x.name=y.name
 ·rw [Fv (and_iff_right h0)]
  have hq:(x.name=y.name)=True:=by simp [h0]
  refine Ad Ip Ae (of_decide_eq_true rfl) ?_
  simp (disch:=omega) only [F2,go_sem,Aa,hq,h6,AE]
 ·have hq:(x.name=y.name)=False:=by simp [h0]
  rw [Ax (fun h=>h0 h.1)]
  refine Ad Ip Ae (of_decide_eq_true rfl) ?_
  simp (disch:=omega) only [F2,go_sem,Aa,hq]
theorem E6 (x y:Tm) (hnx:x.nodes≤1099511627776) (hny:y.nodes≤1099511627776):E 208 [x.sv,y.sv] []=some (.bool (dec (x=y)),[]) :=
 TZ x y hnx hny fun x' hx' y' h h'=>E6 x' y' h h'
termination_by SizeOf.sizeOf x
decreasing_by exact Tm.lt_of_mem hx'
theorem Qct (x:Tm) (y:Tm) (hnx:x.nodes≤1099511627776) (hny:y.nodes≤1099511627776) (ih:∀ x'∈x.args,∀ y':Tm,x'.nodes≤1099511627776→y'.nodes≤1099511627776→E 230 [x'.sv,y'.sv] []=some (.bool (dec (x'=y')),[])):E 230 [x.sv,y.sv] []=some (.bool (dec (x=y)),[]):=by
 have lx:=Tm.length_le x.args
 have ly:=Tm.length_le y.args
 have nx:=Tm.An x
 have ny:=Tm.An y
 rw [Fv (Tm.eq_iff x y)]
 by_cases h0:x.name=y.name
 ·rw [Fv (and_iff_right h0)]
  have hq:(x.name=y.name)=True:=by simp [h0]
  by_cases hlen:x.args.length=y.args.length
  ·have hq2:((x.args.length:Int)=(y.args.length:Int))=True:=by first | exact eq_true (by omega) | exact eq_false (by omega)
   refine Ad IS Ai (of_decide_eq_true rfl) ?_
   simp (disch:=omega) only [Gm,go_sem,Aa,hq,hq2]
   refine go_loop (α:=Int) (fun a=>⟨slots 39 0 [(2,.ptr 0 0),(3,.ptr 1 0),(5,.int .i64 a)],[.box 33 [.str x.name,.arr (x.args.map Tm.d)],.box 33 [.str y.name,.arr (y.args.map Tm.d)]]⟩) (fun a=>∃ k:Nat,a=k∧k≤(x.args).length∧dec (x.args.drop k=y.args.drop k)=dec (x.args=y.args)) (fun a=>(x.args).length-(a).toNat) 0 ⟨0,rfl,zH _,by rw [zJ,zJ]⟩ (by simp (disch:=omega) only [go_sem,Aa]) ?_
   rintro i ⟨k,hi,hk,hR⟩
   have hni:i.toNat=k:=by omega
   have hni1:(i+1).toNat=k+1:=by omega
   rcases zB k (x.args).length with hlt | hge
   ·have hgx:=get_at Tm.d hlt
    rw [Tm.d_eq] at hgx
    have hlt':k<y.args.length:=by omega
    have hgy:=get_at Tm.d hlt'
    rw [Tm.d_eq] at hgy
    have hc:=ih x.args[k] (zD hlt) y.args[k] (by have:=Tm.AW (zD hlt); omega) (by have:=Tm.AW (zD hlt'); omega)
    rw [Fv (Qy hlt hlt')] at hR
    by_cases h0:x.args[k]=y.args[k]
    ·rw [Ar h0] at hc
     rw [Fv (and_iff_right h0)] at hR
     simp (disch:=omega) only [go_sem,Aa,hni,hgx,hgy,hc,Ai]
     exact ⟨i+1,⟨k+1,by omega,hlt,hR⟩,by omega,by first | trivial | rfl⟩
    ·rw [Ax h0] at hc
     rw [Ax (fun h=>h0 h.1)] at hR
     simp (disch:=omega) only [go_sem,Aa,hni,hgx,hgy,hc,Ai]
     exact hR
   ·rw [zG hge,zG (by omega),Dv] at hR
    simp (disch:=omega) only [go_sem,Aa,hni]
    exact hR
  ·have hq2:((x.args.length:Int)=(y.args.length:Int))=False:=by first | exact eq_true (by omega) | exact eq_false (by omega)
   have he:dec (x.args=y.args)=false:=Ax fun h=>hlen (by rw [h])
   rw [he]
   refine Ad IS Ai (of_decide_eq_true rfl) ?_
   simp (disch:=omega) only [Gm,go_sem,Aa,hq,hq2]
 ·have hq:(x.name=y.name)=False:=by simp [h0]
  rw [Ax (fun h=>h0 h.1)]
  refine Ad IS Ai (of_decide_eq_true rfl) ?_
  simp (disch:=omega) only [Gm,go_sem,Aa,hq]
theorem Jm (x y:Tm) (hnx:x.nodes≤1099511627776) (hny:y.nodes≤1099511627776):E 230 [x.sv,y.sv] []=some (.bool (dec (x=y)),[]) :=
 Qct x y hnx hny fun x' hx' y' h h'=>Jm x' y' h h'
termination_by SizeOf.sizeOf x
decreasing_by exact Tm.lt_of_mem hx'
def FZ:SC:=(.seq (.reg [⟨some 2,none,.mv (.c .nil)⟩]) (.seq (.seq (.reg [⟨some 6,none,.mv (.t 0)⟩,⟨some 7,none,.len false (.t 6)⟩,⟨some 8,none,.bin .eql false (.t 7) (.c (.int .i64 0))⟩]) (.cond (.t 8) (.seq (.reg [⟨some 2,none,.mv (.c .nil)⟩]) .ret) .skip)) (.seq (.reg [⟨some 9,none,.mv (.t 0)⟩,⟨some 10,none,.len false (.t 9)⟩,⟨(some 11),none,(.mkslice 33 2 40 [(.str ⟨#[]⟩),.nil] (.t 10))⟩,⟨some 3,none,.mv (.t 11)⟩]) (.seq (.seq (.reg [⟨some 12,none,.mv (.t 0)⟩,⟨some 13,none,.len false (.t 12)⟩,⟨some 14,none,.mv (.c (.int .i64 0))⟩]) (.block 0 (.loop [0,0,0,1,0,0,0,0,0,0,0,0,1,1,1,0,0,0,0,0,0,0,0,0,0,0] (.seq (.reg [⟨some 15,none,.bin .lss false (.t 14) (.t 13)⟩]) (.seq (.cond (.t 15) .skip (.exit 0)) (.seq (.block 1 (.seq (.reg [⟨some 16,none,.mv (.t 14)⟩,⟨some 17,none,.iaddr 2 (.t 12) (.t 14)⟩,⟨some 18,none,.load true 2 (.t 17)⟩,⟨(some 5),none,(.alloc 33 [(.str ⟨#[]⟩),.nil])⟩,⟨some 4,none,.mv (.t 16)⟩,⟨none,none,(.store 2 (.t 5) (.t 18))⟩]) (.reg [⟨some 19,none,.mv (.t 3)⟩,⟨some 20,none,.mv (.t 4)⟩,⟨some 21,none,.load true 2 (.t 5)⟩,⟨some 22,none,.call 187 [(.t 21)]⟩,⟨some 23,none,.iaddr 2 (.t 19) (.t 20)⟩,⟨none,none,(.store 2 (.t 23) (.t 22))⟩]))) (.reg [⟨some 24,none,.bin .add false (.t 14) (.c (.int .i64 1))⟩,⟨some 14,none,.mv (.t 24)⟩]))))))) (.seq (.reg [⟨some 25,none,.mv (.t 3)⟩,⟨some 2,none,.mv (.t 25)⟩]) .ret)))))
theorem Jn:codeOf Tryz.prog 260=some ⟨26,FZ,[(.tmp 2)]⟩:=by kernel_rfl
theorem Ga:modes 260=⟨[],.own [some (33,2)],none,false⟩:=by unfold modes; rfl
def Kr:SC:=(.seq (.reg [⟨some 1,none,.boxv 33 2 (.t 0)⟩,⟨(some 2),none,(.alloc 33 [(.str ⟨#[]⟩),.nil])⟩]) (.seq (.dreg [[],[0],[],[2],[3,2],[1,0,4,3,2],[5,1,0,4,3,2]] [⟨some 3,none,.faddr 0 (.t 1)⟩,⟨some 4,none,.load false 1 (.t 3)⟩,⟨some 5,none,.faddr 1 (.t 1)⟩,⟨some 6,none,.load false 1 (.t 5)⟩,⟨some 7,none,.call 260 [(.t 6)]⟩,⟨(some 8),none,(.build [(.str ⟨#[]⟩),.nil] [(0,(1,(.t 4))),(1,(1,(.t 7)))])⟩,⟨none,none,(.store 2 (.t 2) (.t 8))⟩]) .ret))
theorem QF:codeOf Tryz.prog 187=some ⟨9,Kr,[(.cell 2 true 2)]⟩:=by kernel_rfl
theorem AZ:modes 187=⟨[],.asis,none,false⟩:=by unfold modes; rfl
def Ov:SC:=(.seq (.reg [⟨some 1,none,.boxv 33 2 (.t 0)⟩,⟨(some 2),none,(.alloc 33 [(.str ⟨#[]⟩),.nil])⟩]) (.seq (.reg [⟨some 5,none,.faddr 0 (.t 1)⟩,⟨some 6,none,.load false 1 (.t 5)⟩,⟨(some 7),none,(.build [(.str ⟨#[]⟩),.nil] [(0,(1,(.t 6)))])⟩,⟨(some 3),none,(.alloc 33 [(.str ⟨#[]⟩),.nil])⟩,⟨none,none,(.store 2 (.t 3) (.t 7))⟩]) (.seq (.seq (.reg [⟨some 4,none,.mv (.c (.int .i64 0))⟩]) (.block 0 (.loop [0,1,1,1,1,0,0,0,0,0,0,0,0,0,0,0,0,0,0,0,0,0,0,0,0,0,0] (.seq (.seq (.reg [⟨some 8,none,.mv (.t 4)⟩,⟨some 9,none,.faddr 1 (.t 1)⟩,⟨some 10,none,.load false 1 (.t 9)⟩,⟨some 11,none,.len false (.t 10)⟩,⟨some 12,none,.bin .lss false (.t 8) (.t 11)⟩]) (.cond (.t 12) .skip (.exit 0))) (.seq (.block 1 (.dreg [[],[0],[],[2],[],[3,2,4],[5,3,2,4],[6,5,3,2,4],[7,6,5,3,2,4],[1,0,8,7,6,5,3,2,4],[0,1,2,3,4,5,6,7,8,9],[10,0,1,2,3,4,5,6,7,8,9]] [⟨some 15,none,.faddr 1 (.t 3)⟩,⟨some 16,none,.load false 1 (.t 15)⟩,⟨some 17,none,.faddr 1 (.t 1)⟩,⟨some 18,none,.load false 1 (.t 17)⟩,⟨some 19,none,.mv (.t 4)⟩,⟨some 20,none,.iaddr 2 (.t 18) (.t 19)⟩,⟨some 21,none,.load true 2 (.t 20)⟩,⟨some 22,none,.call 135 [(.t 21)]⟩,⟨(some 23),none,(.mkrow 33 2 [(.str ⟨#[]⟩),.nil] 1 [(0,(.t 22))])⟩,⟨(some 24),none,(.append 33 2 40 [(.str ⟨#[]⟩),.nil] (.t 16) (.t 23))⟩,⟨some 25,none,.faddr 1 (.t 3)⟩,⟨none,none,(.store 1 (.t 25) (.t 24))⟩])) (.reg [⟨some 13,none,.mv (.t 4)⟩,⟨some 14,none,.bin .add false (.t 13) (.c (.int .i64 1))⟩,⟨some 4,none,.mv (.t 14)⟩])))))) (.seq (.reg [⟨some 26,none,.load true 2 (.t 3)⟩,⟨none,none,(.store 2 (.t 2) (.t 26))⟩]) .ret))))
theorem WK:codeOf Tryz.prog 135=some ⟨27,Ov,[(.cell 2 true 2)]⟩:=by kernel_rfl
theorem Dc:modes 135=⟨[],.frz,none,false⟩:=by unfold modes; rfl
theorem WL (xs:List Tm) (hl:xs.length≤1099511627776) (h:∀ x∈xs,E 187 [x.sv] []=some (x.osv,x.obs)):E 260 [.arr (xs.map Tm.d)] []=some (.ref 0,[.row 33 2 (xs.map Tm.o)]):=by
 cases xs with
 | nil =>
  refine Ad Jn Ga (of_decide_eq_true rfl) ?_
  simp (disch:=omega) only [FZ,go_sem,Aa]
 | cons x0 xs0 =>
 generalize hxs:x0 :: xs0=xs at *
 have hpos:0<xs.length:=by rw [←hxs]; simp
 refine Ad Jn Ga (of_decide_eq_true rfl) ?_
 simp (disch:=omega) only [FZ,go_sem,Aa]
 refine go_loop (α:=Int) (fun a=>⟨slots 26 0 [(3,.ref 0),(12,.arr (xs.map Tm.d)),(13,.int .i64 xs.length),(14,.int .i64 a)],[.row 33 2 (Gz Tm.o [.str ⟨#[]⟩,.ow []] xs a.toNat)]⟩) (fun a=>∃ k:Nat,a=k∧k≤(xs).length) (fun a=>(xs).length-(a).toNat) 0 ⟨0,rfl,zH _⟩ (by simp (disch:=omega) only [go_sem,Aa,JN,yC]) ?_
 rintro i ⟨k,hi,hk⟩
 have hni:i.toNat=k:=by omega
 have hni1:(i+1).toNat=k+1:=by omega
 rcases zB k (xs).length with hlt | hge
 ·have hg:=get_at Tm.d hlt
  rw [Tm.d_eq] at hg
  have hz:=Mj Tm.o [.str ⟨#[]⟩,.ow []] hlt
  have hc:=h xs[k] (zD hlt)
  have hs:=Mk Tm.o [.str ⟨#[]⟩,.ow []] hlt
  rw [Tm.o_eq] at hs
  simp (disch:=omega) only [go_sem,Aa,hni,hg,hc,hz,Mh,AZ,Tm.osv,Tm.obs]
  refine ⟨i+1,⟨k+1,by omega,hlt⟩,by omega,?_⟩
  simp (disch:=omega) only [go_sem,Aa,hni1,hs]
 ·obtain rfl:k=xs.length:=by omega
  simp (disch:=omega) only [go_sem,Aa,hni,Mi]
theorem Yu (x:Tm) (h:E 260 [.arr (x.args.map Tm.d)] []=some (.ref 0,[.row 33 2 (x.args.map Tm.o)])):E 187 [x.sv] []=some (x.osv,x.obs):=by
 refine Ad QF AZ (of_decide_eq_true rfl) ?_
 simp (disch:=omega) only [Kr,go_sem,Aa,h,Ga]
theorem JT (x:Tm) (hn:x.nodes≤1099511627776):E 187 [x.sv] []=some (x.osv,x.obs) :=
 Yu x (WL x.args (by have:=Tm.An x; have:=Tm.length_le x.args; omega) fun y hy=>JT y (by have:=Tm.AW hy; have:=Tm.An x; omega))
termination_by SizeOf.sizeOf x
decreasing_by exact Tm.lt_of_mem hy
def Qgw (res:RM) (n0:Nat) (rs:List RX) (Q:SV × List Ob→Prop) (x:X) (st:St):Prop:=∃ out,TU res n0 rs out x st∧Q out
theorem exq {α:Type} {a:α} {Q:α→Prop}:(∃ out,some a=some out∧Q out)=Q a:=propext ⟨fun ⟨o,h,q⟩=>by obtain rfl:=yM h; exact q,fun q=>⟨a,rfl,q⟩⟩
theorem QfR {res:RM} {n0:Nat} {rs:List RX} {Q:SV × List Ob→Prop} {sl:List SV} {ob:List Ob}:Qgw res n0 rs Q .ret ⟨sl,ob⟩=∃ out,Oh res n0 ob (NL ⟨sl,ob⟩ rs)=some out∧Q out:=rfl
theorem QfS {res:RM} {n0:Nat} {rs:List RX} {Q:SV × List Ob→Prop} {sl:List SV} {ob:List Ob}:Qgw res n0 rs Q .normal ⟨sl,ob⟩=∃ out,Oh res n0 ob (NL ⟨sl,ob⟩ rs)=some out∧Q out:=rfl
attribute [go_sem] QfR QfS exq
def Tm.osh (x:Tm):List OT:=[.str x.name,.sh (x.args.map Tm.d)]
theorem Tm.SD (x:Tm):x.osh=[.str x.name,.sh (x.args.map Tm.d)]:=rfl
theorem Tm.Ow:∀ xs:List Tm,OT.AA (xs.map Tm.osh)=true
 | []=>rfl
 | x :: xs=>by rw [zK,Tm.SD]; simp [OT.AA,OT.C5,OT.full,Tm.Ow xs]
theorem Tm.WM:∀ xs:List Tm,OT.erss (xs.map Tm.osh)=xs.map Tm.d
 | []=>rfl
 | x :: xs=>by rw [zK,zK,Tm.SD,Tm.d_eq]; simp [OT.erss,OT.ers,OT.er,Tm.WM xs]
theorem DK {α β:Type} (f:α→β) {xs:List α} {k:Nat} (h:k<xs.length):(xs.take k).map f++[f xs[k]]=(xs.take (k+1)).map f:=by
 rw [yF h,yD]; rfl
theorem Qd7 (x:Tm) (hn:x.nodes≤1099511627776) (ih:∀ y∈x.args,E 135 [y.sv] []=some (y.sv,[])):E 135 [x.sv] []=some (x.sv,[]):=by
 have hl:=Tm.length_le x.args
 have hne:=Tm.An x
 have h10:((1:Int)=0)=False:=by simp
 have hfu:=Tm.Ow x.args
 have her:=Tm.WM x.args
 refine Ad WK Dc (of_decide_eq_true rfl) ?_
 simp (disch:=omega) only [Ov,go_sem,Aa]
 refine go_loop (α:=Int) (fun a=>⟨slots 27 0 [(1,.ptr 0 0),(2,.ptr 1 0),(3,.ptr 2 0),(4,.int .i64 a)],(if a=0 then [.box 33 [.str x.name,.arr (x.args.map Tm.d)],.box 33 [.str ⟨#[]⟩,.nil],.box 33 [.str x.name,.nil]] else [.box 33 [.str x.name,.arr (x.args.map Tm.d)],.box 33 [.str ⟨#[]⟩,.nil],.box 33 [.str x.name,.ref 3],.row 33 2 ((x.args.take a.toNat).map Tm.osh)])⟩) (fun a=>∃ k:Nat,a=k∧k≤(x.args).length) (fun a=>(x.args).length-(a).toNat) 0 ⟨0,rfl,zH _⟩ (by simp (disch:=omega) only [go_sem,Aa,eq_self,if_true]) ?_
 rintro i ⟨k,hi,hk⟩
 have hni:i.toNat=k:=by omega
 have hni1:(i+1).toNat=k+1:=by omega
 rcases zB k (x.args).length with hlt | hge
 ·have hg:=get_at Tm.d hlt
  rw [Tm.d_eq] at hg
  have hc:=ih x.args[k] (zD hlt)
  have hs:=DK Tm.osh hlt
  rw [Tm.SD] at hs
  rcases zI k with h0 | h0
  ·subst h0
   obtain rfl:i=0:=hi
   rw [z8,zL,zW] at hs
   simp (disch:=omega) only [go_sem,Aa,hni,hg,hc,Dc,eq_self,if_true]
   refine ⟨1,⟨1,rfl,hlt⟩,by omega,?_⟩
   simp (disch:=omega) only [go_sem,Aa,h10,if_false,hs]
  ·have hi0:(i=0)=False:=by simp; omega
   have hi1:(i+1=0)=False:=by simp; omega
   have htl:(x.args.take k).length=k:=by rw [zQ]; omega
   simp (disch:=omega) only [go_sem,Aa,hni,hg,hc,Dc,hi0,if_false,htl]
   refine ⟨i+1,⟨k+1,by omega,hlt⟩,by omega,?_⟩
   simp (disch:=omega) only [go_sem,Aa,hni1,hi1,if_false,hs]
 ·obtain rfl:k=x.args.length:=by omega
  have ht:x.args.take x.args.length=x.args:=zR
  rcases zI x.args.length with h0 | h0
  ·have hx:x.args=[]:=zF h0
   obtain rfl:i=0:=by omega
   simp (disch:=omega) only [go_sem,Aa,hni,hx,eq_self,if_true,zL,zV]
  ·have hi0:(i=0)=False:=by simp; omega
   simp (disch:=omega) only [go_sem,Aa,hni,hi0,if_false,ht,hfu,her]
theorem Rp (x:Tm) (hn:x.nodes≤1099511627776):E 135 [x.sv] []=some (x.sv,[]) :=
 Qd7 x hn fun y hy=>Rp y (by have:=Tm.AW hy; have:=Tm.An x; omega)
termination_by SizeOf.sizeOf x
decreasing_by exact Tm.lt_of_mem hy
def HH:SC:=(.seq (.reg [⟨some 1,none,.boxv 122 3 (.t 0)⟩,⟨(some 2),none,(.alloc 122 [(.bool false),(.str ⟨#[]⟩),.nil])⟩]) (.seq (.dreg [[],[0],[],[2],[3,2],[1,0,4,3,2],[5,1,0,4,3,2]] [⟨some 3,none,.faddr 0 (.t 1)⟩,⟨some 4,none,.load false 1 (.t 3)⟩,⟨some 5,none,.faddr 1 (.t 1)⟩,⟨some 6,none,.load true 2 (.t 5)⟩,⟨some 7,none,.call 187 [(.t 6)]⟩,⟨(some 8),none,(.build [(.bool false),(.str ⟨#[]⟩),.nil] [(0,(1,(.t 4))),(1,(2,(.t 7)))])⟩,⟨none,none,(.store 3 (.t 2) (.t 8))⟩]) .ret))
theorem Nw:codeOf Tryz.prog 159=some ⟨9,HH,[(.cell 2 true 3)]⟩:=by kernel_rfl
theorem CM:modes 159=⟨[],.own [none,none,some (33,2)],none,false⟩:=by unfold modes; rfl
def HJ:SC:=(.seq (.reg [⟨some 2,none,.boxv 122 3 (.t 0)⟩,⟨some 3,none,.boxv 122 3 (.t 1)⟩,⟨some 4,none,.mv (.c (.bool false))⟩]) (.seq (.reg [⟨some 5,none,.faddr 0 (.t 2)⟩,⟨some 6,none,.load false 1 (.t 5)⟩,⟨some 7,none,.faddr 0 (.t 3)⟩,⟨some 8,none,.load false 1 (.t 7)⟩,⟨some 9,none,.bin .eql true (.t 6) (.t 8)⟩,⟨some 10,none,.mv (.t 9)⟩,⟨(some 11),(some (10,true)),(.faddr 1 (.t 2))⟩,⟨(some 12),(some (10,true)),(.load true 2 (.t 11))⟩,⟨(some 13),(some (10,true)),(.faddr 1 (.t 3))⟩,⟨(some 14),(some (10,true)),(.load true 2 (.t 13))⟩,⟨(some 15),(some (10,true)),(.call 208 [(.t 12),(.t 14)])⟩,⟨some 16,none,.pick (.t 10) (.t 15) (.c (.bool false))⟩,⟨some 4,none,.mv (.t 16)⟩]) .ret))
theorem Nx:codeOf Tryz.prog 217=some ⟨17,HJ,[(.tmp 4)]⟩:=by kernel_rfl
theorem Fh:modes 217=⟨[],.asis,none,false⟩:=by unfold modes; rfl
def Ks:SC:=(.seq (.reg [⟨some 2,none,.alloc 60 [.nil]⟩]) (.seq (.reg [⟨some 6,none,.build [.nil] []⟩,⟨some 3,none,.alloc 60 [.nil]⟩,⟨none,none,(.store 1 (.t 3) (.t 6))⟩]) (.seq (.seq (.reg [⟨some 7,none,.mv (.t 0)⟩,⟨some 8,none,.len false (.t 7)⟩,⟨some 9,none,.mv (.c (.int .i64 0))⟩]) (.block 0 (.loop [0,0,1,1,0,0,0,1,1,1,0,0,0,0,0,0,0,0,0,0,0,0,0,0,0,0,0,0,0] (.seq (.reg [⟨some 10,none,.bin .lss false (.t 9) (.t 8)⟩]) (.seq (.cond (.t 10) .skip (.exit 0)) (.seq (.block 1 (.seq (.reg [⟨some 11,none,.iaddr 3 (.t 7) (.t 9)⟩,⟨some 12,none,.load true 3 (.t 11)⟩,⟨(some 5),none,(.alloc 122 [(.bool false),(.str ⟨#[]⟩),.nil])⟩,⟨none,none,(.store 3 (.t 5) (.t 12))⟩]) (.dreg [[],[0],[],[2],[3,2],[1,0,4,3,2],[0,1,2,3,4,5],[6,0,1,2,3,4,5]] [⟨some 13,none,.faddr 0 (.t 3)⟩,⟨some 14,none,.load false 1 (.t 13)⟩,⟨some 15,none,.load true 3 (.t 5)⟩,⟨some 16,none,.call 159 [(.t 15)]⟩,⟨(some 17),none,(.mkrow 122 3 [(.bool false),(.str ⟨#[]⟩),.nil] 1 [(0,(.t 16))])⟩,⟨(some 18),none,(.append 122 3 48 [(.bool false),(.str ⟨#[]⟩),.nil] (.t 14) (.t 17))⟩,⟨some 19,none,.faddr 0 (.t 3)⟩,⟨none,none,(.store 1 (.t 19) (.t 18))⟩]))) (.reg [⟨some 20,none,.bin .add false (.t 9) (.c (.int .i64 1))⟩,⟨some 9,none,.mv (.t 20)⟩]))))))) (.seq (.reg [⟨some 21,none,.faddr 0 (.t 3)⟩,⟨some 22,none,.load false 1 (.t 21)⟩,⟨some 23,none,.call 287 [(.t 22),(.c (.fn 203 []))]⟩]) (.seq (.reg [⟨some 24,none,.faddr 0 (.t 3)⟩,⟨some 25,none,.load false 1 (.t 24)⟩,⟨some 26,none,.call 288 [(.t 25),(.c (.fn 217 []))]⟩,⟨some 27,none,.faddr 0 (.t 3)⟩,⟨none,none,(.store 1 (.t 27) (.t 26))⟩]) (.seq (.reg [⟨some 28,none,.load true 1 (.t 3)⟩,⟨none,none,(.store 1 (.t 2) (.t 28))⟩]) .ret))))))
theorem QG:codeOf Tryz.prog 222=some ⟨29,Ks,[(.cell 2 true 1)]⟩:=by kernel_rfl
theorem CX:modes 222=⟨[],.own [some (122,3)],none,false⟩:=by unfold modes; rfl
def MN:SC:=(.seq (.reg [⟨some 2,none,.alloc 60 [.nil]⟩]) (.seq (.reg [⟨(some 7),none,(.mkrow 122 3 [(.bool false),(.str ⟨#[]⟩),.nil] 0 [])⟩,⟨some 3,none,.mv (.t 7)⟩]) (.seq (.seq (.reg [⟨some 4,none,.mv (.c (.int .i64 0))⟩]) (.block 0 (.loop [1,0,1,1,1,0,0,0,0,0,0,0,0,0,0,0,0,0,0,0,0,0,0,0,0,0,0,0,0,0,0,0,0,0,0,0,0,0,0,0,0,0,0,0,0,0,0,0,0,0,0,0,0,0,0,0,0,0,0,0,0,0,0,0,0,0,0,0,0,0,0,0,0,0] (.seq (.seq (.reg [⟨some 8,none,.mv (.t 4)⟩,⟨some 9,none,.mv (.t 0)⟩,⟨some 10,none,.len false (.t 9)⟩,⟨some 11,none,.bin .lss false (.t 8) (.t 10)⟩]) (.cond (.t 11) .skip (.exit 0))) (.seq (.block 1 (.seq (.reg [⟨some 5,none,.mv (.c (.int .i64 0))⟩]) (.seq (.block 2 (.loop [1,0,1,1,1,1,0,0,0,0,0,0,0,0,0,0,0,0,0,0,0,0,0,0,0,0,0,0,0,0,0,0,0,0,0,0,0,0,0,0,0,0,0,0,0,0,0,0,0,0,0,0,0,0,0,0,0,0,0,0,0,0,0,0,0,0,0,0,0,0,0,0,0,0] (.seq (.seq (.dreg [[],[],[1],[0,2,1],[3,0,2,1],[4,3,0,2,1],[4,3,0,2,1],[5,4,3,0,2,1,6],[7,5,4,3,0,2,1,6],[4,3,0,2,1],[4,3,0,2,1],[9,4,3,0,2,1,10],[11,9,4,3,0,2,1,10],[8,7,5,4,3,0,2,1,6,12,11,9,10],[13,8,7,5,4,3,0,2,1,6,12,11,9,10],[4,3,0,2,1,14,13,8,7,5,6,12,11,9,10]] [⟨some 14,none,.mv (.t 5)⟩,⟨some 15,none,.mv (.t 3)⟩,⟨some 16,none,.len false (.t 15)⟩,⟨some 17,none,.bin .lss false (.t 14) (.t 16)⟩,⟨some 18,none,.mv (.t 17)⟩,⟨(some 19),(some (18,true)),(.mv (.t 3))⟩,⟨(some 20),(some (18,true)),(.mv (.t 5))⟩,⟨(some 21),(some (18,true)),(.iaddr 3 (.t 19) (.t 20))⟩,⟨(some 22),(some (18,true)),(.load true 3 (.t 21))⟩,⟨(some 23),(some (18,true)),(.mv (.t 0))⟩,⟨(some 24),(some (18,true)),(.mv (.t 4))⟩,⟨(some 25),(some (18,true)),(.iaddr 3 (.t 23) (.t 24))⟩,⟨(some 26),(some (18,true)),(.load true 3 (.t 25))⟩,⟨(some 27),(some (18,true)),(.call 195 [(.t 22),(.t 26)])⟩,⟨(some 28),(some (18,true)),(.bin .lss false (.t 27) (.c (.int .i64 0)))⟩,⟨some 29,none,.pick (.t 18) (.t 28) (.c (.bool false))⟩]) (.cond (.t 29) .skip (.exit 2))) (.block 3 (.reg [⟨some 30,none,.mv (.t 5)⟩,⟨some 31,none,.bin .add false (.t 30) (.c (.int .i64 1))⟩,⟨some 5,none,.mv (.t 31)⟩]))))) (.seq (.seq (.dreg [[],[],[1],[0,2,1],[3,0,2,1],[4,3,0,2,1],[4,3,0,2,1],[5,4,3,0,2,1,6],[7,5,4,3,0,2,1,6],[4,3,0,2,1],[4,3,0,2,1],[9,4,3,0,2,1,10],[11,9,4,3,0,2,1,10],[8,7,5,4,3,0,2,1,6,12,11,9,10],[13,8,7,5,4,3,0,2,1,6,12,11,9,10],[4,3,0,2,1,14,13,8,7,5,6,12,11,9,10]] [⟨some 32,none,.mv (.t 5)⟩,⟨some 33,none,.mv (.t 3)⟩,⟨some 34,none,.len false (.t 33)⟩,⟨some 35,none,.bin .lss false (.t 32) (.t 34)⟩,⟨some 36,none,.mv (.t 35)⟩,⟨(some 37),(some (36,true)),(.mv (.t 3))⟩,⟨(some 38),(some (36,true)),(.mv (.t 5))⟩,⟨(some 39),(some (36,true)),(.iaddr 3 (.t 37) (.t 38))⟩,⟨(some 40),(some (36,true)),(.load true 3 (.t 39))⟩,⟨(some 41),(some (36,true)),(.mv (.t 0))⟩,⟨(some 42),(some (36,true)),(.mv (.t 4))⟩,⟨(some 43),(some (36,true)),(.iaddr 3 (.t 41) (.t 42))⟩,⟨(some 44),(some (36,true)),(.load true 3 (.t 43))⟩,⟨(some 45),(some (36,true)),(.call 195 [(.t 40),(.t 44)])⟩,⟨(some 46),(some (36,true)),(.bin .eql false (.t 45) (.c (.int .i64 0)))⟩,⟨some 47,none,.pick (.t 36) (.t 46) (.c (.bool false))⟩]) (.cond (.t 47) (.exit 1) .skip)) (.seq (.dreg [[],[],[0,1],[2,0,1],[3,2,0,1],[],[],[5,6],[7,5,6],[8,7,5,6],[9,8,7,5,6],[4,3,2,0,1,10,9,8,7,5,6],[],[12,11,4,3,2,0,1,10,9,8,7,5,6]] [⟨some 48,none,.mv (.t 0)⟩,⟨some 49,none,.mv (.t 4)⟩,⟨some 50,none,.iaddr 3 (.t 48) (.t 49)⟩,⟨some 51,none,.faddr 0 (.t 50)⟩,⟨some 52,none,.load false 1 (.t 51)⟩,⟨some 53,none,.mv (.t 0)⟩,⟨some 54,none,.mv (.t 4)⟩,⟨some 55,none,.iaddr 3 (.t 53) (.t 54)⟩,⟨some 56,none,.faddr 1 (.t 55)⟩,⟨some 57,none,.load true 2 (.t 56)⟩,⟨some 58,none,.call 135 [(.t 57)]⟩,⟨(some 59),none,(.build [(.bool false),(.str ⟨#[]⟩),.nil] [(0,(1,(.t 52))),(1,(2,(.t 58)))])⟩,⟨(some 6),none,(.alloc 122 [(.bool false),(.str ⟨#[]⟩),.nil])⟩,⟨none,none,(.store 3 (.t 6) (.t 59))⟩]) (.dreg [[],[],[],[1,2],[0,3,1,2],[],[5],[4,0,3,1,2,6,5],[],[],[8,9],[7,4,0,3,1,2,6,5,10,8,9],[11,7,4,0,3,1,2,6,5,10,8,9]] [⟨(some 60),none,(.mkrow 122 3 [(.bool false),(.str ⟨#[]⟩),.nil] 0 [])⟩,⟨some 61,none,.mv (.t 3)⟩,⟨some 62,none,.mv (.t 5)⟩,⟨some 63,none,.slice false 3 (.t 61) none (some (.t 62))⟩,⟨(some 64),none,(.append 122 3 48 [(.bool false),(.str ⟨#[]⟩),.nil] (.t 60) (.t 63))⟩,⟨some 65,none,.load true 3 (.t 6)⟩,⟨(some 66),none,(.mkrow 122 3 [(.bool false),(.str ⟨#[]⟩),.nil] 1 [(0,(.t 65))])⟩,⟨(some 67),none,(.append 122 3 48 [(.bool false),(.str ⟨#[]⟩),.nil] (.t 64) (.t 66))⟩,⟨some 68,none,.mv (.t 3)⟩,⟨some 69,none,.mv (.t 5)⟩,⟨some 70,none,.slice false 3 (.t 68) (some (.t 69)) none⟩,⟨(some 71),none,(.append 122 3 48 [(.bool false),(.str ⟨#[]⟩),.nil] (.t 67) (.t 70))⟩,⟨some 3,none,.mv (.t 71)⟩])))))) (.reg [⟨some 12,none,.mv (.t 4)⟩,⟨some 13,none,.bin .add false (.t 12) (.c (.int .i64 1))⟩,⟨some 4,none,.mv (.t 13)⟩])))))) (.seq (.reg [⟨some 72,none,.mv (.t 3)⟩,⟨some 73,none,.build [.nil] [(0,(1,(.t 72)))]⟩,⟨none,none,(.store 1 (.t 2) (.t 73))⟩]) .ret))))
theorem Ua:codeOf Tryz.prog 218=some ⟨74,MN,[(.cell 2 true 1)]⟩:=by kernel_rfl
theorem Di:modes 218=⟨[],.frl [10],none,false⟩:=by unfold modes; rfl
theorem MO (x:Lt) (hn:x.atom.nodes≤1099511627776):E 159 [x.sv] []=some (x.osv,x.obs):=by
 have h:=JT x.atom hn
 refine Ad Nw CM (of_decide_eq_true rfl) ?_
 simp (disch:=omega) only [HH,go_sem,Aa,h,AZ,Tm.osv,Tm.obs]
theorem Lt.QfT (x y:Lt):dec (x=y)=(bif TL x.pos y.pos then dec (x.atom=y.atom) else false):=by
 obtain ⟨p,a⟩:=x
 obtain ⟨q,b⟩:=y
 have e:((⟨p,a⟩:Lt)=⟨q,b⟩) ↔ (p=q∧a=b):=by rw [Lt.mk.injEq]
 rw [Fv e]
 cases p <;> cases q
 ·show _=dec (a=b)
  exact Fv (and_iff_right rfl)
 ·exact Ax fun h=>by cases h.1
 ·exact Ax fun h=>by cases h.1
 ·show _=dec (a=b)
  exact Fv (and_iff_right rfl)
theorem MP (x y:Lt) (hnx:x.atom.nodes≤1099511627776) (hny:y.atom.nodes≤1099511627776):E 217 [x.sv,y.sv] []=some (.bool (dec (x=y)),[]):=by
 have h:=E6 x.atom y.atom hnx hny
 have b1:(false == true)=false:=rfl
 have b2:(true == false)=false:=rfl
 rw [Lt.QfT]
 cases hp:x.pos <;> cases hq:y.pos
 all_goals
  refine Ad Nx Fh (of_decide_eq_true rfl) ?_
  simp (disch:=omega) only [HJ,go_sem,Aa,h,hp,hq,b1,b2,TL,Ae]
def Lt.fine (x:Lt):Prop:=x.atom.cok=true∧x.atom.nodes≤1099511627776
theorem AK:modes 287=⟨[true],.asis,some Ii,false⟩:=by unfold modes; rfl
theorem Qfa (t:TypeId) (l:List Lt) (hl:l.length≤1099511627776) (hc:∀ x∈l,x.fine):E 287 [.ref 0,.fn 203 []] [.row t 3 (l.map Lt.o)]=some (.tup [],[.row t 3 ((NU l).map Lt.o)]):=by
 rw [GI (g:=Ii) (congrArg FM.ext AK)]
 unfold Ii
 simp only
 rw [Ar ⟨by first | trivial | rfl,by first | trivial | rfl,by simpa using hl,l,rfl,fun x hx y hy=>Ot x y (hc x hx).1 (hc y hy).1 (hc x hx).2 (hc y hy).2⟩,cond_true,Ra]
theorem Qcu:E 287 [.nil,.fn 203 []] []=some (.tup [],[]):=by
 rw [GI (g:=Ii) (congrArg FM.ext AK)]
 unfold Ii
 simp only
 rw [Ar (by first | trivial | rfl),cond_true]
theorem AG:modes 288=⟨[true],.asis,some Ek,false⟩:=by unfold modes; rfl
theorem Qar (t:TypeId) (l:List Lt) (hl:l.length≤1099511627776) (hc:∀ x∈l,x.fine):E 288 [.ref 0,.fn 217 []] [.row t 3 (l.map Lt.o)]=some (.ref 1,[.gone,.row t 3 ((H5 l).map Lt.o)]):=by
 rw [GI (g:=Ek) (congrArg FM.ext AG)]
 unfold Ek
 simp only
 rw [Ar ⟨by first | trivial | rfl,by first | trivial | rfl,by simpa using hl,l,rfl,fun x hx y hy=>E_told (MP x y (hc x hx).2 (hc y hy).2)⟩,cond_true,Ra]
theorem WN:E 288 [.nil,.fn 217 []] []=some (.nil,[]):=by
 rw [GI (g:=Ek) (congrArg FM.ext AG)]
 unfold Ek
 simp only
 rw [Ar (by first | trivial | rfl),cond_true]
noncomputable def mkC (l:List Lt):Cl:=⟨H5 (NU l)⟩
theorem Qfb:(mkC []).lits=[]:=by
 have e0:NU []=[]:=List.mergeSort_nil
 unfold mkC
 rw [e0]; rfl
theorem Ny (l:List Lt):Db (mkC l).lits:=Wo (Qt l)
theorem Rq (l:List Lt) (z:Lt):z∈(mkC l).lits ↔ z∈l:=by
 show z∈H5 (NU l) ↔ _
 rw [Qch]
 exact (Hl l).mem_iff
theorem Qbq (l:List Lt):(mkC l).lits.length≤l.length:=by
 show (H5 (NU l)).length≤_
 rw [Pu]
 have:=Qbd (H4 (NU l)) (NU l).length
 rw [(Hl l).length_eq] at this
 exact Nat.le_trans (by rw [(Hl l).length_eq]; exact zN _) this
theorem SE (l:List Lt) (hl:l.length≤1048576) (hf:∀ x∈l,x.fine):E 222 [.arr (l.map Lt.d)] []=some ((mkC l).osv,(mkC l).obs):=by
 have h10:((1:Int)=0)=False:=by simp
 have hsn:=Qcu
 have hcn:=WN
 have hs1:=Qfa 122 l (by omega) hf
 have hs2:=Qar 122 (NU l) (by rw [(Hl l).length_eq]; omega) (fun x hx=>hf x ((Hl l).mem_iff.1 hx))
 refine Ad QG CX (of_decide_eq_true rfl) ?_
 simp (disch:=omega) only [Ks,go_sem,Aa]
 refine go_loop (α:=Int) (fun a=>⟨slots 29 0 [(2,.ptr 0 0),(3,.ptr 1 0),(7,.arr (l.map Lt.d)),(8,.int .i64 l.length),(9,.int .i64 a)],(if a=0 then [.box 60 [.nil],.box 60 [.nil]] else [.box 60 [.nil],.box 60 [.ref 2],.row 122 3 ((l.take a.toNat).map Lt.o)])⟩) (fun a=>∃ k:Nat,a=k∧k≤(l).length) (fun a=>(l).length-(a).toNat) 0 ⟨0,rfl,zH _⟩ (by simp (disch:=omega) only [go_sem,Aa,eq_self,if_true]) ?_
 rintro i ⟨k,hi,hk⟩
 have hni:i.toNat=k:=by omega
 have hni1:(i+1).toNat=k+1:=by omega
 rcases zB k (l).length with hlt | hge
 ·have hg:=get_at Lt.d hlt
  rw [Lt.d_eq] at hg
  have hc:=MO l[k] (hf _ (zD hlt)).2
  have hs:=DK Lt.o hlt
  rw [Lt.o_eq] at hs
  rcases zI k with h0 | h0
  ·subst h0
   obtain rfl:i=0:=hi
   rw [z8,zL,zW] at hs
   simp (disch:=omega) only [go_sem,Aa,hni,hg,hc,CM,eq_self,if_true]
   refine ⟨1,⟨1,rfl,hlt⟩,by omega,?_⟩
   simp (disch:=omega) only [go_sem,Aa,h10,if_false,hs]
  ·have hi0:(i=0)=False:=by simp; omega
   have hi1:(i+1=0)=False:=by simp; omega
   have htl:(l.take k).length=k:=by rw [zQ]; omega
   simp (disch:=omega) only [go_sem,Aa,hni,hg,hc,CM,hi0,if_false,htl]
   refine ⟨i+1,⟨k+1,by omega,hlt⟩,by omega,?_⟩
   simp (disch:=omega) only [go_sem,Aa,hni1,hi1,if_false,hs]
 ·obtain rfl:k=l.length:=by omega
  have ht:l.take l.length=l:=zR
  rcases zI l.length with h0 | h0
  ·have hx:l=[]:=zF h0
   obtain rfl:i=0:=by omega
   have hm:(mkC l).lits=[]:=by rw [hx]; exact Qfb
   simp (disch:=omega) only [go_sem,Aa,hni,eq_self,if_true,hsn,hcn,hm,zL,AK,AG]
  ·have hi0:(i=0)=False:=by simp; omega
   have hm:(H5 (NU l))=(mkC l).lits:=rfl
   simp (disch:=omega) only [go_sem,Aa,hni,hi0,if_false,ht,hs1,hs2,hm,AK,AG]
noncomputable def Dp:List Lt→Lt→Nat
 | [],_=>0
 | y :: r,x=>if y.cmp x < 0 then Dp r x+1 else 0
noncomputable def Ib:List Lt→Lt→List Lt
 | [],x=>[x]
 | y :: r,x=>if y.cmp x < 0 then y :: Ib r x else if y.cmp x=0 then y :: r else x :: y :: r
theorem Qbr (x:Lt):∀ xs:List Lt,Dp xs x≤xs.length
 | []=>zN _
 | y :: r=>by
  rw [Dp]
  have:=Qbr x r
  split <;> simp <;> omega
theorem Qcv {xs:List Lt} {x:Lt} {k:Nat} (h:k+Dp (xs.drop k) x=Dp xs x) (hk:k<xs.length):(xs[k].cmp x<0∧k+1+Dp (xs.drop (k+1)) x=Dp xs x)∨(¬ xs[k].cmp x<0∧k=Dp xs x):=by
 rw [zE hk,Dp] at h
 by_cases hq:xs[k].cmp x<0
 ·rw [if_pos hq] at h; exact .inl ⟨hq,by omega⟩
 ·rw [if_neg hq] at h; exact .inr ⟨hq,by omega⟩
theorem SF {x:Lt}:∀ {xs:List Lt} (hlt:Dp xs x<xs.length),xs[Dp xs x].cmp x=0→Ib xs x=xs
 | [],hlt,_=>by simp at hlt
 | y :: r,hlt,h=>by
  rw [Ib]
  by_cases hq:y.cmp x<0
  ·have e:Dp (y :: r) x=Dp r x+1:=by rw [Dp,if_pos hq]
   rw [if_pos hq]
   simp only [e,zP,yO] at hlt h
   rw [SF (by omega) h]
  ·have e:Dp (y :: r) x=0:=by rw [Dp,if_neg hq]
   simp only [e,yP] at h
   rw [if_neg hq,if_pos h]
theorem SG {x:Lt}:∀ {xs:List Lt},(∀ hlt:Dp xs x<xs.length,xs[Dp xs x].cmp x≠0)→Ib xs x=xs.take (Dp xs x)++[x]++xs.drop (Dp xs x)
 | [],_=>rfl
 | y :: r,h=>by
  rw [Ib]
  by_cases hq:y.cmp x<0
  ·have e:Dp (y :: r) x=Dp r x+1:=by rw [Dp,if_pos hq]
   rw [if_pos hq,e,List.take_succ_cons,List.drop_succ_cons,yB,yB]
   rw [SG fun hlt=>?_]
   have:=h (by rw [e]; simpa using hlt)
   simp only [e,yO] at this
   exact this
  ·have e:Dp (y :: r) x=0:=by rw [Dp,if_neg hq]
   have:=h (by rw [e]; simp)
   simp only [e,yP] at this
   rw [if_neg hq,if_neg this,e]
   rfl
theorem Ox (x z:Lt):∀ xs:List Lt,z∈Ib xs x ↔ z=x∨z∈xs
 | []=>by simp [Ib]
 | y :: r=>by
  rw [Ib]
  split
  ·rw [yH,Ox x z r,yH]
   constructor
   ·rintro (h | h | h) <;> simp [h]
   ·rintro (h | h | h) <;> simp [h]
  ·split
   ·rename_i h0
    have e:y=x:=(Lt.cmp_ord y x x).zero.1 h0
    subst e
    simp
   ·simp
theorem Qz (x:Lt):∀ {xs:List Lt},Db xs→Db (Ib xs x)
 | [],_=>List.pairwise_singleton _ _
 | y :: r,h=>by
  obtain ⟨h1,h2⟩:=zZ.1 h
  rw [Ib]
  split
  ·rename_i hq
   refine zZ.2 ⟨fun z hz=>?_,Qz x h2⟩
   rcases (Ox x z r).1 hz with rfl | hz
   ·exact hq
   ·exact h1 z hz
  ·split
   ·exact h
   ·rename_i hq h0
    have ha:=(Lt.cmp_ord y x x).anti
    have hxy:x.cmp y<0:=by omega
    refine zZ.2 ⟨fun z hz=>?_,h⟩
    rcases yH.1 hz with rfl | hz
    ·exact hxy
    ·exact (Lt.cmp_ord x y z).trans hxy (h1 z hz)
theorem Yv (x:Lt):∀ xs:List Lt,(Ib xs x).length≤xs.length+1
 | []=>zN _
 | y :: r=>by
  rw [Ib]
  have:=Yv x r
  split
  ·simpa using this
  ·split <;> simp
noncomputable def Lk (out l:List Lt):List Lt:=l.foldl Ib out
theorem Vf (z:Lt):∀ (l out:List Lt),z∈Lk out l ↔ z∈out∨z∈l
 | [],out=>by simp [Lk]
 | x :: l,out=>by
  show z∈Lk (Ib out x) l ↔ _
  rw [Vf z l,Ox,yH]
  constructor
  ·rintro ((h | h) | h) <;> simp [h]
  ·rintro (h | h | h) <;> simp [h]
theorem Oy:∀ (l:List Lt) {out:List Lt},Db out→Db (Lk out l)
 | [],_,h=>h
 | x :: l,_,h=>Oy l (Qz x h)
theorem Qcw (l:List Lt):Lk [] l=(mkC l).lits:=JJ (Oy l y7) (Ny l) fun z=>by
 rw [Vf,Rq]; simp
theorem Lt.ot_take (xs:List Lt) (k:Nat):((xs.map Lt.d).take k).map (fun x=>x.map D.ot)=(xs.take k).map fun b=>b.d.map D.ot:=by
 rw [←List.map_take,yQ]; rfl
theorem Lt.ot_drop (xs:List Lt) (k:Nat):((xs.map Lt.d).drop k).map (fun x=>x.map D.ot)=(xs.drop k).map fun b=>b.d.map D.ot:=by
 rw [←List.map_drop,yQ]; rfl
theorem Lt.al3 (xs:List Lt):((xs.map fun b=>b.d.map D.ot).all fun l=>l.length == 3)=true:=by
 rw [List.all_map,zO]
 intro x _
 show ((x.d.map D.ot).length == 3)=true
 rw [Lt.d_eq]; rfl
theorem Lt.ald3 (xs:List Lt):((xs.map Lt.d).all fun l=>l.length == 3)=true:=by
 rw [List.all_map,zO]
 intro x _
 show (x.d.length == 3)=true
 rw [Lt.d_eq]; rfl
theorem Lt.dfu:∀ xs:List Lt,OT.AA (xs.map fun b=>b.d.map D.ot)=true
 | []=>rfl
 | x :: xs=>by rw [zK,Lt.d_eq]; simp [OT.AA,OT.C5,OT.full,D.ot,Lt.dfu xs]
theorem Lt.der:∀ xs:List Lt,OT.erss (xs.map fun b=>b.d.map D.ot)=xs.map Lt.d
 | []=>rfl
 | x :: xs=>by rw [zK,zK,Lt.d_eq]; simp [OT.erss,OT.ers,OT.er,D.ot,Lt.der xs]
theorem SH (l:List Lt) (hl:l.length≤1048576) (hf:∀ x∈l,x.fine):E 218 [.arr (l.map Lt.d)] []=some ((mkC l).sv,[]):=by
 have hsv:(mkC l).sv=.agg [.arr ((Lk [] l).map Lt.d)]:=by rw [Qcw]
 rw [hsv]
 refine Ad Ua Di (of_decide_eq_true rfl) ?_
 simp (disch:=omega) only [MN,go_sem,Aa]
 refine go_loop (α:=Int × List Lt) (fun a=>⟨slots 74 0 [(0,.arr (l.map Lt.d)),(2,.ptr 0 0),(3,.arr (a.2.map Lt.d)),(4,.int .i64 a.1)],[.box 60 [.nil]]⟩) (fun a=>∃ k:Nat,a.1=k∧k≤l.length∧Lk a.2 (l.drop k)=Lk [] l∧a.2.length≤k∧∀ y∈a.2,y.fine) (fun a=>l.length-a.1.toNat) (0,[]) ⟨0,rfl,zH _,by rw [zJ],zN _,fun y hy=>by cases hy⟩ (by simp (disch:=omega) only [go_sem,Aa]) ?_
 rintro ⟨i,out⟩ ⟨k,hi,hk,hR,hol,hof⟩
 dsimp only at hi hR hol hof
 have hni:i.toNat=k:=by omega
 rcases zB k l.length with hlt | hge
 ·have hg:=get_at Lt.d hlt
  rw [Lt.d_eq] at hg
  have hxf:=hf l[k] (zD hlt)
  have hxn:∀ out2:List Lt,Ib out l[k]=out2→Lk out2 (l.drop (k+1))=Lk [] l:=fun out2 h=>by
   rw [zE hlt] at hR
   rw [←h]
   exact hR
  simp (disch:=omega) only [go_sem,Aa,hni,hg]
  refine go_loop (α:=Int) (fun a=>⟨slots 74 0 [(0,.arr (l.map Lt.d)),(2,.ptr 0 0),(3,.arr (out.map Lt.d)),(4,.int .i64 i),(5,.int .i64 a)],[.box 60 [.nil]]⟩) (fun a=>∃ m:Nat,a=m∧m≤out.length∧m+Dp (out.drop m) l[k]=Dp out l[k]) (fun a=>out.length-a.toNat) 0 ⟨0,rfl,zH _,by rw [zJ,Nat.zero_add]⟩ (by simp (disch:=omega) only [go_sem,Aa]) ?_
  rintro j ⟨m,hj,hm,hR2⟩
  have hnj:j.toNat=m:=by omega
  have ho:=Rp l[k].atom hxf.2
  have e1:=Lt.ot_take out (Dp out l[k])
  have e2:=Lt.ot_drop out (Dp out l[k])
  have e3:=Lt.al3 (out.take (Dp out l[k]))
  have e4:=Lt.al3 (out.drop (Dp out l[k]))
  have e5:=Lt.ald3 out
  have l1:=Qbr l[k] out
  have e6:(out.map Lt.d).take out.length=out.map Lt.d:=List.take_of_length_le (by simp)
  have e7:(out.take (Dp out l[k])).length=Dp out l[k]:=by rw [zQ]; omega
  have e8:(out.drop (Dp out l[k])).length=out.length-Dp out l[k]:=List.length_drop
  have hfu:=Lt.dfu (Ib out l[k])
  have her:=Lt.der (Ib out l[k])
  have hpl:=Yv l[k] out
  have hpf:∀ y∈Ib out l[k],y.fine:=fun y hy=>by
   rcases (Ox l[k] y out).1 hy with rfl | hy
   ·exact hxf
   ·exact hof y hy
  rcases zB m out.length with hltm | hgem
  ·have hgm:=get_at Lt.d hltm
   rw [Lt.d_eq] at hgm
   have hof2:=hof out[m] (zD hltm)
   have hc:=Or out[m] l[k] hof2.1 hxf.1 hof2.2 hxf.2
   rcases Qcv hR2 hltm with ⟨q,hR'⟩ | ⟨q,hm'⟩
   ·simp (disch:=omega) only [go_sem,Aa,hni,hg,hnj,hgm,hc,Bs,q]
    exact ⟨j+1,⟨m+1,by omega,hltm,hR'⟩,by omega,by first | trivial | rfl⟩
   ·subst hm'
    by_cases h0:out[Dp out l[k]].cmp l[k]=0
    ·have hp:=SF hltm h0
     rw [h0] at hc
     simp (disch:=omega) only [go_sem,Aa,hni,hg,hnj,hgm,hc,Bs,q,h0]
     exact ⟨(i+1,out),⟨k+1,by dsimp only; omega,hlt,hxn _ hp,by dsimp only; omega,hof⟩,by dsimp only; omega,by first | trivial | rfl⟩
    ·have hp:=SG (fun _=>h0)
     have hx2:(out.take (Dp out l[k])).map (fun b=>b.d.map D.ot)++[[OT.bool l[k].pos,.str l[k].atom.name,.sh (l[k].atom.args.map Tm.d)]]++(out.drop (Dp out l[k])).map (fun b=>b.d.map D.ot)=(Ib out l[k]).map fun b=>b.d.map D.ot:=by
      rw [hp]
      simp only [yD,zK,List.append_assoc,yB,zW]
      rw [Lt.d_eq]; rfl
     simp (disch:=omega) only [go_sem,Aa,hni,hg,hnj,hgm,hc,Bs,q,h0,e1,e2,e3,e4,e5,e6,e7,e8,hx2,hfu,her,ho,yI,yC,Dc]
     exact ⟨(i+1,Ib out l[k]),⟨k+1,by dsimp only; omega,hlt,hxn _ rfl,by dsimp only; omega,hpf⟩,by dsimp only; omega,by first | trivial | rfl⟩
  ·obtain rfl:m=out.length:=by omega
   have hk':out.length=Dp out l[k]:=by rw [←hR2,zG (zN _)]; simp [Dp]
   have hp:=SG (x:=l[k]) (xs:=out) (fun hlt=>by omega)
   have hx2:(out.take (Dp out l[k])).map (fun b=>b.d.map D.ot)++[[OT.bool l[k].pos,.str l[k].atom.name,.sh (l[k].atom.args.map Tm.d)]]++(out.drop (Dp out l[k])).map (fun b=>b.d.map D.ot)=(Ib out l[k]).map fun b=>b.d.map D.ot:=by
    rw [hp]
    simp only [yD,zK,List.append_assoc,yB,zW]
    rw [Lt.d_eq]; rfl
   rw [hk'] at hnj
   simp (disch:=omega) only [go_sem,Aa,hni,hg,hnj,e1,e2,e3,e4,e5,e6,e7,e8,hx2,hfu,her,ho,yI,yC,Dc]
   exact ⟨(i+1,Ib out l[k]),⟨k+1,by dsimp only; omega,hlt,hxn _ rfl,by dsimp only; omega,hpf⟩,by dsimp only; omega,by first | trivial | rfl⟩
 ·rw [zG hge] at hR
  have hR:out=Lk [] l:=hR
  rw [←hR]
  simp (disch:=omega) only [go_sem,Aa,hni]
theorem SI:∀ x y:List UInt8,Op.bytesLess x y=true→Op.bytesLess y x=false
 | [],[],h=>by simp [Op.bytesLess] at h
 | [],_ :: _,_=>rfl
 | _ :: _,[],h=>by simp [Op.bytesLess] at h
 | a :: x,b :: y,h=>by
  simp only [Op.bytesLess,Bool.or_eq_true,decide_eq_true_eq,zA,beq_iff_eq] at h
  simp only [Op.bytesLess,Bool.or_eq_false_iff,decide_eq_false_iff_not]
  rcases h with h | ⟨rfl,h⟩
  ·have h2:¬ b<a:=by intro h3; exact absurd (UInt8.lt_trans h h3) (UInt8.lt_irrefl _)
   have h3:(b == a)=false:=by
    rw [beq_eq_false_iff_ne]; rintro rfl; exact UInt8.lt_irrefl _ h
   exact ⟨h2,by rw [h3]; rfl⟩
  ·exact ⟨UInt8.lt_irrefl _,by rw [SI x y h]; simp⟩
theorem SJ:∀ x y:List UInt8,Op.bytesLess x y=false→Op.bytesLess y x=false→x=y
 | [],[],_,_=>rfl
 | [],_ :: _,h,_=>by simp [Op.bytesLess] at h
 | _ :: _,[],_,h=>by simp [Op.bytesLess] at h
 | a :: x,b :: y,h,k=>by
  simp only [Op.bytesLess,Bool.or_eq_false_iff,decide_eq_false_iff_not] at h k
  have hab:a=b:=by
   have h1:=h.1; have h2:=k.1
   rw [UInt8.lt_iff_toNat_lt] at h1 h2
   exact UInt8.toNat_inj.1 (by omega)
  subst hab
  have h1:Op.bytesLess x y=false:=by simpa using h.2
  have h2:Op.bytesLess y x=false:=by simpa using k.2
  rw [SJ x y h1 h2]
theorem Ll {a b:ByteArray} (h:strLt a b=true):strLt b a=false:=SI _ _ h
theorem Lm {a b:ByteArray} (h:strLt a b=false) (h':strLt b a=false):a=b:=Pk (SJ _ _ h h')
theorem Jo (a b:ByteArray):(strLt a b || dec (a=b))=!strLt b a:=by
 cases h:strLt b a with
 | false =>
  cases h2:strLt a b with
  | false=>rw [Ar (Lm h2 h)]; rfl
  | true=>rfl
 | true =>
  rw [Ll h,Ax (by rintro rfl; rw [HF] at h; cases h)]
  rfl
theorem SK:∀ x y z:List UInt8,Op.bytesLess x y=true→Op.bytesLess y z=true→Op.bytesLess x z=true
 | _,_,[],_,h=>by simp [Op.bytesLess] at h
 | [],[],_ :: _,h,_=>by simp [Op.bytesLess] at h
 | [],_ :: _,_ :: _,_,_=>rfl
 | _ :: _,[],_ :: _,h,_=>by simp [Op.bytesLess] at h
 | a :: x,b :: y,c :: z,h,k=>by
  simp only [Op.bytesLess,Bool.or_eq_true,decide_eq_true_eq,zA,beq_iff_eq] at h k ⊢
  rcases h with h | ⟨rfl,h⟩
  ·rcases k with k | ⟨rfl,k⟩
   ·exact .inl (UInt8.lt_trans h k)
   ·exact .inl h
  ·rcases k with k | ⟨rfl,k⟩
   ·exact .inl k
   ·exact .inr ⟨rfl,SK x y z h k⟩
theorem Ln {a b c:ByteArray} (h:strLt a b=true) (k:strLt b c=true):strLt a c=true:=SK _ _ _ h k
theorem Yw {a b:ByteArray} (h:strLt a b=true):¬ a=b:=by rintro rfl; rw [HF] at h; cases h
theorem Yx (a b:ByteArray):dec (E2 a b<0)=strLt a b:=by
 unfold E2
 cases strLt a b
 ·cases dec (a=b)
  ·exact Ax (by simp)
  ·exact Ax (by simp)
 ·exact Ar (by simp)
theorem Qcx (a b:ByteArray):dec (E2 a b=0)=dec (a=b):=by
 unfold E2
 cases h:strLt a b
 ·cases h2:dec (a=b)
  ·exact Ax (by simp)
  ·exact Ar (by simp)
 ·rw [Ax (Yw h)]
  exact Ax (by simp)
theorem wrap_u64 {n:Int} (h0:0≤n) (h1:n≤18446744073709551615):IntKind.u64.wrap n=n:=X8 (by
 have e1:IntKind.u64.min=0:=by decide
 have e2:IntKind.u64.max=18446744073709551615:=by decide
 unfold inK
 rw [e1,e2]
 exact ⟨h0,h1⟩)
noncomputable def Ic (x:Bd):Bool:=Ao x.var&&(x.term.valid&&!dec (x.term.name=x.var))
noncomputable def Yy (xs:List Bd) (k:Nat):Bool:=match xs[k]? with
 | none=>true
 | some x=>Ic x&&(match k with
  | 0=>true
  | j+1=>match xs[j]? with
   | none=>true
   | some y=>strLt y.var x.var)
noncomputable def Jp (xs:List Bd):Nat→Bool
 | 0=>true
 | k+1=>Jp xs k&&Yy xs k
theorem Qcy {xs:List Bd} {k n:Nat} (h:Jp xs k=false) (hn:k≤n):Jp xs n=false:=by
 induction n with
 | zero =>
      obtain rfl:k=0:=by omega
      exact h
 | succ n ih =>
  rcases zB n k with h1 | h1
  ·obtain rfl:k=n+1:=by omega
   exact h
  ·rw [Jp,ih h1]; rfl
theorem Jq {xs:List Bd} (h:0<xs.length):Yy xs 0=Ic xs[0]:=by
 unfold Yy
 rw [zU h]
 simp
theorem Hn {xs:List Bd} {j:Nat} (h:j+1<xs.length):Yy xs (j+1)=(Ic xs[j+1]&&strLt xs[j].var xs[j+1].var):=by
 unfold Yy
 rw [zU h]
 simp only [zU (show j<xs.length by omega)]
theorem Qbs {xs:List Bd} {k j:Nat} (h:Jp xs k=true) (hj:j<k):Yy xs j=true:=by
 induction k with
 | zero=>omega
 | succ k ih =>
  rw [Jp,zA] at h
  rcases zB j k with h1 | h1
  ·exact ih h.1 h1
  ·obtain rfl:j=k:=by omega
   exact h.2
theorem Qfc {xs:List Bd} {j:Nat} (hl:j<xs.length) (h:Yy xs j=true):Ic xs[j]=true:=by
 cases j with
 | zero=>rw [←Jq hl]; exact h
 | succ j=>rw [Hn hl,zA] at h; exact h.1
noncomputable def Sb.ok (x:Sb):Bool:=decide (x.binds.length≤12)&&Jp x.binds x.binds.length
theorem Sb.not_ok {x:Sb} {k:Nat} (h:Jp x.binds k=true) (h':Yy x.binds k=false) (hk:k<x.binds.length):x.ok=false:=by
 have:Jp x.binds x.binds.length=false:=Qcy (k:=k+1) (by rw [Jp,h,h']; rfl) (by omega)
 unfold Sb.ok
 rw [this,zM]
def Sb.tame (x:Sb):Prop:=x.binds.length≤1099511627776∧∀ y∈x.binds,y.term.nodes≤1099511627776
theorem Sb.tame_at {x:Sb} (h:x.tame) {k:Nat} (hk:k<x.binds.length):x.binds[k].term.nodes≤1099511627776:=h.2 _ (zD hk)
def Eu:SC:=(.seq (.reg [⟨some 1,none,.boxv 142 1 (.t 0)⟩,⟨some 2,none,.mv (.c (.bool false))⟩]) (.seq (.seq (.reg [⟨some 5,none,.faddr 0 (.t 1)⟩,⟨some 6,none,.load false 1 (.t 5)⟩,⟨some 7,none,.len false (.t 6)⟩,⟨some 8,none,.mv (.c (.int .i64 0))⟩]) (.block 0 (.loop [0,1,0,0,0,0,1,1,1,0,0,0,0,0,0,0,0,0,0,0,0,0,0,0,0,0,0,0,0,0,0,0,0,0,0,0,0,0,0,0,0,0,0,0,0,0,0,0,0,0,0,0] (.seq (.reg [⟨some 9,none,.bin .lss false (.t 8) (.t 7)⟩]) (.seq (.cond (.t 9) .skip (.exit 0)) (.seq (.block 1 (.seq (.reg [⟨some 10,none,.mv (.t 8)⟩,⟨some 11,none,.iaddr 3 (.t 6) (.t 8)⟩,⟨some 12,none,.load true 3 (.t 11)⟩,⟨(some 4),none,(.alloc 227 [(.str ⟨#[]⟩),(.str ⟨#[]⟩),.nil])⟩,⟨some 3,none,.mv (.t 10)⟩,⟨none,none,(.store 3 (.t 4) (.t 12))⟩]) (.seq (.dreg [[],[0],[1,0],[2,1,0],[3,2,1,0],[4,3,2,1,0],[5,4,3,2,1,0],[6,5,4,3,2,1,0],[7,6,5,4,3,2,1,0],[8,7,6,5,4,3,2,1,0],[7,6,5,4,3,2,1,0],[10,7,6,5,4,3,2,1,0],[7,6,5,4,3,2,1,0],[12,7,6,5,4,3,2,1,0],[11,10,7,6,5,4,3,2,1,0,13,12],[14,11,10,7,6,5,4,3,2,1,0,13,12],[15,14,11,10,7,6,5,4,3,2,1,0,13,12],[9,8,7,6,5,4,3,2,1,0,16,15,14,11,10,13,12],[7,6,5,4,3,2,1,0,17,9,8,16,15,14,11,10,13,12],[4,3,2,1,0,18,7,6,5,17,9,8,16,15,14,11,10,13,12],[19,4,3,2,1,0,18,7,6,5,17,9,8,16,15,14,11,10,13,12],[20,19,4,3,2,1,0,18,7,6,5,17,9,8,16,15,14,11,10,13,12],[21,20,19,4,3,2,1,0,18,7,6,5,17,9,8,16,15,14,11,10,13,12],[22,21,20,19,4,3,2,1,0,18,7,6,5,17,9,8,16,15,14,11,10,13,12],[23,22,21,20,19,4,3,2,1,0,18,7,6,5,17,9,8,16,15,14,11,10,13,12],[20,19,4,3,2,1,0,18,7,6,5,17,9,8,16,15,14,11,10,13,12,24,23,22,21],[25,20,19,4,3,2,1,0,18,7,6,5,17,9,8,16,15,14,11,10,13,12,24,23,22,21],[26,25,20,19,4,3,2,1,0,18,7,6,5,17,9,8,16,15,14,11,10,13,12,24,23,22,21],[27,26,25,20,19,4,3,2,1,0,18,7,6,5,17,9,8,16,15,14,11,10,13,12,24,23,22,21],[28,27,26,25,20,19,4,3,2,1,0,18,7,6,5,17,9,8,16,15,14,11,10,13,12,24,23,22,21],[26,25,20,19,4,3,2,1,0,18,7,6,5,17,9,8,16,15,14,11,10,13,12,24,23,22,21],[30,26,25,20,19,4,3,2,1,0,18,7,6,5,17,9,8,16,15,14,11,10,13,12,24,23,22,21],[29,28,27,26,25,20,19,4,3,2,1,0,18,7,6,5,17,9,8,16,15,14,11,10,13,12,24,23,22,21,31,30],[26,25,20,19,4,3,2,1,0,18,7,6,5,17,9,8,16,15,14,11,10,13,12,24,23,22,21,32,29,28,27,31,30]] [⟨some 13,none,.faddr 0 (.t 4)⟩,⟨some 14,none,.load false 1 (.t 13)⟩,⟨some 15,none,.call 177 [(.t 14)]⟩,⟨some 16,none,.un .not (.t 15)⟩,⟨some 17,none,.mv (.t 16)⟩,⟨(some 18),(some (17,false)),(.mv (.t 3))⟩,⟨(some 19),(some (17,false)),(.bin .gtr false (.t 18) (.c (.int .i64 0)))⟩,⟨(some 20),(some (17,false)),(.mv (.t 19))⟩,⟨(some 21),(some (20,true)),(.faddr 0 (.t 4))⟩,⟨(some 22),(some (20,true)),(.load false 1 (.t 21))⟩,⟨(some 23),(some (20,true)),(.faddr 0 (.t 1))⟩,⟨(some 24),(some (20,true)),(.load false 1 (.t 23))⟩,⟨(some 25),(some (20,true)),(.mv (.t 3))⟩,⟨(some 26),(some (20,true)),(.bin .sub false (.t 25) (.c (.int .i64 1)))⟩,⟨(some 27),(some (20,true)),(.iaddr 3 (.t 24) (.t 26))⟩,⟨(some 28),(some (20,true)),(.faddr 0 (.t 27))⟩,⟨(some 29),(some (20,true)),(.load false 1 (.t 28))⟩,⟨(some 30),(some (20,true)),(.bin .leq false (.t 22) (.t 29))⟩,⟨(some 31),(some (17,false)),(.pick (.t 20) (.t 30) (.c (.bool false)))⟩,⟨some 32,none,.pick (.t 17) (.c (.bool true)) (.t 31)⟩,⟨some 33,none,.mv (.t 32)⟩,⟨(some 34),(some (33,false)),(.faddr 1 (.t 4))⟩,⟨(some 35),(some (33,false)),(.load true 2 (.t 34))⟩,⟨(some 36),(some (33,false)),(.call 246 [(.t 35)])⟩,⟨(some 37),(some (33,false)),(.un .not (.t 36))⟩,⟨some 38,none,.pick (.t 33) (.c (.bool true)) (.t 37)⟩,⟨some 39,none,.mv (.t 38)⟩,⟨(some 40),(some (39,false)),(.faddr 1 (.t 4))⟩,⟨(some 41),(some (39,false)),(.faddr 0 (.t 40))⟩,⟨(some 42),(some (39,false)),(.load false 1 (.t 41))⟩,⟨(some 43),(some (39,false)),(.faddr 0 (.t 4))⟩,⟨(some 44),(some (39,false)),(.load false 1 (.t 43))⟩,⟨(some 45),(some (39,false)),(.bin .eql false (.t 42) (.t 44))⟩,⟨some 46,none,.pick (.t 39) (.c (.bool true)) (.t 45)⟩]) (.cond (.t 46) (.seq (.reg [⟨some 2,none,.mv (.c (.bool false))⟩]) .ret) .skip)))) (.reg [⟨some 47,none,.bin .add false (.t 8) (.c (.int .i64 1))⟩,⟨some 8,none,.mv (.t 47)⟩]))))))) (.seq (.reg [⟨some 48,none,.faddr 0 (.t 1)⟩,⟨some 49,none,.load false 1 (.t 48)⟩,⟨some 50,none,.len false (.t 49)⟩,⟨some 51,none,.bin .leq false (.t 50) (.c (.int .i64 12))⟩,⟨some 2,none,.mv (.t 51)⟩]) .ret)))
theorem HK:codeOf Tryz.prog 279=some ⟨52,Eu,[(.tmp 2)]⟩:=by kernel_rfl
theorem Ay:modes 279=⟨[],.asis,none,false⟩:=by unfold modes; rfl
def MQ:SC:=(.seq (.reg [⟨some 1,none,.boxv 142 1 (.t 0)⟩,⟨some 2,none,.mv (.c (.bool false))⟩]) (.seq (.seq (.reg [⟨some 3,none,.mv (.c (.int .i64 0))⟩]) (.block 0 (.loop [0,1,0,1,0,0,0,0,0,0,0,0,0,0,0,0,0,0,0,0,0,0,0,0,0,0,0,0,0,0,0,0,0,0,0,0,0,0,0,0,0,0,0,0,0,0,0,0,0,0,0,0,0,0,0] (.seq (.seq (.reg [⟨some 5,none,.mv (.t 3)⟩,⟨some 6,none,.faddr 0 (.t 1)⟩,⟨some 7,none,.load false 1 (.t 6)⟩,⟨some 8,none,.len false (.t 7)⟩,⟨some 9,none,.bin .lss false (.t 5) (.t 8)⟩]) (.cond (.t 9) .skip (.exit 0))) (.seq (.block 1 (.seq (.reg [⟨some 12,none,.faddr 0 (.t 1)⟩,⟨some 13,none,.load false 1 (.t 12)⟩,⟨some 14,none,.mv (.t 3)⟩,⟨some 15,none,.iaddr 3 (.t 13) (.t 14)⟩,⟨some 16,none,.load true 3 (.t 15)⟩,⟨(some 4),none,(.alloc 227 [(.str ⟨#[]⟩),(.str ⟨#[]⟩),.nil])⟩,⟨none,none,(.store 3 (.t 4) (.t 16))⟩]) (.seq (.dreg [[],[0],[1,0],[2,1,0],[3,2,1,0],[4,3,2,1,0],[5,4,3,2,1,0],[6,5,4,3,2,1,0],[7,6,5,4,3,2,1,0],[4,3,2,1,0,8,7,6,5],[9,4,3,2,1,0,8,7,6,5],[10,9,4,3,2,1,0,8,7,6,5],[11,10,9,4,3,2,1,0,8,7,6,5],[12,11,10,9,4,3,2,1,0,8,7,6,5],[10,9,4,3,2,1,0,8,7,6,5],[14,10,9,4,3,2,1,0,8,7,6,5],[13,12,11,10,9,4,3,2,1,0,8,7,6,5,15,14],[10,9,4,3,2,1,0,8,7,6,5,16,13,12,11,15,14],[17,10,9,4,3,2,1,0,8,7,6,5,16,13,12,11,15,14],[18,17,10,9,4,3,2,1,0,8,7,6,5,16,13,12,11,15,14],[19,18,17,10,9,4,3,2,1,0,8,7,6,5,16,13,12,11,15,14],[20,19,18,17,10,9,4,3,2,1,0,8,7,6,5,16,13,12,11,15,14],[21,20,19,18,17,10,9,4,3,2,1,0,8,7,6,5,16,13,12,11,15,14],[22,21,20,19,18,17,10,9,4,3,2,1,0,8,7,6,5,16,13,12,11,15,14],[21,20,19,18,17,10,9,4,3,2,1,0,8,7,6,5,16,13,12,11,15,14],[24,21,20,19,18,17,10,9,4,3,2,1,0,8,7,6,5,16,13,12,11,15,14],[23,22,21,20,19,18,17,10,9,4,3,2,1,0,8,7,6,5,16,13,12,11,15,14,25,24],[26,23,22,21,20,19,18,17,10,9,4,3,2,1,0,8,7,6,5,16,13,12,11,15,14,25,24],[27,26,23,22,21,20,19,18,17,10,9,4,3,2,1,0,8,7,6,5,16,13,12,11,15,14,25,24],[21,20,19,18,17,10,9,4,3,2,1,0,8,7,6,5,16,13,12,11,15,14],[29,21,20,19,18,17,10,9,4,3,2,1,0,8,7,6,5,16,13,12,11,15,14],[28,27,26,23,22,21,20,19,18,17,10,9,4,3,2,1,0,8,7,6,5,16,13,12,11,15,14,25,24,30,29],[21,20,19,18,17,10,9,4,3,2,1,0,8,7,6,5,16,13,12,11,15,14,31,28,27,26,23,22,25,24,30,29],[18,17,10,9,4,3,2,1,0,8,7,6,5,16,13,12,11,15,14,32,21,20,19,31,28,27,26,23,22,25,24,30,29]] [⟨some 17,none,.faddr 0 (.t 4)⟩,⟨some 18,none,.load false 1 (.t 17)⟩,⟨some 19,none,.call 191 [(.t 18)]⟩,⟨some 20,none,.un .not (.t 19)⟩,⟨some 21,none,.mv (.t 20)⟩,⟨(some 22),(some (21,false)),(.faddr 1 (.t 4))⟩,⟨(some 23),(some (21,false)),(.load true 2 (.t 22))⟩,⟨(some 24),(some (21,false)),(.call 266 [(.t 23)])⟩,⟨(some 25),(some (21,false)),(.un .not (.t 24))⟩,⟨some 26,none,.pick (.t 21) (.c (.bool true)) (.t 25)⟩,⟨some 27,none,.mv (.t 26)⟩,⟨(some 28),(some (27,false)),(.faddr 1 (.t 4))⟩,⟨(some 29),(some (27,false)),(.faddr 0 (.t 28))⟩,⟨(some 30),(some (27,false)),(.load false 1 (.t 29))⟩,⟨(some 31),(some (27,false)),(.faddr 0 (.t 4))⟩,⟨(some 32),(some (27,false)),(.load false 1 (.t 31))⟩,⟨(some 33),(some (27,false)),(.bin .eql false (.t 30) (.t 32))⟩,⟨some 34,none,.pick (.t 27) (.c (.bool true)) (.t 33)⟩,⟨some 35,none,.mv (.t 34)⟩,⟨(some 36),(some (35,false)),(.mv (.t 3))⟩,⟨(some 37),(some (35,false)),(.bin .gtr false (.t 36) (.c (.int .i64 0)))⟩,⟨(some 38),(some (35,false)),(.mv (.t 37))⟩,⟨(some 39),(some (38,true)),(.faddr 0 (.t 1))⟩,⟨(some 40),(some (38,true)),(.load false 1 (.t 39))⟩,⟨(some 41),(some (38,true)),(.mv (.t 3))⟩,⟨(some 42),(some (38,true)),(.bin .sub false (.t 41) (.c (.int .i64 1)))⟩,⟨(some 43),(some (38,true)),(.iaddr 3 (.t 40) (.t 42))⟩,⟨(some 44),(some (38,true)),(.faddr 0 (.t 43))⟩,⟨(some 45),(some (38,true)),(.load false 1 (.t 44))⟩,⟨(some 46),(some (38,true)),(.faddr 0 (.t 4))⟩,⟨(some 47),(some (38,true)),(.load false 1 (.t 46))⟩,⟨(some 48),(some (38,true)),(.bin .geq false (.t 45) (.t 47))⟩,⟨(some 49),(some (35,false)),(.pick (.t 38) (.t 48) (.c (.bool false)))⟩,⟨some 50,none,.pick (.t 35) (.c (.bool true)) (.t 49)⟩]) (.cond (.t 50) (.seq (.reg [⟨some 2,none,.mv (.c (.bool false))⟩]) .ret) .skip)))) (.reg [⟨some 10,none,.mv (.t 3)⟩,⟨some 11,none,.bin .add false (.t 10) (.c (.int .i64 1))⟩,⟨some 3,none,.mv (.t 11)⟩])))))) (.seq (.reg [⟨some 51,none,.faddr 0 (.t 1)⟩,⟨some 52,none,.load false 1 (.t 51)⟩,⟨some 53,none,.len false (.t 52)⟩,⟨some 54,none,.bin .leq false (.t 53) (.c (.int .i64 12))⟩,⟨some 2,none,.mv (.t 54)⟩]) .ret)))
theorem Ub:codeOf Tryz.prog 310=some ⟨55,MQ,[(.tmp 2)]⟩:=by kernel_rfl
theorem Co:modes 310=⟨[],.asis,none,false⟩:=by unfold modes; rfl
def MR:SC:=(.seq (.reg [⟨some 2,none,.boxv 142 1 (.t 0)⟩,⟨some 4,none,.mv (.c (.int .i64 0))⟩]) (.seq (.seq (.reg [⟨some 5,none,.mv (.c (.int .i64 0))⟩]) (.block 0 (.loop [0,1,1,0,0,1,0,0,0,0,0,0,0,0,0,0,0,0,0,0,0,0] (.seq (.seq (.reg [⟨some 6,none,.mv (.t 5)⟩,⟨some 7,none,.faddr 0 (.t 2)⟩,⟨some 8,none,.load false 1 (.t 7)⟩,⟨some 9,none,.len false (.t 8)⟩,⟨some 10,none,.bin .lss false (.t 6) (.t 9)⟩]) (.cond (.t 10) .skip (.exit 0))) (.seq (.block 1 (.seq (.reg [⟨some 13,none,.faddr 0 (.t 2)⟩,⟨some 14,none,.load false 1 (.t 13)⟩,⟨some 15,none,.mv (.t 5)⟩,⟨some 16,none,.iaddr 3 (.t 14) (.t 15)⟩,⟨some 17,none,.faddr 0 (.t 16)⟩,⟨some 18,none,.load false 1 (.t 17)⟩,⟨some 19,none,.mv (.t 1)⟩,⟨some 20,none,.bin .eql false (.t 18) (.t 19)⟩]) (.cond (.t 20) (.seq (.reg [⟨some 21,none,.mv (.t 5)⟩,⟨some 4,none,.mv (.t 21)⟩]) .ret) .skip))) (.reg [⟨some 11,none,.mv (.t 5)⟩,⟨some 12,none,.bin .add false (.t 11) (.c (.int .i64 1))⟩,⟨some 5,none,.mv (.t 12)⟩])))))) (.seq (.reg [⟨some 4,none,.mv (.c (.int .i64 (-(0+1))))⟩]) .ret)))
theorem Uc:codeOf Tryz.prog 239=some ⟨22,MR,[(.tmp 4)]⟩:=by kernel_rfl
theorem BL:modes 239=⟨[],.asis,none,false⟩:=by unfold modes; rfl
theorem DY (x:Sb) (hn:x.tame):E 279 [x.sv] []=some (.bool x.ok,[]):=by
  have hl:=hn.1
  refine Ad HK Ay (of_decide_eq_true rfl) ?_
  simp (disch:=omega) only [Eu,go_sem,Aa]
  refine go_loop (α:=Int) (fun a=>⟨slots 52 0 [(1,.ptr 0 0),(6,.arr (x.binds.map Bd.d)),(7,.int .i64 x.binds.length),(8,.int .i64 a)],[.box 142 [.arr (x.binds.map Bd.d)]]⟩) (fun a=>∃ k:Nat,a=k∧k≤(x.binds).length∧Jp x.binds k=true) (fun a=>(x.binds).length-(a).toNat) 0 ⟨0,rfl,zH _,by rw [Jp]⟩ (by simp (disch:=omega) only [go_sem,Aa]) ?_
  rintro i ⟨k,hi,hk,hR⟩
  have hni:i.toNat=k:=by omega
  have hni1:(i+1).toNat=k+1:=by omega
  rcases zB k (x.binds).length with hlt | hge
  · have hg:=get_at Bd.d hlt
    rw [Bd.d_eq] at hg
    have hv:=ML x.binds[k].term (Sb.tame_at hn hlt)
    cases k with
    | zero =>
      obtain rfl:i=0:=hi
      cases hA:Ao x.binds[0].var <;> cases hV:x.binds[0].term.valid <;> cases hD:dec (x.binds[0].term.name=x.binds[0].var)
      all_goals
        first
        | (have e:x.ok=false:=Sb.not_ok hR (by rw [Jq hlt,Ic,hA,hV,hD]; rfl) hlt
           rw [e]
           simp (disch:=omega) only [go_sem,Aa,hni,hg,hv,hA,hV,hD,AJ,Bp,E3]
           done)
        | (simp (disch:=omega) only [go_sem,Aa,hni,hg,hv,hA,hV,hD,AJ,Bp,E3]
           exact ⟨1,⟨1,rfl,hlt,by rw [Jp,hR,Jq hlt,Ic,hA,hV,hD]; rfl⟩,by omega,by first | trivial | rfl⟩)
    | succ j =>
      have hj:j<x.binds.length:=by omega
      have hg2:=get_at Bd.d hj
      rw [Bd.d_eq] at hg2
      have hni2:(i-1).toNat=j:=by omega
      have hLe:=Jo x.binds[j+1].var x.binds[j].var
      cases hS:strLt x.binds[j].var x.binds[j+1].var <;> cases hA:Ao x.binds[j+1].var <;> cases hV:x.binds[j+1].term.valid <;> cases hD:dec (x.binds[j+1].term.name=x.binds[j+1].var)
      all_goals
        first
        | (have e:x.ok=false:=Sb.not_ok hR (by rw [Hn hlt,Ic,hA,hV,hD,hS]; rfl) hlt
           rw [e]
           simp (disch:=omega) only [go_sem,Aa,hni,hg,hv,hA,hV,hD,AJ,Bp,E3,hS,hni2,hg2,hLe]
           done)
        | (simp (disch:=omega) only [go_sem,Aa,hni,hg,hv,hA,hV,hD,AJ,Bp,E3,hS,hni2,hg2,hLe]
           exact ⟨i+1,⟨j+1+1,by omega,hlt,by rw [Jp,hR,Hn hlt,Ic,hA,hV,hD,hS]; rfl⟩,by omega,by first | trivial | rfl⟩)
  · obtain rfl:k=x.binds.length:=by omega
    simp (disch:=omega) only [go_sem,Aa,hni]
    unfold Sb.ok
    rw [hR,yJ,KN]
    exact decide_eq_decide.2 (by omega)
theorem Oz (x:Sb) (hn:x.tame):E 310 [x.sv] []=some (.bool x.ok,[]):=by
  have hl:=hn.1
  refine Ad Ub Co (of_decide_eq_true rfl) ?_
  simp (disch:=omega) only [MQ,go_sem,Aa]
  refine go_loop (α:=Int) (fun a=>⟨slots 55 0 [(1,.ptr 0 0),(3,.int .i64 a)],[.box 142 [.arr (x.binds.map Bd.d)]]⟩) (fun a=>∃ k:Nat,a=k∧k≤(x.binds).length∧Jp x.binds k=true) (fun a=>(x.binds).length-(a).toNat) 0 ⟨0,rfl,zH _,by rw [Jp]⟩ (by simp (disch:=omega) only [go_sem,Aa]) ?_
  rintro i ⟨k,hi,hk,hR⟩
  have hni:i.toNat=k:=by omega
  have hni1:(i+1).toNat=k+1:=by omega
  rcases zB k (x.binds).length with hlt | hge
  · have hg:=get_at Bd.d hlt
    rw [Bd.d_eq] at hg
    have hv:=S7 x.binds[k].term (Sb.tame_at hn hlt)
    cases k with
    | zero =>
      obtain rfl:i=0:=hi
      cases hA:Ao x.binds[0].var <;> cases hV:x.binds[0].term.valid <;> cases hD:dec (x.binds[0].term.name=x.binds[0].var)
      all_goals
        first
        | (have e:x.ok=false:=Sb.not_ok hR (by rw [Jq hlt,Ic,hA,hV,hD]; rfl) hlt
           rw [e]
           simp (disch:=omega) only [go_sem,Aa,hni,hg,hv,hA,hV,hD,Bg,Ah,Am]
           done)
        | (simp (disch:=omega) only [go_sem,Aa,hni,hg,hv,hA,hV,hD,Bg,Ah,Am]
           exact ⟨1,⟨1,rfl,hlt,by rw [Jp,hR,Jq hlt,Ic,hA,hV,hD]; rfl⟩,by omega,by first | trivial | rfl⟩)
    | succ j =>
      have hj:j<x.binds.length:=by omega
      have hg2:=get_at Bd.d hj
      rw [Bd.d_eq] at hg2
      have hni2:(i-1).toNat=j:=by omega
      have hLe:=Jo x.binds[j+1].var x.binds[j].var
      cases hS:strLt x.binds[j].var x.binds[j+1].var <;> cases hA:Ao x.binds[j+1].var <;> cases hV:x.binds[j+1].term.valid <;> cases hD:dec (x.binds[j+1].term.name=x.binds[j+1].var)
      all_goals
        first
        | (have e:x.ok=false:=Sb.not_ok hR (by rw [Hn hlt,Ic,hA,hV,hD,hS]; rfl) hlt
           rw [e]
           simp (disch:=omega) only [go_sem,Aa,hni,hg,hv,hA,hV,hD,Bg,Ah,Am,hS,hni2,hg2,hLe]
           done)
        | (simp (disch:=omega) only [go_sem,Aa,hni,hg,hv,hA,hV,hD,Bg,Ah,Am,hS,hni2,hg2,hLe]
           exact ⟨i+1,⟨j+1+1,by omega,hlt,by rw [Jp,hR,Hn hlt,Ic,hA,hV,hD,hS]; rfl⟩,by omega,by first | trivial | rfl⟩)
  · obtain rfl:k=x.binds.length:=by omega
    simp (disch:=omega) only [go_sem,Aa,hni]
    unfold Sb.ok
    rw [hR,yJ,KN]
    exact decide_eq_decide.2 (by omega)
theorem Yz (x:Sb) (n:ByteArray) (hl:x.binds.length≤1099511627776):E 239 [x.sv,.str n] []=some (.int .i64 (E4 (fun b=>dec (b.var=n)) x.binds 0),[]):=by
 refine Ad Uc BL (of_decide_eq_true rfl) ?_
 simp (disch:=omega) only [MR,go_sem,Aa]
 refine go_loop (α:=Int) (fun a=>⟨slots 22 0 [(1,.str n),(2,.ptr 0 0),(5,.int .i64 a)],[.box 142 [.arr (x.binds.map Bd.d)]]⟩) (fun a=>∃ k:Nat,a=k∧k≤(x.binds).length∧E4 (fun b=>dec (b.var=n)) (x.binds.drop k) a=E4 (fun b=>dec (b.var=n)) x.binds 0) (fun a=>(x.binds).length-(a).toNat) 0 ⟨0,rfl,zH _,by rw [zJ]⟩ (by simp (disch:=omega) only [go_sem,Aa]) ?_
 rintro i ⟨k,hi,hk,hR⟩
 have hni:i.toNat=k:=by omega
 have hni1:(i+1).toNat=k+1:=by omega
 rcases zB k (x.binds).length with hlt | hge
 ·have hg:=get_at Bd.d hlt
  rw [Bd.d_eq] at hg
  rw [zE hlt,E4] at hR
  cases hp:dec (x.binds[k].var=n) with
  | true =>
   rw [hp] at hR
   simp (disch:=omega) only [go_sem,Aa,hni,hg,hp]
   simpa using hR
  | false =>
   rw [hp] at hR
   simp (disch:=omega) only [go_sem,Aa,hni,hg,hp]
   exact ⟨i+1,⟨k+1,by omega,hlt,by simpa using hR⟩,by omega,by first | trivial | rfl⟩
 ·rw [zG hge,E4] at hR
  simp (disch:=omega) only [go_sem,Aa,hni]
  exact hR
def O0 (xs:List Bd):Prop:=∀ j k (h:j<k) (hk:k<xs.length),strLt xs[j].var xs[k].var=true
theorem Qfd {xs:List Bd} (h:Jp xs xs.length=true):O0 xs:=by
 intro j k hjk hk
 induction k with
 | zero=>omega
 | succ k ih =>
  have h1:=Qbs h hk
  rw [Hn hk,zA] at h1
  rcases zB j k with h2 | h2
  ·exact Ln (ih h2 (by omega)) h1.2
  ·obtain rfl:j=k:=by omega
   exact h1.2
theorem Sb.Kt {x:Sb} (h:x.ok=true):O0 x.binds:=by
 unfold Sb.ok at h
 rw [zA] at h
 exact Qfd h.2
def Bn:List Bd→ByteArray→Nat
 | [],_=>0
 | x :: xs,n=>if strLt x.var n then Bn xs n+1 else 0
theorem WO (n:ByteArray):∀ xs:List Bd,Bn xs n≤xs.length
 | []=>zN _
 | x :: xs=>by
  have:=WO n xs
  rw [Bn]; simp only [zP]; split <;> omega
theorem Lo (n:ByteArray):∀ (xs:List Bd) (j:Nat) (h:j<xs.length),j<Bn xs n→strLt xs[j].var n=true
 | [],j,h,_=>absurd h (by simp)
 | x :: xs,j,h,hj=>by
  rw [Bn] at hj
  split at hj
  ·rename_i hx
   cases j with
   | zero=>exact hx
   | succ j=>exact Lo n xs j (by simpa using h) (by omega)
  ·omega
theorem WP (n:ByteArray):∀ (xs:List Bd) (h:Bn xs n<xs.length),strLt (xs[Bn xs n]).var n=false
 | [],h=>absurd h (by simp)
 | x :: xs,h=>by
  cases hx:strLt x.var n with
  | false =>
   have e:Bn (x :: xs) n=0:=by rw [Bn,if_neg (by rw [hx]; simp)]
   simp only [e,yP]; exact hx
  | true =>
   have e:Bn (x :: xs) n=Bn xs n+1:=by rw [Bn,if_pos hx]
   have h2:Bn xs n<xs.length:=by rw [e] at h; simpa using h
   simp only [e,yO]; exact WP n xs h2
theorem Qd8 {xs:List Bd} (hs:O0 xs) (n:ByteArray) {m:Nat} (h:m<xs.length):strLt xs[m].var n=true ↔ m<Bn xs n:=by
 constructor
 ·intro h1
  rcases zB m (Bn xs n) with h2 | h2
  ·exact h2
  ·have h3:=WP n xs (by omega)
   rcases zB (Bn xs n) m with h4 | h4
   ·rw [Ln (hs _ _ h4 h) h1] at h3; cases h3
   ·have e:Bn xs n=m:=by omega
    simp only [e] at h3
    rw [h1] at h3; cases h3
 ·exact Lo n xs m h
noncomputable def DZ (xs:List Bd) (n:ByteArray):Bool:=match xs[Bn xs n]? with
 | none=>false
 | some b=>dec (b.var=n)
def Ev:SC:=(.seq (.reg [⟨some 2,none,.boxv 227 3 (.t 0)⟩,⟨some 4,none,.mv (.c (.int .i64 0))⟩]) (.seq (.reg [⟨some 5,none,.faddr 0 (.t 2)⟩,⟨some 6,none,.load false 1 (.t 5)⟩,⟨some 7,none,.mv (.t 1)⟩,⟨some 8,none,.call 283 [(.t 6),(.t 7)]⟩,⟨some 4,none,.mv (.t 8)⟩]) .ret))
theorem HL:codeOf Tryz.prog 317=some ⟨9,Ev,[(.tmp 4)]⟩:=by kernel_rfl
theorem BP:modes 317=⟨[],.asis,none,false⟩:=by unfold modes; rfl
theorem CN:K9 Tryz.prog 317=true:=by kernel_rfl
def Be:SC:=(.seq (.reg [⟨some 6,none,.mv (.c (.int .i64 0))⟩,⟨some 7,none,.mv (.c (.bool false))⟩]) (.seq (.reg [⟨some 12,none,.mv (.t 0)⟩,⟨some 13,none,.len false (.t 12)⟩,⟨some 8,none,.mv (.t 13)⟩]) (.seq (.reg [⟨some 14,none,.mv (.t 8)⟩,⟨some 9,none,.mv (.c (.int .i64 0))⟩,⟨some 10,none,.mv (.t 14)⟩]) (.seq (.block 0 (.loop [1,1,1,0,0,0,0,0,1,1,1,0,0,0,0,0,0,0,0,0,0,0,0,0,0,0,0,0,0,0,0,0,0,0,0,0,0,0,0,0,0,0,0,0,0,0,0,0,0] (.seq (.seq (.reg [⟨some 15,none,.mv (.t 9)⟩,⟨some 16,none,.mv (.t 10)⟩,⟨some 17,none,.bin .lss false (.t 15) (.t 16)⟩]) (.cond (.t 17) .skip (.exit 0))) (.block 1 (.seq (.reg [⟨some 18,none,.mv (.t 9)⟩,⟨some 19,none,.mv (.t 10)⟩,⟨some 20,none,.bin .add false (.t 18) (.t 19)⟩,⟨some 21,none,.conv .u64 (.t 20)⟩,⟨some 22,none,.bin .shr false (.t 21) (.c (.int .u64 1))⟩,⟨some 23,none,.conv .i64 (.t 22)⟩,⟨some 11,none,.mv (.t 23)⟩]) (.seq (.reg [⟨some 24,none,.mv (.t 2)⟩,⟨some 25,none,.mv (.t 0)⟩,⟨some 26,none,.mv (.t 11)⟩,⟨some 27,none,.iaddr 3 (.t 25) (.t 26)⟩,⟨some 28,none,.load true 3 (.t 27)⟩,⟨some 29,none,.mv (.t 1)⟩,⟨some 30,none,.callv (.t 24) [(.t 28),(.t 29)]⟩,⟨some 31,none,.bin .lss false (.t 30) (.c (.int .i64 0))⟩]) (.cond (.t 31) (.reg [⟨some 32,none,.mv (.t 11)⟩,⟨some 33,none,.bin .add false (.t 32) (.c (.int .i64 1))⟩,⟨some 9,none,.mv (.t 33)⟩]) (.reg [⟨some 34,none,.mv (.t 11)⟩,⟨some 10,none,.mv (.t 34)⟩])))))))) (.seq (.reg [⟨some 35,none,.mv (.t 9)⟩,⟨some 36,none,.mv (.t 9)⟩,⟨some 37,none,.mv (.t 8)⟩,⟨some 38,none,.bin .lss false (.t 36) (.t 37)⟩,⟨some 39,none,.mv (.t 38)⟩,⟨(some 40),(some (39,true)),(.mv (.t 2))⟩,⟨(some 41),(some (39,true)),(.mv (.t 0))⟩,⟨(some 42),(some (39,true)),(.mv (.t 9))⟩,⟨(some 43),(some (39,true)),(.iaddr 3 (.t 41) (.t 42))⟩,⟨(some 44),(some (39,true)),(.load true 3 (.t 43))⟩,⟨(some 45),(some (39,true)),(.mv (.t 1))⟩,⟨(some 46),(some (39,true)),(.callv (.t 40) [(.t 44),(.t 45)])⟩,⟨(some 47),(some (39,true)),(.bin .eql false (.t 46) (.c (.int .i64 0)))⟩,⟨some 48,none,.pick (.t 39) (.t 47) (.c (.bool false))⟩,⟨some 6,none,.mv (.t 35)⟩,⟨some 7,none,.mv (.t 48)⟩]) .ret)))))
theorem Ck:codeOf Tryz.prog 316=some ⟨49,Be,[(.tmp 6),(.tmp 7)]⟩:=by kernel_rfl
theorem AF:modes 316=⟨[],.asis,none,false⟩:=by unfold modes; rfl
def Dj:SC:=(.seq (.reg [⟨some 2,none,.boxv 142 1 (.t 0)⟩,⟨(some 4),none,(.alloc 33 [(.str ⟨#[]⟩),.nil])⟩,⟨some 5,none,.mv (.c (.bool false))⟩]) (.seq (.reg [⟨some 9,none,.faddr 0 (.t 2)⟩,⟨some 10,none,.load false 1 (.t 9)⟩,⟨some 11,none,.mv (.t 1)⟩,⟨some 12,none,.call 316 [(.t 10),(.t 11),(.c (.fn 317 []))]⟩,⟨some 8,none,.mv (.t 12)⟩,⟨some 13,none,.ext (.t 8) 0⟩,⟨some 14,none,.ext (.t 8) 1⟩,⟨some 6,none,.mv (.t 13)⟩,⟨some 7,none,.mv (.t 14)⟩]) (.seq (.seq (.reg [⟨some 15,none,.mv (.t 7)⟩,⟨some 16,none,.un .not (.t 15)⟩]) (.cond (.t 16) (.seq (.reg [⟨(some 17),none,(.build [(.str ⟨#[]⟩),.nil] [])⟩,⟨none,none,(.store 2 (.t 4) (.t 17))⟩,⟨some 5,none,.mv (.c (.bool false))⟩]) .ret) .skip)) (.seq (.reg [⟨some 18,none,.faddr 0 (.t 2)⟩,⟨some 19,none,.load false 1 (.t 18)⟩,⟨some 20,none,.mv (.t 6)⟩,⟨some 21,none,.iaddr 3 (.t 19) (.t 20)⟩,⟨some 22,none,.faddr 1 (.t 21)⟩,⟨some 23,none,.load true 2 (.t 22)⟩,⟨none,none,(.store 2 (.t 4) (.t 23))⟩,⟨some 5,none,.mv (.c (.bool true))⟩]) .ret))))
theorem EP:codeOf Tryz.prog 280=some ⟨24,Dj,[(.cell 4 true 2),(.tmp 5)]⟩:=by kernel_rfl
theorem A5:modes 280=⟨[],.frz,none,false⟩:=by unfold modes; rfl
theorem Qbt (b:Bd) (n:ByteArray):E 317 [b.sv,.str n] []=some (.int .i64 (E2 b.var n),[]):=by
 have h:=JR b.var n
 refine Ad HL BP (of_decide_eq_true rfl) ?_
 simp (disch:=omega) only [Ev,go_sem,Aa,h,AB]
theorem Vg (xs:List Bd) (n:ByteArray) (hl:xs.length≤1099511627776) (hs:O0 xs):E 316 [.arr (xs.map Bd.d),.str n,.fn 317 []] []=some (.tup [.int .i64 (Bn xs n:Nat),.bool (DZ xs n)],[]):=by
 have hlow:=WO n xs
 obtain ⟨L,hL⟩:∃ L:Int,L=(Bn xs n:Nat):=⟨_,rfl⟩
 rw [←hL]
 refine Ad Ck AF (of_decide_eq_true rfl) ?_
 simp (disch:=omega) only [Be,go_sem,Aa]
 refine go_loop (α:=Int × Int) (fun a=>⟨slots 49 0 [(0,.arr (xs.map Bd.d)),(1,.str n),(2,.fn 317 []),(8,.int .i64 xs.length),(9,.int .i64 a.1),(10,.int .i64 a.2)],[]⟩) (fun a=>0≤a.1∧a.1≤L∧L≤a.2∧a.2≤xs.length) (fun a=>(a.2-a.1).toNat) (0,xs.length) ⟨by simp,by dsimp only; omega,by dsimp only; omega,by dsimp only; omega⟩ (by simp (disch:=omega) only [go_sem,Aa]) ?_
 rintro ⟨i,j⟩ ⟨h0,h1,h2,h3⟩
 dsimp only at h0 h1 h2 h3
 rcases Int.lt_or_le i j with hij | hij
 ·obtain ⟨m,hm⟩:∃ m:Nat,(i+j) / 2=(m:Int):=⟨((i+j) / 2).toNat,by omega⟩
  have hlt:m<xs.length:=by omega
  have hni:(m:Int).toNat=m:=yN m
  have hg:=get_at Bd.d hlt
  rw [Bd.d_eq] at hg
  have hc:=Qbt xs[m] n
  have hw:IntKind.u64.wrap (i+j)=i+j:=wrap_u64 (by omega) (by omega)
  have hi:=Qd8 hs n hlt
  obtain ⟨M,hM⟩:∃ M:Int,(i+j) / 2=M:=⟨_,rfl⟩
  have hni:M.toNat=m:=by omega
  cases hq:strLt xs[m].var n with
  | true =>
   have hi2:=hi.1 hq
   simp (disch:=omega) only [go_sem,Aa,hw,hni,hg,hc,CN,BP,Yx,hq,hM]
   exact ⟨(M+1,j),⟨by dsimp only; omega,by dsimp only; omega,by dsimp only; omega,by dsimp only; omega⟩,by dsimp only; omega,by first | trivial | rfl⟩
  | false =>
   have hi2:¬ m<Bn xs n:=by rw [←hi,hq]; simp
   simp (disch:=omega) only [go_sem,Aa,hw,hni,hg,hc,CN,BP,Yx,hq,hM]
   exact ⟨(i,M),⟨by dsimp only; omega,by dsimp only; omega,by dsimp only; omega,by dsimp only; omega⟩,by dsimp only; omega,by first | trivial | rfl⟩
 ·obtain rfl:i=L:=by omega
  rcases zB (Bn xs n) xs.length with hlt | hge
  ·have hg:=get_at Bd.d hlt
   rw [Bd.d_eq] at hg
   have hni:i.toNat=Bn xs n:=by omega
   have hc:=Qbt xs[Bn xs n] n
   have hh:DZ xs n=dec (xs[Bn xs n].var=n):=by unfold DZ; rw [zU hlt]
   rw [hh]
   simp (disch:=omega) only [go_sem,Aa,hni,hg,hc,CN,BP,Qcx]
  ·have hh:DZ xs n=false:=by unfold DZ; rw [yT hge]
   rw [hh]
   simp (disch:=omega) only [go_sem,Aa]
theorem Y0 {α:Type} (p:α→Bool):∀ (xs:List α) (k:Nat) (i:Int) (h:k<xs.length),(∀ j (hj:j<k),p xs[j]=false)→p xs[k]=true→E4 p xs i=i+k
 | [],k,i,h,_,_=>absurd h (by simp)
 | x :: xs,0,i,h,_,hp=>by rw [E4,if_pos (show p x=true from hp)]; simp
 | x :: xs,k+1,i,h,hb,hp=>by
  have h0:p x=false:=hb 0 (by omega)
  have:=Y0 p xs k (i+1) (by simpa using h) (fun j hj=>hb (j+1) (by omega)) hp
  rw [E4,if_neg (by rw [h0]; simp),this]; omega
theorem WQ {α:Type} (p:α→Bool):∀ (xs:List α) (i:Int),(∀ j (hj:j<xs.length),p xs[j]=false)→E4 p xs i=-1
 | [],i,_=>by rw [E4]
 | x :: xs,i,h=>by
  have h0:p x=false:=h 0 (by simp)
  rw [E4,if_neg (by rw [h0]; simp)]
  exact WQ p xs (i+1) fun j hj=>h (j+1) (by simpa using hj)
theorem SL {xs:List Bd} (hs:O0 xs) (n:ByteArray):E4 (fun b=>dec (b.var=n)) xs 0=if DZ xs n then ((Bn xs n:Nat):Int) else -1:=by
 have before:∀ j (hj:j<xs.length),j<Bn xs n→dec (xs[j].var=n)=false:=fun j hj hL=>Ax (Yw (Lo n xs j hj hL))
 rcases zB (Bn xs n) xs.length with hlt | hge
 ·have hh:DZ xs n=dec (xs[Bn xs n].var=n):=by unfold DZ; rw [zU hlt]
  cases hq:dec (xs[Bn xs n].var=n) with
  | true =>
   rw [hh,hq,if_pos rfl,Y0 _ xs (Bn xs n) 0 hlt (fun j hj=>before j (by omega) hj) hq]; omega
  | false =>
   rw [hh,hq,if_neg (by simp)]
   refine WQ _ xs 0 fun j hj=>?_
   rcases Nat.lt_trichotomy j (Bn xs n) with h | h | h
   ·exact before j hj h
   ·subst h; exact hq
   ·refine Ax fun e=>?_
    have h1:=hs _ _ h hj
    rw [e,WP n xs hlt] at h1
    cases h1
 ·have hh:DZ xs n=false:=by unfold DZ; rw [yT hge]
  rw [hh,if_neg (by simp)]
  exact WQ _ xs 0 fun j hj=>before j hj (by omega)
theorem Iq {xs:List Bd} {n:ByteArray} (h:DZ xs n=true):Bn xs n<xs.length:=by
 rcases zB (Bn xs n) xs.length with h1 | h1
 ·exact h1
 ·unfold DZ at h; rw [yT h1] at h; cases h
noncomputable def Sb.look (x:Sb) (n:ByteArray):Option Tm:=if h:DZ x.binds n=true then some (x.binds[Bn x.binds n]'(Iq h)).term else none
theorem SM (x:Sb) (hx:O0 x.binds) (n:ByteArray) (hl:x.binds.length≤1099511627776) (hh:DZ x.binds n=true) (hlt:Bn x.binds n<x.binds.length):E 280 [x.sv,.str n] []=some (.tup [(x.binds[Bn x.binds n]).term.sv,.bool true],[]):=by
 have hb:=Vg x.binds n hl hx
 have hg:=get_at Bd.d hlt
 rw [Bd.d_eq] at hg
 have hni:((Bn x.binds n:Nat):Int).toNat=Bn x.binds n:=yN _
 refine Ad EP A5 (of_decide_eq_true rfl) ?_
 simp (disch:=omega) only [Dj,go_sem,Aa,hb,hni,hg,hh,AF]
theorem Vh (x:Sb) (hx:O0 x.binds) (n:ByteArray) (hl:x.binds.length≤1099511627776) (hh:DZ x.binds n=false):E 280 [x.sv,.str n] []=some (.tup [.agg [.str ⟨#[]⟩,.arr []],.bool false],[]):=by
 have hb:=Vg x.binds n hl hx
 refine Ad EP A5 (of_decide_eq_true rfl) ?_
 simp (disch:=omega) only [Dj,go_sem,Aa,hb,hh,AF]
theorem Qas (x:Sb) (hx:x.ok=true) (n:ByteArray) (hl:x.binds.length≤1099511627776) (hh:DZ x.binds n=true) (hlt:Bn x.binds n<x.binds.length):E 280 [x.sv,.str n] []=some (.tup [(x.binds[Bn x.binds n]).term.sv,.bool true],[]):=SM x (Sb.Kt hx) n hl hh hlt
theorem Qcz (x:Sb) (hx:x.ok=true) (n:ByteArray) (hl:x.binds.length≤1099511627776) (hh:DZ x.binds n=false):E 280 [x.sv,.str n] []=some (.tup [.agg [.str ⟨#[]⟩,.arr []],.bool false],[]):=Vh x (Sb.Kt hx) n hl hh
mutual
noncomputable def Tm.ap (f:ByteArray→Option Tm):Tm→Tm
 | .mk name args=>if Ao name then (f name).getD (.mk name []) else .mk name (Tm.apL f args)
noncomputable def Tm.apL (f:ByteArray→Option Tm):List Tm→List Tm
 | []=>[]
 | x :: xs=>Tm.ap f x :: Tm.apL f xs
end
theorem Tm.Ir (f:ByteArray→Option Tm) (x:Tm):x.ap f=if Ao x.name then (f x.name).getD (.mk x.name []) else .mk x.name (Tm.apL f x.args):=by
 obtain ⟨name,args⟩:=x
 rw [Tm.ap]; rfl
theorem Tm.Rr (f:ByteArray→Option Tm):∀ xs:List Tm,(Tm.apL f xs).length=xs.length
 | []=>by rw [Tm.apL]
 | x :: xs=>by rw [Tm.apL]; simp only [zP,Tm.Rr f xs]
theorem Tm.O1 (f:ByteArray→Option Tm):∀ xs:List Tm,Tm.apL f xs=xs.map (Tm.ap f)
 | []=>by rw [Tm.apL]; rfl
 | x :: xs=>by rw [Tm.apL,Tm.O1 f xs]; rfl
def okF (f:ByteArray→Option Tm):Prop:=∀ n t,f n=some t→t.names=true∧t.nodes≤30
theorem Tm.O2 (f:ByteArray→Option Tm):∀ xs:List Tm,(∀ y∈xs,(y.ap f).names=true)→Tm.Em (Tm.apL f xs)=true
 | [],_=>by rw [Tm.apL,Tm.Em]
 | x :: xs,h=>by rw [Tm.apL,Tm.Em,h x (by simp),Tm.O2 f xs fun y hy=>h y (by simp [hy])]; rfl
theorem Tm.Lp {f:ByteArray→Option Tm} (hf:okF f) (x:Tm) (hx:x.names=true):(x.ap f).names=true:=by
 rw [Tm.Ir]
 rw [Tm.EN] at hx
 split
 ·rename_i hv
  cases hq:f x.name with
  | none =>
   rw [y4,Tm.EN]
   show (if Ao x.name then _ else _)=true
   rw [if_pos hv]; rfl
  | some t=>exact (hf _ _ hq).1
 ·rename_i hv
  rw [if_neg hv,zA,zA] at hx
  rw [Tm.EN]
  show (if Ao x.name then _ else Fl x.name&&decide ((Tm.apL f x.args).length≤4)&&Tm.Em (Tm.apL f x.args))=true
  rw [if_neg hv,Tm.Rr,hx.1.1,hx.1.2,Tm.O2 f x.args fun y hy=>Tm.Lp hf y (by
   have:=hx.2
   rw [Tm.Dw,zO] at this
   exact this y hy)]
  rfl
termination_by SizeOf.sizeOf x
decreasing_by exact Tm.lt_of_mem hy
theorem Tm.Y1 {f:ByteArray→Option Tm}:∀ xs:List Tm,(∀ y∈xs,(y.ap f).nodes≤30*y.nodes)→Tm.Bf (Tm.apL f xs)≤30*Tm.Bf xs
 | [],_=>by rw [Tm.apL,Tm.Bf]; omega
 | x :: xs,h=>by
  have h1:=h x (by simp)
  have h2:=Tm.Y1 xs fun y hy=>h y (by simp [hy])
  rw [Tm.apL,Tm.Bf,Tm.Bf]; omega
theorem Tm.Jr {f:ByteArray→Option Tm} (hf:okF f) (x:Tm):(x.ap f).nodes≤30*x.nodes:=by
 have hp:=Tm.Ml x
 rw [Tm.Ir]
 split
 ·cases hq:f x.name with
  | none =>
   have:(Tm.mk x.name []).nodes=1+Tm.Bf []:=Tm.An (Tm.mk x.name [])
   rw [Tm.Bf] at this
   rw [y4]; omega
  | some t=>have:=(hf _ _ hq).2; rw [Option.getD_some]; omega
 ·have h1:(Tm.mk x.name (Tm.apL f x.args)).nodes=1+Tm.Bf (Tm.apL f x.args):=Tm.An (Tm.mk x.name (Tm.apL f x.args))
  have h2:=Tm.Y1 (f:=f) x.args fun y hy=>Tm.Jr hf y
  have h3:=Tm.An x
  omega
termination_by SizeOf.sizeOf x
decreasing_by exact Tm.lt_of_mem hy
theorem Tm.Qd9 {f:ByteArray→Option Tm} (hf:okF f) (x:Tm) (hx:(x.valid || x.atom)=true):((x.ap f).valid || (x.ap f).atom)=(x.ap f).small:=by
 cases hs:(x.ap f).small with
 | false =>
  have h1:(x.ap f).valid=false:=by unfold Tm.valid; rw [hs]; rfl
  have h2:(x.ap f).atom=false:=by
   unfold Tm.atom; split
   ·rw [hs,zM,yK]
   ·rw [h1,zM]
  rw [h1,h2]; rfl
 | true =>
  cases hn:x.names with
  | true =>
   have:(x.ap f).valid=true:=by unfold Tm.valid; rw [hs,Tm.Lp hf x hn]; rfl
   rw [this]; rfl
  | false =>
   have hv:x.valid=false:=by unfold Tm.valid; rw [hn,zM]
   rw [hv,y3] at hx
   unfold Tm.atom at hx
   split at hx
   ·rename_i he
    rw [zA,zA] at hx
    have hname:x.name=⟨#[61]⟩:=by unfold Tm.eqn at he; exact At.1 he
    have hnv0:Ao ⟨#[61]⟩=false:=by kernel_rfl
    have hnv:¬ (Ao x.name=true):=by rw [hname,hnv0]; simp
    have e:x.ap f=.mk x.name (Tm.apL f x.args):=by rw [Tm.Ir,if_neg hnv]
    have:(x.ap f).atom=true:=by
     have he2:(x.ap f).eqn=true:=by rw [e]; exact he
     unfold Tm.atom
     rw [if_pos he2,hs]
     rw [e]
     show ((Tm.apL f x.args).length == 2&&true&&Tm.Em (Tm.apL f x.args))=true
     rw [Tm.Rr,hx.1.1,Tm.O2 f x.args fun y hy=>Tm.Lp hf y (by
      have:=hx.2
      rw [Tm.Dw,zO] at this
      exact this y hy)]
     rfl
    rw [this,Bool.or_true]
   ·rw [hv,zM] at hx; cases hx
theorem Tm.E7 {x:Tm} (h:x.names=true) (hv:Ao x.name=true):x.args=[]:=by
 rw [Tm.EN,if_pos hv] at h
 exact zF (by simpa using h)
theorem Tm.DU {x:Tm} (h:x.names=true) {y:Tm} (hy:y∈x.args):y.names=true:=by
 rw [Tm.EN] at h
 split at h
 ·have:x.args=[]:=zF (by simpa using h)
  rw [this] at hy; cases hy
 ·rw [zA,Tm.Dw,zO] at h
  exact h.2 y hy
theorem Sb.Ku {x:Sb} (h:x.ok=true) {k:Nat} (hk:k<x.binds.length):Ic x.binds[k]=true:=by
 unfold Sb.ok at h
 rw [zA] at h
 exact Qfc hk (Qbs h.2 hk)
theorem Y2 {x:Bd} (h:Ic x=true):Ao x.var=true:=by unfold Ic at h; rw [zA] at h; exact h.1
theorem DB {x:Bd} (h:Ic x=true):x.term.valid=true:=by unfold Ic at h; rw [zA,zA] at h; exact h.2.1
theorem WR {xs:List Bd} {n:ByteArray} (h:DZ xs n=true) (hlt:Bn xs n<xs.length):(xs[Bn xs n]).var=n:=by
 have hh:DZ xs n=dec (xs[Bn xs n].var=n):=by unfold DZ; rw [zU hlt]
 rw [hh] at h
 exact At.1 h
theorem Sb.F3 {x:Sb} (h:x.ok=true):okF x.look:=by
 intro n t ht
 unfold Sb.look at ht
 split at ht
 ·rename_i hh
  have hv:=DB (Sb.Ku h (Iq hh))
  obtain rfl:=yM ht
  unfold Tm.valid Tm.small at hv
  rw [zA,zA,decide_eq_true_eq] at hv
  exact ⟨hv.2,hv.1.1⟩
 ·cases ht
theorem Sb.Lr {x:Sb} {n:ByteArray} (h:DZ x.binds n=true) (hlt:Bn x.binds n<x.binds.length):x.look n=some (x.binds[Bn x.binds n]).term:=by
 unfold Sb.look; rw [dif_pos h]
theorem Sb.Rs {x:Sb} {n:ByteArray} (h:DZ x.binds n=false):x.look n=none:=by
 unfold Sb.look; rw [dif_neg (by rw [h]; simp)]
def Sb.fine (s:Sb):Prop:=O0 s.binds∧∀ b∈s.binds,Ao b.var=true
theorem Sb.WS {s:Sb} (h:s.ok=true):s.fine:=⟨Sb.Kt h,fun b hb=>by
 obtain ⟨k,hk,rfl⟩:=zS hb
 exact Y2 (Sb.Ku h hk)⟩
def Ce:SC:=(.seq (.reg [⟨some 2,none,.boxv 142 1 (.t 0)⟩,⟨some 3,none,.boxv 33 2 (.t 1)⟩,⟨(some 4),none,(.alloc 33 [(.str ⟨#[]⟩),.nil])⟩]) (.seq (.seq (.reg [⟨some 10,none,.faddr 1 (.t 3)⟩,⟨some 11,none,.load false 1 (.t 10)⟩,⟨some 12,none,.len false (.t 11)⟩,⟨some 13,none,.bin .eql false (.t 12) (.c (.int .i64 0))⟩]) (.cond (.t 13) (.seq (.seq (.reg [⟨some 15,none,.load true 1 (.t 2)⟩,⟨some 16,none,.faddr 0 (.t 3)⟩,⟨some 17,none,.load false 1 (.t 16)⟩,⟨some 18,none,.call 280 [(.t 15),(.t 17)]⟩,⟨some 14,none,.mv (.t 18)⟩,⟨some 19,none,.ext (.t 14) 0⟩,⟨some 20,none,.ext (.t 14) 1⟩,⟨(some 5),none,(.alloc 33 [(.str ⟨#[]⟩),.nil])⟩,⟨none,none,(.store 2 (.t 5) (.t 19))⟩,⟨some 6,none,.mv (.t 20)⟩]) (.seq (.reg [⟨some 21,none,.mv (.t 6)⟩]) (.cond (.t 21) (.seq (.reg [⟨some 22,none,.load true 2 (.t 5)⟩,⟨some 23,none,.call 187 [(.t 22)]⟩,⟨none,none,(.store 2 (.t 4) (.t 23))⟩]) .ret) .skip))) (.seq (.reg [⟨some 24,none,.faddr 0 (.t 3)⟩,⟨some 25,none,.load false 1 (.t 24)⟩,⟨(some 26),none,(.build [(.str ⟨#[]⟩),.nil] [(0,(1,(.t 25)))])⟩,⟨none,none,(.store 2 (.t 4) (.t 26))⟩]) .ret)) .skip)) (.seq (.dreg [[],[0],[],[2],[3,2],[4,3,2],[1,0,5,4,3,2],[],[7,6,1,0,5,4,3,2]] [⟨some 27,none,.faddr 0 (.t 3)⟩,⟨some 28,none,.load false 1 (.t 27)⟩,⟨some 29,none,.faddr 1 (.t 3)⟩,⟨some 30,none,.load false 1 (.t 29)⟩,⟨some 31,none,.len false (.t 30)⟩,⟨(some 32),none,(.mkslice 33 2 40 [(.str ⟨#[]⟩),.nil] (.t 31))⟩,⟨(some 33),none,(.build [(.str ⟨#[]⟩),.nil] [(0,(1,(.t 28))),(1,(1,(.t 32)))])⟩,⟨(some 7),none,(.alloc 33 [(.str ⟨#[]⟩),.nil])⟩,⟨none,none,(.store 2 (.t 7) (.t 33))⟩]) (.seq (.seq (.reg [⟨some 34,none,.faddr 1 (.t 3)⟩,⟨some 35,none,.load false 1 (.t 34)⟩,⟨some 36,none,.len false (.t 35)⟩,⟨some 37,none,.mv (.c (.int .i64 0))⟩]) (.block 0 (.loop [0,0,1,0,1,0,0,1,0,0,0,0,0,0,0,0,0,0,0,0,0,0,0,0,0,0,0,0,0,0,0,0,0,0,0,1,1,1,0,0,0,0,0,0,0,0,0,0,0,0,0] (.seq (.reg [⟨some 38,none,.bin .lss false (.t 37) (.t 36)⟩]) (.seq (.cond (.t 38) .skip (.exit 0)) (.seq (.block 1 (.seq (.reg [⟨some 39,none,.mv (.t 37)⟩,⟨some 40,none,.iaddr 2 (.t 35) (.t 37)⟩,⟨some 41,none,.load true 2 (.t 40)⟩,⟨(some 9),none,(.alloc 33 [(.str ⟨#[]⟩),.nil])⟩,⟨some 8,none,.mv (.t 39)⟩,⟨none,none,(.store 2 (.t 9) (.t 41))⟩]) (.dreg [[],[0],[],[],[],[3,4],[1,0,2,3,4,5],[6,1,0,2,3,4,5]] [⟨some 42,none,.faddr 1 (.t 7)⟩,⟨some 43,none,.load false 1 (.t 42)⟩,⟨some 44,none,.mv (.t 8)⟩,⟨some 45,none,.load true 1 (.t 2)⟩,⟨some 46,none,.load true 2 (.t 9)⟩,⟨some 47,none,.call 276 [(.t 45),(.t 46)]⟩,⟨some 48,none,.iaddr 2 (.t 43) (.t 44)⟩,⟨none,none,(.store 2 (.t 48) (.t 47))⟩]))) (.reg [⟨some 49,none,.bin .add false (.t 37) (.c (.int .i64 1))⟩,⟨some 37,none,.mv (.t 49)⟩]))))))) (.seq (.reg [⟨some 50,none,.load true 2 (.t 7)⟩,⟨none,none,(.store 2 (.t 4) (.t 50))⟩]) .ret)))))
theorem CV:codeOf Tryz.prog 276=some ⟨51,Ce,[(.cell 4 true 2)]⟩:=by kernel_rfl
theorem Aw:modes 276=⟨[],.own [none,some (33,2)],none,false⟩:=by unfold modes; rfl
def F4:SC:=(.seq (.reg [⟨some 2,none,.boxv 142 1 (.t 0)⟩,⟨some 3,none,.boxv 33 2 (.t 1)⟩,⟨(some 4),none,(.alloc 33 [(.str ⟨#[]⟩),.nil])⟩]) (.seq (.seq (.reg [⟨some 8,none,.faddr 0 (.t 3)⟩,⟨some 9,none,.load false 1 (.t 8)⟩,⟨some 10,none,.call 191 [(.t 9)]⟩]) (.cond (.t 10) (.seq (.seq (.reg [⟨some 11,none,.load true 1 (.t 2)⟩,⟨some 12,none,.faddr 0 (.t 3)⟩,⟨some 13,none,.load false 1 (.t 12)⟩,⟨some 14,none,.call 239 [(.t 11),(.t 13)]⟩,⟨some 5,none,.mv (.t 14)⟩]) (.seq (.reg [⟨some 15,none,.mv (.t 5)⟩,⟨some 16,none,.bin .geq false (.t 15) (.c (.int .i64 0))⟩]) (.cond (.t 16) (.seq (.reg [⟨some 17,none,.faddr 0 (.t 2)⟩,⟨some 18,none,.load false 1 (.t 17)⟩,⟨some 19,none,.mv (.t 5)⟩,⟨some 20,none,.iaddr 3 (.t 18) (.t 19)⟩,⟨some 21,none,.faddr 1 (.t 20)⟩,⟨some 22,none,.load true 2 (.t 21)⟩,⟨some 23,none,.call 135 [(.t 22)]⟩,⟨none,none,(.store 2 (.t 4) (.t 23))⟩]) .ret) .skip))) (.seq (.reg [⟨some 24,none,.faddr 0 (.t 3)⟩,⟨some 25,none,.load false 1 (.t 24)⟩,⟨(some 26),none,(.build [(.str ⟨#[]⟩),.nil] [(0,(1,(.t 25)))])⟩,⟨none,none,(.store 2 (.t 4) (.t 26))⟩]) .ret)) .skip)) (.seq (.reg [⟨some 27,none,.faddr 0 (.t 3)⟩,⟨some 28,none,.load false 1 (.t 27)⟩,⟨(some 29),none,(.build [(.str ⟨#[]⟩),.nil] [(0,(1,(.t 28)))])⟩,⟨(some 6),none,(.alloc 33 [(.str ⟨#[]⟩),.nil])⟩,⟨none,none,(.store 2 (.t 6) (.t 29))⟩]) (.seq (.seq (.reg [⟨some 7,none,.mv (.c (.int .i64 0))⟩]) (.block 0 (.loop [0,0,1,1,1,0,1,1,0,0,0,0,0,0,0,0,0,0,0,0,0,0,0,0,0,0,0,0,0,0,0,0,0,0,0,0,0,0,0,0,0,0,0,0,0,0,0,0,0,0] (.seq (.seq (.reg [⟨some 30,none,.mv (.t 7)⟩,⟨some 31,none,.faddr 1 (.t 3)⟩,⟨some 32,none,.load false 1 (.t 31)⟩,⟨some 33,none,.len false (.t 32)⟩,⟨some 34,none,.bin .lss false (.t 30) (.t 33)⟩]) (.cond (.t 34) .skip (.exit 0))) (.seq (.block 1 (.dreg [[],[0],[],[],[3],[],[4,3,5],[6,4,3,5],[2,7,6,4,3,5],[8,2,7,6,4,3,5],[1,0,9,8,2,7,6,4,3,5],[0,1,2,3,4,5,6,7,8,9,10],[11,0,1,2,3,4,5,6,7,8,9,10]] [⟨some 37,none,.faddr 1 (.t 6)⟩,⟨some 38,none,.load false 1 (.t 37)⟩,⟨some 39,none,.load true 1 (.t 2)⟩,⟨some 40,none,.faddr 1 (.t 3)⟩,⟨some 41,none,.load false 1 (.t 40)⟩,⟨some 42,none,.mv (.t 7)⟩,⟨some 43,none,.iaddr 2 (.t 41) (.t 42)⟩,⟨some 44,none,.load true 2 (.t 43)⟩,⟨some 45,none,.call 173 [(.t 39),(.t 44)]⟩,⟨(some 46),none,(.mkrow 33 2 [(.str ⟨#[]⟩),.nil] 1 [(0,(.t 45))])⟩,⟨(some 47),none,(.append 33 2 40 [(.str ⟨#[]⟩),.nil] (.t 38) (.t 46))⟩,⟨some 48,none,.faddr 1 (.t 6)⟩,⟨none,none,(.store 1 (.t 48) (.t 47))⟩])) (.reg [⟨some 35,none,.mv (.t 7)⟩,⟨some 36,none,.bin .add false (.t 35) (.c (.int .i64 1))⟩,⟨some 7,none,.mv (.t 36)⟩])))))) (.seq (.reg [⟨some 49,none,.load true 2 (.t 6)⟩,⟨none,none,(.store 2 (.t 4) (.t 49))⟩]) .ret)))))
theorem HM:codeOf Tryz.prog 173=some ⟨50,F4,[(.cell 4 true 2)]⟩:=by kernel_rfl
theorem AH:modes 173=⟨[],.frz,none,false⟩:=by unfold modes; rfl
theorem Y3 (s:Sb) (hs:s.fine) (ht:s.tame) (x:Tm) (hx:Ao x.name=true→x.args=[]) (hn:x.nodes≤1099511627776) (ih:∀ y∈x.args,E 276 [s.sv,y.sv] []=some ((y.ap s.look).osv,(y.ap s.look).obs)):E 276 [s.sv,x.sv] []=some ((x.ap s.look).osv,(x.ap s.look).obs):=by
 have hsl:=ht.1
 have hl:=Tm.length_le x.args
 have hne:=Tm.An x
 rcases zI x.args.length with h0 | h0
 ·have hx0:x.args=[]:=zF h0
  cases hh:DZ s.binds x.name with
  | true =>
   have hlt:=Iq hh
   have hc:=SM s hs.1 x.name hsl hh hlt
   have hd:=JT (s.binds[Bn s.binds x.name]).term (Sb.tame_at ht hlt)
   have hv:Ao x.name=true:=by rw [←WR hh hlt]; exact hs.2 _ (zD hlt)
   have e:x.ap s.look=(s.binds[Bn s.binds x.name]).term:=by rw [Tm.Ir,if_pos hv,Sb.Lr hh hlt]; rfl
   rw [e]
   refine Ad CV Aw (of_decide_eq_true rfl) ?_
   simp (disch:=omega) only [Ce,go_sem,Aa,hx0,hc,hd,zL,zV,A5,AZ,Tm.osv,Tm.obs]
  | false =>
   have hc:=Vh s hs.1 x.name hsl hh
   have e:x.ap s.look=.mk x.name []:=by
    rw [Tm.Ir,Sb.Rs hh,hx0]
    split
    ·rfl
    ·rw [Tm.apL]
   rw [e]
   have e1:(Tm.mk x.name []).osv=.agg [.str x.name,.ref 0]:=rfl
   have e2:(Tm.mk x.name []).obs=[.row 33 2 []]:=rfl
   rw [e1,e2]
   refine Ad CV Aw (of_decide_eq_true rfl) ?_
   simp (disch:=omega) only [Ce,go_sem,Aa,hx0,hc,zL,zV,A5]
 ·have hv:¬ Ao x.name=true:=fun h=>by rw [hx h] at h0; simp at h0
  have e:x.ap s.look=.mk x.name (x.args.map (Tm.ap s.look)):=by rw [Tm.Ir,if_neg hv,Tm.O1]
  rw [e]
  have e1:(Tm.mk x.name (x.args.map (Tm.ap s.look))).osv=.agg [.str x.name,.ref 0]:=rfl
  have e2:(Tm.mk x.name (x.args.map (Tm.ap s.look))).obs=[.row 33 2 ((x.args.map (Tm.ap s.look)).map Tm.o)]:=rfl
  rw [e1,e2]
  have hrl:List.replicate x.args.length ([.str ⟨#[]⟩,.ow []]:List OT)=Gz Tm.o [.str ⟨#[]⟩,.ow []] (x.args.map (Tm.ap s.look)) 0:=by rw [JN,zC]
  refine Ad CV Aw (of_decide_eq_true rfl) ?_
  simp (disch:=omega) only [Ce,go_sem,Aa]
  refine go_loop (α:=Int) (fun a=>⟨slots 51 0 [(2,.ptr 0 0),(4,.ptr 1 0),(7,.ptr 2 0),(35,.arr (x.args.map Tm.d)),(36,.int .i64 x.args.length),(37,.int .i64 a)],[.box 142 [.arr (s.binds.map Bd.d)],.box 33 [.str ⟨#[]⟩,.nil],.box 33 [.str x.name,.ref 3],.row 33 2 (Gz Tm.o [.str ⟨#[]⟩,.ow []] (x.args.map (Tm.ap s.look)) a.toNat)]⟩) (fun a=>∃ k:Nat,a=k∧k≤(x.args).length) (fun a=>(x.args).length-(a).toNat) 0 ⟨0,rfl,zH _⟩ (by simp (disch:=omega) only [go_sem,Aa,hrl,yC]) ?_
  rintro i ⟨k,hi,hk⟩
  have hni:i.toNat=k:=by omega
  have hni1:(i+1).toNat=k+1:=by omega
  rcases zB k (x.args).length with hlt | hge
  ·have hg:=get_at Tm.d hlt
   rw [Tm.d_eq] at hg
   have hltm:k<(x.args.map (Tm.ap s.look)).length:=by rw [zC]; exact hlt
   have hz:=Mj Tm.o [.str ⟨#[]⟩,.ow []] hltm
   have hc:=ih x.args[k] (zD hlt)
   have hse:=Mk Tm.o [.str ⟨#[]⟩,.ow []] hltm
   rw [Tm.o_eq,z7] at hse
   simp (disch:=omega) only [go_sem,Aa,hni,hg,hc,hz,Mh,zC,Aw,Tm.osv,Tm.obs]
   refine ⟨i+1,⟨k+1,by omega,hlt⟩,by omega,?_⟩
   simp (disch:=omega) only [go_sem,Aa,hni1,hse]
  ·obtain rfl:k=x.args.length:=by omega
   have hend:Gz Tm.o [.str ⟨#[]⟩,.ow []] (x.args.map (Tm.ap s.look)) x.args.length=(x.args.map (Tm.ap s.look)).map Tm.o:=by
    have:=Mi Tm.o [.str ⟨#[]⟩,.ow []] (xs:=x.args.map (Tm.ap s.look))
    rwa [zC] at this
   simp (disch:=omega) only [go_sem,Aa,hni,hend]
theorem Qbu (s:Sb) (hs:s.fine) (ht:s.tame) (x:Tm) (hx:x.names=true) (hn:x.nodes≤1099511627776):E 276 [s.sv,x.sv] []=some ((x.ap s.look).osv,(x.ap s.look).obs) :=
 Y3 s hs ht x (Tm.E7 hx) hn fun y hy=>Qbu s hs ht y (Tm.DU hx hy) (by have:=Tm.AW hy; have:=Tm.An x; omega)
termination_by SizeOf.sizeOf x
decreasing_by exact Tm.lt_of_mem hy
theorem Qbv (s:Sb) (hs:s.ok=true) (ht:s.tame) (x:Tm) (hx:x.names=true) (hn:x.nodes≤1099511627776):E 276 [s.sv,x.sv] []=some ((x.ap s.look).osv,(x.ap s.look).obs):=Qbu s (Sb.WS hs) ht x hx hn
theorem Qat (s:Sb) (hs:s.fine) (ht:s.tame) (x:Tm) (hn:x.nodes≤1099511627776) (ih:∀ y∈x.args,E 173 [s.sv,y.sv] []=some ((y.ap s.look).sv,[])):E 173 [s.sv,x.sv] []=some ((x.ap s.look).sv,[]):=by
 have hsl:=ht.1
 have hl:=Tm.length_le x.args
 have hne:=Tm.An x
 have hf:=Yz s x.name hsl
 rw [SL hs.1] at hf
 cases hv:Ao x.name with
 | true =>
  cases hh:DZ s.binds x.name with
  | true =>
   have hlt:=Iq hh
   have hg:=get_at Bd.d hlt
   rw [Bd.d_eq] at hg
   have hni:((Bn s.binds x.name:Nat):Int).toNat=Bn s.binds x.name:=yN _
   have hd:=Rp (s.binds[Bn s.binds x.name]).term (Sb.tame_at ht hlt)
   have e:x.ap s.look=(s.binds[Bn s.binds x.name]).term:=by rw [Tm.Ir,if_pos hv,Sb.Lr hh hlt]; rfl
   rw [hh,if_pos rfl] at hf
   rw [e]
   refine Ad HM AH (of_decide_eq_true rfl) ?_
   simp (disch:=omega) only [F4,go_sem,Aa,hv,hf,hg,hni,hd,BL,Ah,Am,Dc]
  | false =>
   have e:x.ap s.look=.mk x.name []:=by rw [Tm.Ir,if_pos hv,Sb.Rs hh]; rfl
   rw [hh,if_neg (by simp)] at hf
   rw [e]
   have e1:(Tm.mk x.name []).sv=.agg [.str x.name,.arr []]:=rfl
   rw [e1]
   refine Ad HM AH (of_decide_eq_true rfl) ?_
   simp (disch:=omega) only [F4,go_sem,Aa,hv,hf,BL,Ah,Am]
 | false =>
  have e:x.ap s.look=.mk x.name (x.args.map (Tm.ap s.look)):=by rw [Tm.Ir,if_neg (by rw [hv]; simp),Tm.O1]
  rw [e]
  have e1:(Tm.mk x.name (x.args.map (Tm.ap s.look))).sv=.agg [.str x.name,.arr ((x.args.map (Tm.ap s.look)).map Tm.d)]:=rfl
  rw [e1]
  have h10:((1:Int)=0)=False:=by simp
  have hfu:=Tm.Ow (x.args.map (Tm.ap s.look))
  have her:=Tm.WM (x.args.map (Tm.ap s.look))
  refine Ad HM AH (of_decide_eq_true rfl) ?_
  simp (disch:=omega) only [F4,go_sem,Aa,hv,BL,Ah,Am]
  refine go_loop (α:=Int) (fun a=>⟨slots 50 0 [(2,.ptr 0 0),(3,.ptr 1 0),(4,.ptr 2 0),(6,.ptr 3 0),(7,.int .i64 a)],(if a=0 then [.box 142 [.arr (s.binds.map Bd.d)],.box 33 [.str x.name,.arr (x.args.map Tm.d)],.box 33 [.str ⟨#[]⟩,.nil],.box 33 [.str x.name,.nil]] else [.box 142 [.arr (s.binds.map Bd.d)],.box 33 [.str x.name,.arr (x.args.map Tm.d)],.box 33 [.str ⟨#[]⟩,.nil],.box 33 [.str x.name,.ref 4],.row 33 2 (((x.args.map (Tm.ap s.look)).take a.toNat).map Tm.osh)])⟩) (fun a=>∃ k:Nat,a=k∧k≤(x.args).length) (fun a=>(x.args).length-(a).toNat) 0 ⟨0,rfl,zH _⟩ (by simp (disch:=omega) only [go_sem,Aa,eq_self,if_true]) ?_
  rintro i ⟨k,hi,hk⟩
  have hni:i.toNat=k:=by omega
  have hni1:(i+1).toNat=k+1:=by omega
  rcases zB k (x.args).length with hlt | hge
  ·have hg:=get_at Tm.d hlt
   rw [Tm.d_eq] at hg
   have hltm:k<(x.args.map (Tm.ap s.look)).length:=by rw [zC]; exact hlt
   have hc:=ih x.args[k] (zD hlt)
   have hse:=DK Tm.osh hltm
   rw [Tm.SD,z7] at hse
   rcases zI k with h0 | h0
   ·subst h0
    obtain rfl:i=0:=hi
    rw [z8,zL,zW] at hse
    simp (disch:=omega) only [go_sem,Aa,hni,hg,hc,AH,eq_self,if_true]
    refine ⟨1,⟨1,rfl,hlt⟩,by omega,?_⟩
    simp (disch:=omega) only [go_sem,Aa,h10,if_false,hse]
   ·have hi0:(i=0)=False:=by simp; omega
    have hi1:(i+1=0)=False:=by simp; omega
    have htl:((x.args.map (Tm.ap s.look)).take k).length=k:=by rw [zQ]; omega
    simp (disch:=omega) only [go_sem,Aa,hni,hg,hc,AH,hi0,if_false,htl]
    refine ⟨i+1,⟨k+1,by omega,hlt⟩,by omega,?_⟩
    simp (disch:=omega) only [go_sem,Aa,hni1,hi1,if_false,hse]
  ·obtain rfl:k=x.args.length:=by omega
   have hta:(x.args.map (Tm.ap s.look)).take x.args.length=x.args.map (Tm.ap s.look):=by
    have:=zR (l:=x.args.map (Tm.ap s.look))
    rwa [zC] at this
   rcases zI x.args.length with h0 | h0
   ·have hx:x.args=[]:=zF h0
    obtain rfl:i=0:=by omega
    simp (disch:=omega) only [go_sem,Aa,hni,hx,eq_self,if_true,zL,zV]
   ·have hi0:(i=0)=False:=by simp; omega
    simp (disch:=omega) only [go_sem,Aa,hni,hi0,if_false,hta,hfu,her]
theorem Vi (s:Sb) (hs:s.fine) (ht:s.tame) (x:Tm) (hn:x.nodes≤1099511627776):E 173 [s.sv,x.sv] []=some ((x.ap s.look).sv,[]) :=
 Qat s hs ht x hn fun y hy=>Vi s hs ht y (by have:=Tm.AW hy; have:=Tm.An x; omega)
termination_by SizeOf.sizeOf x
decreasing_by exact Tm.lt_of_mem hy
theorem P6 (s:Sb) (hs:s.ok=true) (ht:s.tame) (x:Tm) (hn:x.nodes≤1099511627776):E 173 [s.sv,x.sv] []=some ((x.ap s.look).sv,[]):=Vi s (Sb.WS hs) ht x hn
noncomputable def Tm.expr (x:Tm):Bool:=x.valid || x.atom
theorem Tm.SN {x:Tm} (h:x.expr=true):x.small=true:=by
 unfold Tm.expr Tm.atom Tm.valid at h
 cases hs:x.small with
 | true=>rfl
 | false =>
  rw [hs] at h
  split at h <;> simp at h
theorem Tm.As {x:Tm} (h:x.expr=true):x.nodes≤30:=by
 have:=Tm.SN h
 unfold Tm.small at this
 rw [zA,decide_eq_true_eq] at this
 exact this.1
theorem Tm.Qbw {x:Tm} (h:x.eqn=true):Ao x.name=false:=by
 unfold Tm.eqn at h
 rw [At.1 h]
 kernel_rfl
theorem Tm.JU {x:Tm} (h:x.expr=true):x.names=true∨(x.eqn=true∧Tm.Em x.args=true):=by
 unfold Tm.expr Tm.valid at h
 cases hn:x.names with
 | true=>exact .inl rfl
 | false =>
  rw [hn,zM,y3] at h
  unfold Tm.atom at h
  split at h
  ·rename_i he
   rw [zA] at h
   exact .inr ⟨he,h.2⟩
  ·unfold Tm.valid at h; rw [hn,zM,zM] at h; cases h
theorem Tm.Y4 {x:Tm} (h:x.expr=true):Ao x.name=true→x.args=[]:=by
 intro hv
 rcases Tm.JU h with h1 | ⟨h1,h2⟩
 ·exact Tm.E7 h1 hv
 ·rw [Tm.Qbw h1] at hv; cases hv
theorem Tm.Js {x:Tm} (h:x.expr=true) {y:Tm} (hy:y∈x.args):y.names=true:=by
 rcases Tm.JU h with h1 | ⟨h1,h2⟩
 ·exact Tm.DU h1 hy
 ·rw [Tm.Dw,zO] at h2; exact h2 y hy
theorem Tm.SO:∀ xs:List Tm,(∀ x∈xs,x.nodes≤1+x.bulk)→Tm.Bf xs≤xs.length+Tm.sumB xs
 | [],_=>by simp [Tm.Bf]
 | x :: xs,h=>by
  have h1:=h x (by simp)
  have h2:=Tm.SO xs fun y hy=>h y (by simp [hy])
  rw [Tm.Bf,Tm.sumB]; simp only [zP]; omega
theorem Tm.SP (x:Tm):x.nodes≤1+x.bulk:=by
 rw [Tm.An,Tm.bulk_eq]
 have:=Tm.SO x.args fun y hy=>Tm.SP y
 omega
termination_by SizeOf.sizeOf x
decreasing_by exact Tm.lt_of_mem hy
theorem Vj {s:ByteArray} (h:Ao s=true):s.size≤6:=by
 unfold Ao inB at h
 simp at h
 omega
theorem Vk {s:ByteArray} (h:Fl s=true):s.size≤6:=by
 unfold Fl inB at h
 simp at h
 omega
theorem Tm.Nz:∀ xs:List Tm,(∀ x∈xs,x.bulk+1≤8*x.nodes)→xs.length+Tm.sumB xs≤8*Tm.Bf xs
 | [],_=>by simp [Tm.Bf,Tm.sumB]
 | x :: xs,h=>by
  have h1:=h x (by simp)
  have h2:=Tm.Nz xs fun y hy=>h y (by simp [hy])
  rw [Tm.Bf,Tm.sumB]; simp only [zP]; omega
theorem Tm.SQ (x:Tm) (h:x.names=true):x.bulk+1≤8*x.nodes:=by
 have h1:=Tm.Nz x.args fun y hy=>Tm.SQ y (Tm.DU h hy)
 have h2:x.name.size≤6:=by
  rw [Tm.EN] at h
  split at h
  ·rename_i hv; exact Vj hv
  ·rw [zA,zA] at h; exact Vk h.1.1
 rw [Tm.An,Tm.bulk_eq]
 omega
termination_by SizeOf.sizeOf x
decreasing_by exact Tm.lt_of_mem hy
theorem Qbx (x:Tm) (hn:x.nodes≤1099511627776):E 311 [x.sv] []=some (.bool x.expr,[]):=by
 have h1:=S7 x hn
 have h3:=S8 x hn
 unfold Tm.expr
 cases hv:x.valid with
 | true =>
  rw [hv] at h1
  rw [Bool.true_or]
  refine Ad Oo Fy (of_decide_eq_true rfl) ?_
  simp (disch:=omega) only [JP,go_sem,Aa,h1,Bg]
 | false =>
  rw [hv] at h1
  rw [y3]
  refine Ad Oo Fy (of_decide_eq_true rfl) ?_
  simp (disch:=omega) only [JP,go_sem,Aa,h1,h3,Bg,AV]
def CB:SC:=(.seq (.reg [⟨some 2,none,.boxv 142 1 (.t 0)⟩,⟨some 3,none,.boxv 33 2 (.t 1)⟩,⟨(some 4),none,(.alloc 33 [(.str ⟨#[]⟩),.nil])⟩,⟨some 5,none,.mv (.c (.bool false))⟩]) (.seq (.reg [⟨some 7,none,.load true 1 (.t 2)⟩,⟨some 8,none,.load true 2 (.t 3)⟩,⟨some 9,none,.call 276 [(.t 7),(.t 8)]⟩,⟨(some 6),none,(.alloc 33 [(.str ⟨#[]⟩),.nil])⟩,⟨none,none,(.store 2 (.t 6) (.t 9))⟩]) (.seq (.seq (.reg [⟨some 10,none,.load true 2 (.t 6)⟩,⟨some 11,none,.call 244 [(.t 10)]⟩,⟨some 12,none,.un .not (.t 11)⟩]) (.cond (.t 12) (.seq (.reg [⟨(some 13),none,(.build [(.str ⟨#[]⟩),.nil] [])⟩,⟨none,none,(.store 2 (.t 4) (.t 13))⟩,⟨some 5,none,.mv (.c (.bool false))⟩]) .ret) .skip)) (.seq (.reg [⟨some 14,none,.load true 2 (.t 6)⟩,⟨none,none,(.store 2 (.t 4) (.t 14))⟩,⟨some 5,none,.mv (.c (.bool true))⟩]) .ret))))
theorem Ec:codeOf Tryz.prog 207=some ⟨15,CB,[(.cell 4 true 2),(.tmp 5)]⟩:=by kernel_rfl
theorem Ab:modes 207=⟨[],.late,none,false⟩:=by unfold modes; rfl
def B5:SC:=(.seq (.reg [⟨some 2,none,.boxv 142 1 (.t 0)⟩,⟨some 3,none,.boxv 33 2 (.t 1)⟩,⟨(some 4),none,(.alloc 33 [(.str ⟨#[]⟩),.nil])⟩,⟨some 5,none,.mv (.c (.bool false))⟩]) (.seq (.seq (.reg [⟨some 7,none,.load true 1 (.t 2)⟩,⟨some 8,none,.call 310 [(.t 7)]⟩,⟨some 9,none,.un .not (.t 8)⟩,⟨some 10,none,.mv (.t 9)⟩,⟨(some 11),(some (10,false)),(.load true 2 (.t 3))⟩,⟨(some 12),(some (10,false)),(.call 311 [(.t 11)])⟩,⟨(some 13),(some (10,false)),(.un .not (.t 12))⟩,⟨some 14,none,.pick (.t 10) (.c (.bool true)) (.t 13)⟩]) (.cond (.t 14) (.seq (.reg [⟨(some 15),none,(.build [(.str ⟨#[]⟩),.nil] [])⟩,⟨none,none,(.store 2 (.t 4) (.t 15))⟩,⟨some 5,none,.mv (.c (.bool false))⟩]) .ret) .skip)) (.seq (.reg [⟨some 16,none,.load true 1 (.t 2)⟩,⟨some 17,none,.load true 2 (.t 3)⟩,⟨some 18,none,.call 173 [(.t 16),(.t 17)]⟩,⟨(some 6),none,(.alloc 33 [(.str ⟨#[]⟩),.nil])⟩,⟨none,none,(.store 2 (.t 6) (.t 18))⟩]) (.seq (.seq (.reg [⟨some 19,none,.load true 2 (.t 6)⟩,⟨some 20,none,.call 311 [(.t 19)]⟩,⟨some 21,none,.un .not (.t 20)⟩]) (.cond (.t 21) (.seq (.reg [⟨(some 22),none,(.build [(.str ⟨#[]⟩),.nil] [])⟩,⟨none,none,(.store 2 (.t 4) (.t 22))⟩,⟨some 5,none,.mv (.c (.bool false))⟩]) .ret) .skip)) (.seq (.reg [⟨some 23,none,.load true 2 (.t 6)⟩,⟨none,none,(.store 2 (.t 4) (.t 23))⟩,⟨some 5,none,.mv (.c (.bool true))⟩]) .ret)))))
theorem Cp:codeOf Tryz.prog 269=some ⟨24,B5,[(.cell 4 true 2),(.tmp 5)]⟩:=by kernel_rfl
theorem Ac:modes 269=⟨[],.frz,none,false⟩:=by unfold modes; rfl
noncomputable def BX (s:Sb) (x:Tm):Bool:=s.ok&&(x.expr&&(x.ap s.look).small)
noncomputable def AL (s:Sb) (x:Tm):Tm:=if BX s x then x.ap s.look else .mk ⟨#[]⟩ []
theorem WT {s:Sb} {x:Tm} (h:BX s x=false):AL s x=.mk ⟨#[]⟩ []:=by unfold AL; rw [if_neg (by rw [h]; simp)]
theorem Ew {s:Sb} {x:Tm} (h:BX s x=true):AL s x=x.ap s.look:=by unfold AL; rw [if_pos h]
theorem WU:(Tm.mk ⟨#[]⟩ []).sv=.agg [.str ⟨#[]⟩,.arr []]:=rfl
theorem Vl (s:Sb) (hs:s.ok=true) (ht:s.tame) (x:Tm) (hx:x.expr=true):E 276 [s.sv,x.sv] []=some ((x.ap s.look).osv,(x.ap s.look).obs):=by
 have hn:=Tm.As hx
 exact Y3 s (Sb.WS hs) ht x (Tm.Y4 hx) (by omega) fun y hy=>Qbv s hs ht y (Tm.Js hx hy) (by have:=Tm.AW hy; have:=Tm.An x; omega)
theorem BG (s:Sb) (hs:s.ok=true) (ht:s.tame) (x:Tm) (hx:x.expr=true) (ho:BX s x=true):E 207 [s.sv,x.sv] []=some (.tup [(AL s x).osv,.bool true],(AL s x).obs):=by
 have hn:=Tm.As hx
 have hk:=Tm.Jr (Sb.F3 hs) x
 have h1:=Vl s hs ht x hx
 have h2:=Mp (x.ap s.look) (by omega)
 have hq:(x.ap s.look).small=true:=by unfold BX at ho; rw [zA,zA] at ho; exact ho.2.2
 rw [hq] at h2
 rw [Ew ho]
 refine Ad Ec Ab (of_decide_eq_true rfl) ?_
 simp (disch:=omega) only [CB,go_sem,Aa,h1,h2,Tm.osv,Tm.obs,Bk,Aw]
theorem Cm (s:Sb) (hs:s.ok=true) (ht:s.tame) (x:Tm) (hx:x.expr=true) (ho:BX s x=false):E 207 [s.sv,x.sv] []=some (.tup [.agg [.str ⟨#[]⟩,.nil],.bool false],[]):=by
 have hn:=Tm.As hx
 have hk:=Tm.Jr (Sb.F3 hs) x
 have h1:=Vl s hs ht x hx
 have h2:=Mp (x.ap s.look) (by omega)
 have hq:(x.ap s.look).small=false:=by unfold BX at ho; rw [hs,hx,yG,yG] at ho; exact ho
 rw [hq] at h2
 refine Ad Ec Ab (of_decide_eq_true rfl) ?_
 simp (disch:=omega) only [CB,go_sem,Aa,h1,h2,Tm.osv,Tm.obs,Bk,Aw]
theorem AX (s:Sb) (ht:s.tame) (x:Tm) (hn:x.nodes≤1099511627776):E 269 [s.sv,x.sv] []=some (.tup [(AL s x).sv,.bool (BX s x)],[]):=by
 have h1:=Oz s ht
 have h2:=Qbx x hn
 cases hs:s.ok with
 | false =>
  have ho:BX s x=false:=by unfold BX; rw [hs]; rfl
  rw [hs] at h1
  rw [WT ho,ho,WU]
  refine Ad Cp Ac (of_decide_eq_true rfl) ?_
  simp (disch:=omega) only [B5,go_sem,Aa,h1,Co]
 | true =>
  rw [hs] at h1
  cases hx:x.expr with
  | false =>
   have ho:BX s x=false:=by unfold BX; rw [hx,yK,zM]
   rw [hx] at h2
   rw [WT ho,ho,WU]
   refine Ad Cp Ac (of_decide_eq_true rfl) ?_
   simp (disch:=omega) only [B5,go_sem,Aa,h1,h2,Co,Fy]
  | true =>
   rw [hx] at h2
   have hn:=Tm.As hx
   have hk:=Tm.Jr (Sb.F3 hs) x
   have h3:=P6 s hs ht x (by omega)
   have h4:=Qbx (x.ap s.look) (by omega)
   have h5:(x.ap s.look).expr=(x.ap s.look).small:=Tm.Qd9 (Sb.F3 hs) x hx
   rw [h5] at h4
   cases hq:(x.ap s.look).small with
   | true =>
    have ho:BX s x=true:=by unfold BX; rw [hs,hx,hq]; rfl
    rw [hq] at h4
    rw [Ew ho,ho]
    refine Ad Cp Ac (of_decide_eq_true rfl) ?_
    simp (disch:=omega) only [B5,go_sem,Aa,h1,h2,h3,h4,Co,Fy,AH]
   | false =>
    have ho:BX s x=false:=by unfold BX; rw [hq,zM,zM]
    rw [hq] at h4
    rw [WT ho,ho,WU]
    refine Ad Cp Ac (of_decide_eq_true rfl) ?_
    simp (disch:=omega) only [B5,go_sem,Aa,h1,h2,h3,h4,Co,Fy,AH]
theorem Tm.Cn {x:Tm} (h:x.atom=true):x.expr=true:=by unfold Tm.expr; rw [h,Bool.or_true]
theorem Tm.CO {x:Tm} (h:x.atom=true):x.nodes≤30:=Tm.As (Tm.Cn h)
def GN:SC:=(.seq (.reg [⟨some 1,none,.boxv 60 1 (.t 0)⟩,⟨some 2,none,.alloc 60 [.nil]⟩,⟨some 3,none,.mv (.c (.bool false))⟩]) (.seq (.seq (.reg [⟨some 4,none,.load true 1 (.t 1)⟩,⟨some 5,none,.call 147 [(.t 4)]⟩,⟨some 6,none,.un .not (.t 5)⟩]) (.cond (.t 6) (.seq (.reg [⟨some 7,none,.build [.nil] []⟩,⟨none,none,(.store 1 (.t 2) (.t 7))⟩,⟨some 3,none,.mv (.c (.bool false))⟩]) .ret) .skip)) (.seq (.reg [⟨some 8,none,.load true 1 (.t 1)⟩,⟨none,none,(.store 1 (.t 2) (.t 8))⟩,⟨some 3,none,.mv (.c (.bool true))⟩]) .ret)))
theorem Kv:codeOf Tryz.prog 284=some ⟨9,GN,[(.cell 2 true 1),(.tmp 3)]⟩:=by kernel_rfl
theorem CY:modes 284=⟨[true],.own [some (122,3),none],none,false⟩:=by unfold modes; rfl
def Dn:SC:=(.seq (.reg [⟨some 2,none,.boxv 142 1 (.t 0)⟩,⟨some 4,none,.alloc 60 [.nil]⟩,⟨some 5,none,.mv (.c (.bool false))⟩]) (.seq (.reg [⟨(some 11),none,(.mkrow 122 3 [(.bool false),(.str ⟨#[]⟩),.nil] 0 [])⟩,⟨some 6,none,.mv (.t 11)⟩]) (.seq (.seq (.reg [⟨some 12,none,.mv (.t 1)⟩,⟨some 13,none,.len false (.t 12)⟩,⟨some 14,none,.mv (.c (.int .i64 0))⟩]) (.block 0 (.loop [0,0,1,0,1,0,1,0,0,0,0,0,1,1,1,0,0,0,0,0,0,0,0,0,0,0,0,0,0,0,0,0,0,0,0,0,0,0,0,0,0] (.seq (.reg [⟨some 15,none,.bin .lss false (.t 14) (.t 13)⟩]) (.seq (.cond (.t 15) .skip (.exit 0)) (.seq (.block 1 (.seq (.reg [⟨some 16,none,.iaddr 3 (.t 12) (.t 14)⟩,⟨some 17,none,.load true 3 (.t 16)⟩,⟨(some 8),none,(.alloc 122 [(.bool false),(.str ⟨#[]⟩),.nil])⟩,⟨none,none,(.store 3 (.t 8) (.t 17))⟩]) (.seq (.reg [⟨some 19,none,.load true 1 (.t 2)⟩,⟨some 20,none,.faddr 1 (.t 8)⟩,⟨some 21,none,.load true 2 (.t 20)⟩,⟨some 22,none,.call 207 [(.t 19),(.t 21)]⟩,⟨some 18,none,.mv (.t 22)⟩,⟨some 23,none,.ext (.t 18) 0⟩,⟨some 24,none,.ext (.t 18) 1⟩,⟨(some 9),none,(.alloc 33 [(.str ⟨#[]⟩),.nil])⟩,⟨none,none,(.store 2 (.t 9) (.t 23))⟩,⟨some 10,none,.mv (.t 24)⟩]) (.seq (.seq (.reg [⟨some 25,none,.mv (.t 10)⟩,⟨some 26,none,.un .not (.t 25)⟩]) (.cond (.t 26) (.seq (.reg [⟨some 27,none,.build [.nil] []⟩,⟨none,none,(.store 1 (.t 4) (.t 27))⟩,⟨some 5,none,.mv (.c (.bool false))⟩]) .ret) .skip)) (.reg [⟨some 28,none,.mv (.t 6)⟩,⟨some 29,none,.faddr 0 (.t 8)⟩,⟨some 30,none,.load false 1 (.t 29)⟩,⟨some 31,none,.load true 2 (.t 9)⟩,⟨(some 32),none,(.build [(.bool false),(.str ⟨#[]⟩),.nil] [(0,(1,(.t 30))),(1,(2,(.t 31)))])⟩,⟨(some 33),none,(.mkrow 122 3 [(.bool false),(.str ⟨#[]⟩),.nil] 1 [(0,(.t 32))])⟩,⟨(some 34),none,(.append 122 3 48 [(.bool false),(.str ⟨#[]⟩),.nil] (.t 28) (.t 33))⟩,⟨some 6,none,.mv (.t 34)⟩]))))) (.reg [⟨some 35,none,.bin .add false (.t 14) (.c (.int .i64 1))⟩,⟨some 14,none,.mv (.t 35)⟩]))))))) (.seq (.reg [⟨some 36,none,.mv (.t 6)⟩,⟨some 37,none,.call 222 [(.t 36)]⟩,⟨some 38,none,.call 284 [(.t 37)]⟩,⟨some 39,none,.ext (.t 38) 0⟩,⟨some 40,none,.ext (.t 38) 1⟩,⟨none,none,(.store 1 (.t 4) (.t 39))⟩,⟨some 5,none,.mv (.t 40)⟩]) .ret))))
theorem FI:codeOf Tryz.prog 212=some ⟨41,Dn,[(.cell 4 true 1),(.tmp 5)]⟩:=by kernel_rfl
theorem Bv:modes 212=⟨[],.own [some (122,3),none],none,false⟩:=by unfold modes; rfl
def Ls:SC:=(.seq (.reg [⟨some 2,none,.boxv 142 1 (.t 0)⟩,⟨some 4,none,.alloc 60 [.nil]⟩,⟨some 5,none,.mv (.c (.bool false))⟩]) (.seq (.reg [⟨(some 10),none,(.mkrow 122 3 [(.bool false),(.str ⟨#[]⟩),.nil] 0 [])⟩,⟨some 6,none,.mv (.t 10)⟩]) (.seq (.seq (.reg [⟨some 7,none,.mv (.c (.int .i64 0))⟩]) (.block 0 (.loop [0,1,1,0,1,0,1,1,0,0,0,0,0,0,0,0,0,0,0,0,0,0,0,0,0,0,0,0,0,0,0,0,0,0,0,0,0,0,0,0,0,0,0,0,0] (.seq (.seq (.reg [⟨some 11,none,.mv (.t 7)⟩,⟨some 12,none,.mv (.t 1)⟩,⟨some 13,none,.len false (.t 12)⟩,⟨some 14,none,.bin .lss false (.t 11) (.t 13)⟩]) (.cond (.t 14) .skip (.exit 0))) (.seq (.block 1 (.seq (.dreg [[],[],[],[1,2],[3,1,2],[4,3,1,2],[0,5,4,3,1,2],[],[7,6,0,5,4,3,1,2]] [⟨some 17,none,.load true 1 (.t 2)⟩,⟨some 18,none,.mv (.t 1)⟩,⟨some 19,none,.mv (.t 7)⟩,⟨some 20,none,.iaddr 3 (.t 18) (.t 19)⟩,⟨some 21,none,.faddr 1 (.t 20)⟩,⟨some 22,none,.load true 2 (.t 21)⟩,⟨some 23,none,.call 173 [(.t 17),(.t 22)]⟩,⟨(some 8),none,(.alloc 33 [(.str ⟨#[]⟩),.nil])⟩,⟨none,none,(.store 2 (.t 8) (.t 23))⟩]) (.seq (.seq (.reg [⟨some 24,none,.load true 2 (.t 8)⟩,⟨some 25,none,.call 194 [(.t 24)]⟩,⟨some 26,none,.un .not (.t 25)⟩]) (.cond (.t 26) (.seq (.reg [⟨some 27,none,.build [.nil] []⟩,⟨none,none,(.store 1 (.t 4) (.t 27))⟩,⟨some 5,none,.mv (.c (.bool false))⟩]) .ret) .skip)) (.dreg [[],[],[],[1,2],[3,1,2],[4,3,1,2],[],[5,4,3,1,2,6],[7,5,4,3,1,2,6],[0,8,7,5,4,3,1,2,6],[9,0,8,7,5,4,3,1,2,6]] [⟨some 28,none,.mv (.t 6)⟩,⟨some 29,none,.mv (.t 1)⟩,⟨some 30,none,.mv (.t 7)⟩,⟨some 31,none,.iaddr 3 (.t 29) (.t 30)⟩,⟨some 32,none,.faddr 0 (.t 31)⟩,⟨some 33,none,.load false 1 (.t 32)⟩,⟨some 34,none,.load true 2 (.t 8)⟩,⟨(some 35),none,(.build [(.bool false),(.str ⟨#[]⟩),.nil] [(0,(1,(.t 33))),(1,(2,(.t 34)))])⟩,⟨(some 36),none,(.mkrow 122 3 [(.bool false),(.str ⟨#[]⟩),.nil] 1 [(0,(.t 35))])⟩,⟨(some 37),none,(.append 122 3 48 [(.bool false),(.str ⟨#[]⟩),.nil] (.t 28) (.t 36))⟩,⟨some 6,none,.mv (.t 37)⟩])))) (.reg [⟨some 15,none,.mv (.t 7)⟩,⟨some 16,none,.bin .add false (.t 15) (.c (.int .i64 1))⟩,⟨some 7,none,.mv (.t 16)⟩])))))) (.seq (.reg [⟨some 38,none,.mv (.t 6)⟩,⟨some 39,none,.call 218 [(.t 38)]⟩,⟨some 9,none,.alloc 60 [.nil]⟩,⟨none,none,(.store 1 (.t 9) (.t 39))⟩]) (.seq (.seq (.reg [⟨some 40,none,.load true 1 (.t 9)⟩,⟨some 41,none,.call 143 [(.t 40)]⟩,⟨some 42,none,.un .not (.t 41)⟩]) (.cond (.t 42) (.seq (.reg [⟨some 43,none,.build [.nil] []⟩,⟨none,none,(.store 1 (.t 4) (.t 43))⟩,⟨some 5,none,.mv (.c (.bool false))⟩]) .ret) .skip)) (.seq (.reg [⟨some 44,none,.load true 1 (.t 9)⟩,⟨none,none,(.store 1 (.t 4) (.t 44))⟩,⟨some 5,none,.mv (.c (.bool true))⟩]) .ret))))))
theorem SR:codeOf Tryz.prog 271=some ⟨45,Ls,[(.cell 4 true 1),(.tmp 5)]⟩:=by kernel_rfl
theorem F5:modes 271=⟨[],.frz,none,false⟩:=by unfold modes; rfl
theorem WV (c:Cl) (hn:c.tame) (hv:c.ok=true):E 284 [c.osv] c.obs=some (.tup [c.osv,.bool true],c.obs):=by
 have h:=GM c hn
 rw [hv] at h
 refine Ad Kv CY (of_decide_eq_true rfl) ?_
 simp (disch:=omega) only [GN,go_sem,Aa,h,Cv,Lt.erss,Lt.noss,Lt.fus]
theorem Y5 (c:Cl) (hn:c.tame) (hv:c.ok=false):E 284 [c.osv] c.obs=some (.tup [.agg [.ref 1],.bool false],[.row 122 3 (c.lits.map Lt.o),.row 122 3 []]):=by
 have h:=GM c hn
 rw [hv] at h
 refine Ad Kv CY (of_decide_eq_true rfl) ?_
 simp (disch:=omega) only [GN,go_sem,Aa,h,Cv,Lt.erss,Lt.noss,Lt.fus]
theorem P7 {s:ByteArray} (h:Fl s=true):Ao s=false:=by
 unfold Fl inB at h
 rw [zA,zA,zA,decide_eq_true_eq,decide_eq_true_eq] at h
 have hs:0<s.size:=by omega
 have h1:=H9 h.1.1 hs
 unfold KV at h1
 simp at h1
 have h2:=h1.1
 have hu:Sj (Kn s 0)=false:=by
  unfold Wh at h2
  unfold Sj
  simp at h2 ⊢
  omega
 rw [Bool.eq_false_iff]
 intro hv
 unfold Ao at hv
 rw [zA] at hv
 have h1:=H9 hv.1 hs
 unfold Ko at h1
 rw [hu] at h1
 simp at h1
theorem Tm.Qby {f:ByteArray→Option Tm} (hf:okF f) (x:Tm) (hx:x.atom=true):(x.ap f).atom=(x.ap f).small:=by
 unfold Tm.atom at hx
 rcases he:x.eqn with _ | _
 ·rw [he,if_neg (by simp),zA] at hx
  have hnv:¬ (Ao x.name=true):=by rw [P7 hx.1]; simp
  have e:x.ap f=.mk x.name (Tm.apL f x.args):=by rw [Tm.Ir,if_neg hnv]
  have he2:¬ (x.ap f).eqn=true:=by rw [e]; show ¬ x.eqn=true; rw [he]; simp
  have hn:x.names=true:=by
   have:=hx.2
   unfold Tm.valid at this
   rw [zA] at this
   exact this.2
  have h3:=Tm.Lp hf x hn
  unfold Tm.atom
  rw [if_neg he2]
  unfold Tm.valid
  rw [h3,yJ]
  have hname:(x.ap f).name=x.name:=by rw [e]; rfl
  rw [hname,hx.1,yG]
 ·rw [he,if_pos rfl,zA,zA] at hx
  have hnv:¬ (Ao x.name=true):=by rw [Tm.Qbw he]; simp
  have e:x.ap f=.mk x.name (Tm.apL f x.args):=by rw [Tm.Ir,if_neg hnv]
  have he2:(x.ap f).eqn=true:=by rw [e]; exact he
  unfold Tm.atom
  rw [if_pos he2]
  have h1:((x.ap f).args.length == 2)=true:=by
   rw [e]
   show ((Tm.apL f x.args).length == 2)=true
   rw [Tm.Rr]; exact hx.1.1
  have h2:Tm.Em (x.ap f).args=true:=by
   rw [e]
   exact Tm.O2 f x.args fun y hy=>Tm.Lp hf y (by
    have:=hx.2
    rw [Tm.Dw,zO] at this
    exact this y hy)
  rw [h1,h2,yG,yJ]
noncomputable def Lt.ap (s:Sb) (x:Lt):Lt:=⟨x.pos,x.atom.ap s.look⟩
noncomputable def SS (s:Sb) (l:List Lt):Bool:=l.all fun x=>(x.atom.ap s.look).small
noncomputable def ED (s:Sb) (l:List Lt):Bool:=SS s l&&(mkC (l.map (Lt.ap s))).ok
noncomputable def apC (s:Sb) (l:List Lt):Cl:=if ED s l then mkC (l.map (Lt.ap s)) else ⟨[]⟩
theorem P8 {s:Sb} {l:List Lt} (h:ED s l=false):apC s l=⟨[]⟩:=by unfold apC; rw [if_neg (by rw [h]; simp)]
theorem WW {s:Sb} {l:List Lt} (h:ED s l=true):apC s l=mkC (l.map (Lt.ap s)):=by unfold apC; rw [if_pos h]
theorem Lt.Qbz {s:Sb} (hs:s.ok=true) {x:Lt} (hx:x.atom.atom=true) (hq:(x.atom.ap s.look).small=true):(x.ap s).fine:=by
 have ha:(x.atom.ap s.look).atom=true:=by rw [Tm.Qby (Sb.F3 hs) _ hx]; exact hq
 exact ⟨Tm.HD ha,by
              have:(Lt.ap s x).atom.nodes≤30:=Tm.CO ha
              omega⟩
theorem Y6 {l:List Lt} (hl:l.length≤1048576) (hf:∀ x∈l,x.fine):(mkC l).tame:=by
 have:=Qbq l
 exact ⟨by omega,fun y hy=>(hf y ((Rq l y).1 hy)).2⟩
theorem Vm:(Cl.mk []).osv=.agg [.ref 0]:=rfl
theorem Vn:(Cl.mk []).obs=[.row 122 3 []]:=rfl
theorem Y7:(Cl.mk []).sv=.agg [.arr []]:=rfl
theorem Ud (s:Sb) (hs:s.ok=true) (ht:s.tame) (l:List Lt) (hl:l.length≤1048576) (hal:∀ x∈l,x.atom.atom=true):E 212 [s.sv,.arr (l.map Lt.d)] []=some (.tup [(apC s l).osv,.bool (ED s l)],(apC s l).obs):=by
 have her:OT.erss (l.map (fun x:Lt=>(Lt.ap s x).d.map D.ot))=(l.map (Lt.ap s)).map Lt.d:=by
  have:=Lt.der (l.map (Lt.ap s))
  rw [yQ] at this
  exact this
 have hfu:OT.AA (l.map (fun x:Lt=>(Lt.ap s x).d.map D.ot))=true:=by
  have:=Lt.dfu (l.map (Lt.ap s))
  rw [yQ] at this
  exact this
 refine Ad FI Bv (of_decide_eq_true rfl) ?_
 simp (disch:=omega) only [Dn,go_sem,Aa]
 refine go_loop (α:=Int) (fun a=>⟨slots 41 0 [(2,.ptr 0 0),(4,.ptr 1 0),(6,.ref 2),(12,.arr (l.map Lt.d)),(13,.int .i64 l.length),(14,.int .i64 a)],[.box 142 [.arr (s.binds.map Bd.d)],.box 60 [.nil],.row 122 3 ((l.take a.toNat).map (fun x:Lt=>(Lt.ap s x).d.map D.ot))]⟩) (fun a=>∃ k:Nat,a=k∧k≤(l).length∧∀ x∈l.take k,(x.atom.ap s.look).small=true) (fun a=>(l).length-(a).toNat) 0 ⟨0,rfl,zH _,fun x hx=>by simp at hx⟩ (by simp (disch:=omega) only [go_sem,Aa,yC]) ?_
 rintro i ⟨k,hi,hk,hR⟩
 have hni:i.toNat=k:=by omega
 have hni1:(i+1).toNat=k+1:=by omega
 rcases zB k (l).length with hlt | hge
 ·have hg:=get_at Lt.d hlt
  rw [Lt.d_eq] at hg
  have hat:=hal l[k] (zD hlt)
  have hex:=Tm.Cn hat
  have hsn:=DK (fun x:Lt=>(Lt.ap s x).d.map D.ot) hlt
  have hs1:[[OT.bool l[k].pos,.str (l[k].atom.ap s.look).name,.sh ((l[k].atom.ap s.look).args.map Tm.d)]]=[(fun x:Lt=>(Lt.ap s x).d.map D.ot) l[k]]:=by simp only [Lt.d_eq]; rfl
  have htl:(l.take k).length=k:=by rw [zQ]; omega
  cases hq:(l[k].atom.ap s.look).small with
  | true =>
   have ha:=BG s hs ht l[k].atom hex (by unfold BX; rw [hs,hex,hq]; rfl)
   rw [Ew (by unfold BX; rw [hs,hex,hq]; rfl)] at ha
   simp (disch:=omega) only [go_sem,Aa,hni,hg,ha,htl,Ab,CX,CY]
   refine ⟨i+1,⟨k+1,by omega,hlt,fun x hx=>?_⟩,by omega,?_⟩
   ·rcases yV.1 (by rw [yF hlt] at hx; exact hx) with hx | hx
    ·exact hR x hx
    ·rw [yX.1 hx]; exact hq
   ·simp (disch:=omega) only [go_sem,Aa,hni1,hs1,hsn,and_self]
  | false =>
   have ha:=Cm s hs ht l[k].atom hex (by unfold BX; rw [hq,zM,zM])
   have hno:ED s l=false:=by
    unfold ED SS
    rw [show (l.all fun x=>(x.atom.ap s.look).small)=false from ?_,yK]
    rw [List.all_eq_false]
    exact ⟨l[k],zD hlt,by rw [hq]; simp⟩
   rw [P8 hno,hno,Vm,Vn]
   simp (disch:=omega) only [go_sem,Aa,hni,hg,ha,Ab,CX,CY]
 ·obtain rfl:k=l.length:=by omega
  have htk:l.take l.length=l:=zR
  rw [htk] at hR
  have hal2:SS s l=true:=by unfold SS; rw [zO]; exact hR
  have hfine:∀ x∈l.map (Lt.ap s),x.fine:=fun x hx=>by
   obtain ⟨y,hy,rfl⟩:=yR.1 hx
   exact Lt.Qbz hs (hal y hy) (hR y hy)
  have hlen:(l.map (Lt.ap s)).length≤1048576:=by rw [zC]; exact hl
  have hc:=SE (l.map (Lt.ap s)) hlen hfine
  have htm:=Y6 hlen hfine
  cases hv:(mkC (l.map (Lt.ap s))).ok with
  | true =>
   have hok:ED s l=true:=by unfold ED; rw [hal2,hv]; rfl
   have hi2:=WV _ htm hv
   rw [WW hok,hok]
   simp (disch:=omega) only [go_sem,Aa,hni,htk,hc,hi2,her,hfu,Lt.noss,Ab,CX,CY]
  | false =>
   have hok:ED s l=false:=by unfold ED; rw [hv,zM]
   have hi2:=Y5 _ htm hv
   rw [P8 hok,hok,Vm,Vn]
   simp (disch:=omega) only [go_sem,Aa,hni,htk,hc,hi2,her,hfu,Lt.noss,Ab,CX,CY]
theorem Tm.Gb {x:Tm} (h:x.atom=true):(Ao x.name=true→x.args=[])∧∀ y∈x.args,y.names=true:=by
 unfold Tm.atom at h
 cases he:x.eqn with
 | true =>
  rw [he,if_pos rfl,zA,zA] at h
  have h2:=h.2
  rw [Tm.Dw,zO] at h2
  refine ⟨fun hv=>?_,h2⟩
  have hn:=At.1 he
  have hnv0:Ao ⟨#[61]⟩=false:=by kernel_rfl
  rw [hn,hnv0] at hv
  cases hv
 | false =>
  rw [he,if_neg (by simp),zA] at h
  have hnm:x.names=true:=by have h3:=h.2; unfold Tm.valid at h3; rw [zA] at h3; exact h3.2
  exact ⟨fun hv=>Tm.E7 hnm hv,fun y hy=>Tm.DU hnm hy⟩
mutual
noncomputable def Tm.vs:Tm→List ByteArray
 | .mk name args=>bif Ao name then [name] else Tm.vsL args
noncomputable def Tm.vsL:List Tm→List ByteArray
 | []=>[]
 | x :: xs=>Tm.vs x++Tm.vsL xs
end
theorem Tm.FN (x:Tm):x.vs=bif Ao x.name then [x.name] else Tm.vsL x.args:=by
 obtain ⟨n,a⟩:=x
 rw [Tm.vs]; rfl
theorem Tm.vsL_mem {v:ByteArray}:∀ {xs:List Tm},v∈Tm.vsL xs ↔ ∃ x∈xs,v∈x.vs
 | []=>by simp [Tm.vsL]
 | x :: xs=>by rw [Tm.vsL,yV,Tm.vsL_mem (xs:=xs)]; simp
theorem Tm.Qb0:∀ xs:List Tm,(∀ x∈xs,x.vs.length≤x.nodes)→(Tm.vsL xs).length≤Tm.Bf xs
 | [],_=>by simp [Tm.vsL]
 | x :: xs,h=>by
  have h1:=h x (by simp)
  have h2:=Tm.Qb0 xs fun y hy=>h y (by simp [hy])
  rw [Tm.vsL,Tm.Bf,yI]; omega
theorem Tm.vs_len (x:Tm):x.vs.length≤x.nodes:=by
 have h:=Tm.Qb0 x.args fun y hy=>Tm.vs_len y
 rw [Tm.FN,Tm.An]
 cases Ao x.name with
 | true=>simp
 | false=>simp only [cond_false]; omega
termination_by SizeOf.sizeOf x
decreasing_by exact Tm.lt_of_mem hy
noncomputable def M0 (l:List ByteArray) (n:ByteArray):List ByteArray:=bif dec (n∈l) then l else l++[n]
theorem QdA (l:List ByteArray) (n:ByteArray):(M0 l n).length≤l.length+1:=by
 unfold M0
 cases dec (n∈l) <;> simp
theorem QdB {l:List ByteArray} {n m:ByteArray}:m∈M0 l n ↔ m∈l∨m=n:=by
 unfold M0
 by_cases h:n∈l
 ·rw [Ar h,cond_true]
  exact ⟨.inl,fun h'=>h'.elim id fun e=>e▸h⟩
 ·rw [Ax h,cond_false]
  simp
theorem Qau {l:List ByteArray} {n:ByteArray} (h:l.Nodup):(M0 l n).Nodup:=by
 unfold M0
 by_cases k:n∈l
 ·rw [Ar k]; exact h
 ·rw [Ax k,cond_false,List.nodup_append]
  exact ⟨h,by simp,fun a ha b hb e=>by simp at hb; subst hb; subst e; exact k ha⟩
noncomputable def C7 (l ns:List ByteArray):List ByteArray:=ns.foldl M0 l
theorem Jt:∀ (ns l:List ByteArray),(C7 l ns).length≤l.length+ns.length
 | [],l=>by simp [C7]
 | n :: ns,l=>by
  have h:=Jt ns (M0 l n)
  have h2:=QdA l n
  simp only [C7,zX,zP] at h ⊢
  omega
theorem Y8:∀ {ns l:List ByteArray} {m:ByteArray},m∈C7 l ns ↔ m∈l∨m∈ns
 | [],l,m=>by simp [C7]
 | n :: ns,l,m=>by
  have h:=Y8 (ns:=ns) (l:=M0 l n) (m:=m)
  simp only [C7,zX] at h ⊢
  rw [h,QdB]
  simp only [yH]
  exact or_assoc
theorem ST:∀ {ns l:List ByteArray},l.Nodup→(C7 l ns).Nodup
 | [],l,h=>h
 | n :: ns,l,h=>ST (ns:=ns) (Qau h)
theorem O3 (l a b:List ByteArray):C7 l (a++b)=C7 (C7 l a) b:=y2
def DL:SC:=(.seq (.reg [⟨some 4,none,.mv (.c (.int .i64 0))⟩]) (.seq (.seq (.reg [⟨some 6,none,.mv (.t 0)⟩,⟨some 7,none,.len false (.t 6)⟩,⟨some 8,none,.mv (.c (.int .i64 0))⟩]) (.block 0 (.loop [1,1,0,0,0,0,0,1,1,0,0,0,0,0,0,0,0,0,0] (.seq (.reg [⟨some 9,none,.bin .lss false (.t 8) (.t 7)⟩]) (.seq (.cond (.t 9) .skip (.exit 0)) (.seq (.block 1 (.seq (.reg [⟨some 10,none,.mv (.t 8)⟩,⟨some 5,none,.mv (.t 10)⟩]) (.seq (.reg [⟨some 11,none,.mv (.t 1)⟩,⟨some 12,none,.mv (.t 0)⟩,⟨some 13,none,.mv (.t 5)⟩,⟨some 14,none,.iaddr 1 (.t 12) (.t 13)⟩,⟨some 15,none,.load false 1 (.t 14)⟩,⟨some 16,none,.bin .eql false (.t 11) (.t 15)⟩]) (.cond (.t 16) (.seq (.reg [⟨some 17,none,.mv (.t 5)⟩,⟨some 4,none,.mv (.t 17)⟩]) .ret) .skip)))) (.reg [⟨some 18,none,.bin .add false (.t 8) (.c (.int .i64 1))⟩,⟨some 8,none,.mv (.t 18)⟩]))))))) (.seq (.reg [⟨some 4,none,.mv (.c (.int .i64 (-(0+1))))⟩]) .ret)))
theorem GO:codeOf Tryz.prog 259=some ⟨19,DL,[(.tmp 4)]⟩:=by kernel_rfl
theorem DM:modes 259=⟨[],.asis,none,false⟩:=by unfold modes; rfl
def Do:SC:=(.seq (.reg [⟨some 4,none,.mv (.c (.bool false))⟩]) (.seq (.reg [⟨some 5,none,.mv (.t 0)⟩,⟨some 6,none,.mv (.t 1)⟩,⟨some 7,none,.call 259 [(.t 5),(.t 6)]⟩,⟨some 8,none,.bin .geq false (.t 7) (.c (.int .i64 0))⟩,⟨some 4,none,.mv (.t 8)⟩]) .ret))
theorem FJ:codeOf Tryz.prog 185=some ⟨9,Do,[(.tmp 4)]⟩:=by kernel_rfl
theorem Cd:modes 185=⟨[],.asis,none,false⟩:=by unfold modes; rfl
theorem QdC (xs:List ByteArray) (n:ByteArray) (hl:xs.length≤1099511627776):E 259 [.arr (xs.map fun s=>[D.str s]),.str n] []=some (.int .i64 (E4 (fun s=>dec (n=s)) xs 0),[]):=by
 refine Ad GO DM (of_decide_eq_true rfl) ?_
 simp (disch:=omega) only [DL,go_sem,Aa]
 refine go_loop (α:=Int) (fun a=>⟨slots 19 0 [(0,.arr (xs.map fun s=>[D.str s])),(1,.str n),(7,.int .i64 xs.length),(8,.int .i64 a)],[]⟩) (fun a=>∃ k:Nat,a=k∧k≤(xs).length∧E4 (fun s=>dec (n=s)) (xs.drop k) a=E4 (fun s=>dec (n=s)) xs 0) (fun a=>(xs).length-(a).toNat) 0 ⟨0,rfl,zH _,by rw [zJ]⟩ (by simp (disch:=omega) only [go_sem,Aa]) ?_
 rintro i ⟨k,hi,hk,hR⟩
 have hni:i.toNat=k:=by omega
 have hni1:(i+1).toNat=k+1:=by omega
 rcases zB k (xs).length with hlt | hge
 ·have hg:=get_at (fun s=>[D.str s]) hlt
  rw [zE hlt,E4] at hR
  cases hp:dec (n=xs[k]) with
  | true =>
   rw [hp] at hR
   simp (disch:=omega) only [go_sem,Aa,hni,hg,hp]
   simpa using hR
  | false =>
   rw [hp] at hR
   simp (disch:=omega) only [go_sem,Aa,hni,hg,hp]
   exact ⟨i+1,⟨k+1,by omega,hlt,by simpa using hR⟩,by omega,by first | trivial | rfl⟩
 ·rw [zG hge,E4] at hR
  simp (disch:=omega) only [go_sem,Aa,hni]
  exact hR
theorem Y9 (xs:List ByteArray) (n:ByteArray) (hl:xs.length≤1099511627776):E 185 [.arr (xs.map fun s=>[D.str s]),.str n] []=some (.bool (dec (n∈xs)),[]):=by
 have h:=QdC xs n hl
 have e:dec (n∈xs)=dec (0≤E4 (fun s=>dec (n=s)) xs 0):=by
  rw [Oi]
  by_cases hm:n∈xs
  ·rw [Ar hm]
   exact (List.any_eq_true.2 ⟨n,hm,Ar rfl⟩).symm
  ·rw [Ax hm]
   refine Eq.symm (Bool.eq_false_iff.2 fun h=>?_)
   obtain ⟨x,h1,h2⟩:=List.any_eq_true.1 h
   have e:=At.1 h2
   subst e
   exact hm h1
 rw [e]
 refine Ad FJ Cd (of_decide_eq_true rfl) ?_
 simp (disch:=omega) only [Do,go_sem,Aa,h,DM]
theorem P9:∀ (ns l:List ByteArray),l.length≤(C7 l ns).length
 | [],l=>by simp [C7]
 | n :: ns,l=>by
  have h:=P9 ns (M0 l n)
  have h2:l.length≤(M0 l n).length:=by unfold M0; cases dec (n∈l) <;> simp
  simp only [C7,zX] at h ⊢
  omega
def Ex:SC:=(.seq (.reg [⟨some 3,none,.boxv 33 2 (.t 1)⟩,⟨some 4,none,.mv (.c .nil)⟩]) (.seq (.seq (.reg [⟨some 7,none,.faddr 1 (.t 3)⟩,⟨some 8,none,.load false 1 (.t 7)⟩,⟨some 9,none,.len false (.t 8)⟩,⟨some 10,none,.bin .eql false (.t 9) (.c (.int .i64 0))⟩,⟨some 11,none,.mv (.t 10)⟩,⟨(some 12),(some (11,true)),(.load true 2 (.t 3))⟩,⟨(some 13),(some (11,true)),(.call 209 [(.t 12)])⟩,⟨some 14,none,.pick (.t 11) (.t 13) (.c (.bool false))⟩]) (.cond (.t 14) (.seq (.seq (.reg [⟨some 15,none,.mv (.t 0)⟩,⟨some 16,none,.faddr 0 (.t 3)⟩,⟨some 17,none,.load false 1 (.t 16)⟩,⟨some 18,none,.call 185 [(.t 15),(.t 17)]⟩,⟨some 19,none,.un .not (.t 18)⟩]) (.cond (.t 19) (.reg [⟨some 20,none,.mv (.t 0)⟩,⟨some 21,none,.faddr 0 (.t 3)⟩,⟨some 22,none,.load false 1 (.t 21)⟩,⟨(some 23),none,(.mkrow 9 1 [(.str ⟨#[]⟩)] 1 [(0,(.t 22))])⟩,⟨(some 24),none,(.append 9 1 16 [(.str ⟨#[]⟩)] (.t 20) (.t 23))⟩,⟨some 0,none,.mv (.t 24)⟩]) .skip)) (.seq (.reg [⟨some 25,none,.mv (.t 0)⟩,⟨some 4,none,.mv (.t 25)⟩]) .ret)) .skip)) (.seq (.seq (.reg [⟨some 26,none,.faddr 1 (.t 3)⟩,⟨some 27,none,.load false 1 (.t 26)⟩,⟨some 28,none,.len false (.t 27)⟩,⟨some 29,none,.mv (.c (.int .i64 0))⟩]) (.block 0 (.loop [1,0,0,0,0,0,0,0,0,0,0,0,0,0,0,0,0,0,0,0,0,0,0,0,0,0,0,1,1,1,0,0,0,0,0,0,0,0] (.seq (.reg [⟨some 30,none,.bin .lss false (.t 29) (.t 28)⟩]) (.seq (.cond (.t 30) .skip (.exit 0)) (.seq (.block 1 (.seq (.reg [⟨some 31,none,.iaddr 2 (.t 27) (.t 29)⟩,⟨some 32,none,.load true 2 (.t 31)⟩,⟨(some 6),none,(.alloc 33 [(.str ⟨#[]⟩),.nil])⟩,⟨none,none,(.store 2 (.t 6) (.t 32))⟩]) (.reg [⟨some 33,none,.mv (.t 0)⟩,⟨some 34,none,.load true 2 (.t 6)⟩,⟨some 35,none,.call 193 [(.t 33),(.t 34)]⟩,⟨some 0,none,.mv (.t 35)⟩]))) (.reg [⟨some 36,none,.bin .add false (.t 29) (.c (.int .i64 1))⟩,⟨some 29,none,.mv (.t 36)⟩]))))))) (.seq (.reg [⟨some 37,none,.mv (.t 0)⟩,⟨some 4,none,.mv (.t 37)⟩]) .ret))))
theorem F6:codeOf Tryz.prog 193=some ⟨38,Ex,[(.tmp 4)]⟩:=by kernel_rfl
theorem Dx:modes 193=⟨[true],.asis,none,false⟩:=by unfold modes; rfl
abbrev Qfe (x:Tm):Prop:=∀ l:List ByteArray,l.length+x.nodes≤1048576→E 193 [.ref 0,x.sv] [.row 9 1 (l.map fun s=>[OT.str s])]=some ((bif dec (l.length<(C7 l x.vs).length) then .ref 1 else .ref 0),(bif dec (l.length<(C7 l x.vs).length) then [.gone,.row 9 1 ((C7 l x.vs).map fun s=>[OT.str s])] else [.row 9 1 ((C7 l x.vs).map fun s=>[OT.str s])]))
theorem SU (x:Tm) (hva:Ao x.name=true→x.args=[]) (hc:x.cok=true) (ih:∀ y∈x.args,Qfe y):Qfe x:=by
 intro l hn
 have hl:=Tm.length_le x.args
 have hne:=Tm.An x
 have hv:=Dr x hc
 have hvs:=Tm.FN x
 rcases zI x.args.length with h0 | h0
 ·have hx0:x.args=[]:=zF h0
  have hz:((x.args.length:Int)=0)=True:=by rw [hx0]; simp
  cases hvv:Ao x.name with
  | true =>
   rw [hvv] at hv hvs
   have h1:=Y9 l x.name (by omega)
   rw [hvs]
   cases hm:dec (x.name∈l) with
   | true =>
    have e:C7 l [x.name]=l:=by simp only [C7,zX,yS,M0,hm,cond_true]
    rw [hm] at h1
    simp only [cond_true,e]
    refine Ad F6 Dx (of_decide_eq_true rfl) ?_
    simp (disch:=omega) only [Ex,go_sem,Aa,hz,hv,h1,Ak,Cd]
   | false =>
    have e:C7 l [x.name]=l++[x.name]:=by simp only [C7,zX,yS,M0,hm,cond_false]
    have hg:l.length<(l++[x.name]).length:=by simp
    rw [hm] at h1
    simp only [cond_true,e,Ar hg]
    refine Ad F6 Dx (of_decide_eq_true rfl) ?_
    simp (disch:=omega) only [Ex,go_sem,Aa,hz,hv,h1,Ak,Cd]
    simp only [yD,zK,zL]
  | false =>
   rw [hvv] at hv hvs
   have e:C7 l x.vs=l:=by rw [hvs,hx0]; simp only [cond_false,Tm.vsL]; rfl
   rw [e]
   refine Ad F6 Dx (of_decide_eq_true rfl) ?_
   simp (disch:=omega) only [Ex,go_sem,Aa,hz,hv,Ak]
   refine go_loop (α:=Int) (fun a=>⟨slots 38 0 [(0,.ref 0),(27,.arr (x.args.map Tm.d)),(28,.int .i64 x.args.length),(29,.int .i64 a)],[.row 9 1 (l.map fun s=>[OT.str s])]⟩) (fun a=>∃ k:Nat,a=k∧k≤(x.args).length) (fun a=>(x.args).length-(a).toNat) 0 ⟨0,rfl,zH _⟩ (by simp (disch:=omega) only [go_sem,Aa]) ?_
   rintro i ⟨k,hi,hk⟩
   have hni:i.toNat=k:=by omega
   have hni1:(i+1).toNat=k+1:=by omega
   rcases zB k (x.args).length with hlt | hge
   ·omega
   ·simp (disch:=omega) only [go_sem,Aa,hni]
 ·have hz:((x.args.length:Int)=0)=False:=eq_false (by omega)
  have hvv:Ao x.name=false:=by
   cases h:Ao x.name with
   | false=>rfl
   | true=>rw [hva h] at h0; simp at h0
  rw [hvv] at hvs
  simp only [cond_false] at hvs
  rw [hvs]
  refine Ad F6 Dx (of_decide_eq_true rfl) ?_
  simp (disch:=omega) only [Ex,go_sem,Aa,hz]
  refine go_loop (α:=Int × (List ByteArray)) (fun a=>⟨slots 38 0 [(0,(bif dec (l.length<(a.2).length) then .ref 1 else .ref 0)),(27,.arr (x.args.map Tm.d)),(28,.int .i64 x.args.length),(29,.int .i64 (a.1))],(bif dec (l.length<(a.2).length) then [.gone,.row 9 1 ((a.2).map fun s=>[OT.str s])] else [.row 9 1 ((a.2).map fun s=>[OT.str s])])⟩) (fun a=>∃ k:Nat,a.1=k∧k≤(x.args).length∧C7 (a.2) (Tm.vsL (x.args.drop k))=C7 l (Tm.vsL x.args)∧(a.2).length+Tm.Bf (x.args.drop k)≤1048576∧l.length≤(a.2).length) (fun a=>(x.args).length-(a.1).toNat) (0,l) ⟨0,rfl,zH _,by rw [zJ],by rw [zJ]; dsimp only; omega,zN _⟩ (by simp (disch:=omega) only [go_sem,Aa]) ?_
  rintro ⟨i,acc⟩ ⟨k,hi,hk,hR⟩
  dsimp only at hi hR
  have hni:i.toNat=k:=by omega
  have hni1:(i+1).toNat=k+1:=by omega
  rcases zB k (x.args).length with hlt | hge
  ·have hg:=get_at Tm.d hlt
   rw [Tm.d_eq] at hg
   obtain ⟨hR1,hR2,hR3⟩:=hR
   rw [zE hlt,Tm.vsL,O3] at hR1
   rw [zE hlt,Tm.Bf] at hR2
   have hc:=ih x.args[k] (zD hlt) acc (by omega)
   have hlen:=Jt x.args[k].vs acc
   have hgr:=P9 x.args[k].vs acc
   have hvl:=Tm.vs_len x.args[k]
   obtain ⟨acc2,ha2⟩:∃ a,a=C7 acc x.args[k].vs:=⟨_,rfl⟩
   rw [←ha2] at hc hlen hgr hR1
   rcases zB l.length acc.length with q1 | q1 <;> rcases zB acc.length acc2.length with q2 | q2
   all_goals
    first
     |rw [Ar q2] at hc
     |rw [Ax (y6.2 q2)] at hc
    simp only [cond_true,cond_false] at hc
    simp (disch:=omega) only [go_sem,Aa,hni,hg,hc,Dx]
    refine ⟨(i+1,acc2),⟨k+1,by dsimp only; omega,hlt,hR1,by dsimp only; omega,by dsimp only; omega⟩,by dsimp only; omega,?_⟩
    first | done | simp (disch:=omega) only [go_sem,Aa]
  ·rw [zG hge,Tm.vsL] at hR
   obtain ⟨hR1,hR2,hR3⟩:=hR
   have hR1:acc=C7 l (Tm.vsL x.args):=hR1
   rw [←hR1]
   rcases zB l.length acc.length with q1 | q1
   ·simp (disch:=omega) only [go_sem,Aa,hni]
   ·simp (disch:=omega) only [go_sem,Aa,hni]
theorem Vo (x:Tm) (hx:x.names=true) (hc:x.cok=true):Qfe x :=
 SU x (fun h=>Tm.E7 hx h) hc fun y hy=>Vo y (Tm.DU hx hy) (by rw [Tm.KY,zA] at hc; exact Tm.H0 hc.2 hy)
termination_by SizeOf.sizeOf x
decreasing_by exact Tm.lt_of_mem hy
theorem Qav (x:Tm) (h:x.atom=true):Qfe x :=
 SU x (Tm.Gb h).1 (Tm.HD h) fun y hy=>Vo y ((Tm.Gb h).2 y hy) (Tm.Jl y ((Tm.Gb h).2 y hy))
noncomputable def Lt.vsL:List Lt→List ByteArray
 | []=>[]
 | x :: xs=>x.atom.vs++Lt.vsL xs
theorem Cl.ok_len {x:Cl} (h:x.ok=true):x.lits.length≤8:=by
 unfold Cl.ok at h
 rw [zA,decide_eq_true_eq] at h
 exact h.1
theorem Cl.JV {x:Cl} (h:x.ok=true) {k:Nat} (hk:k<x.lits.length):x.lits[k].atom.atom=true:=by
 unfold Cl.ok at h
 rw [zA,decide_eq_true_eq] at h
 exact P4 h.2 hk hk
theorem Cl.CP {x:Cl} (h:x.ok=true):∀ y∈x.lits,y.atom.atom=true:=fun y hy=>by
 obtain ⟨k,hk,rfl⟩:=zS hy
 exact Cl.JV h hk
theorem Cl.vs_len {c:Cl} (hc:c.ok=true):(Lt.vsL c.lits).length≤240:=by
 have hl:=Cl.ok_len hc
 have key:∀ xs:List Lt,(∀ x∈xs,x.atom.nodes≤30)→(Lt.vsL xs).length≤30*xs.length:=by
  intro xs
  induction xs with
  | nil=>intro _; exact zN _
  | cons x xs ih =>
   intro h
   have h1:=h x (by simp)
   have h2:=ih fun y hy=>h y (by simp [hy])
   have h3:=Tm.vs_len x.atom
   rw [Lt.vsL,yI,zP]; omega
 have:=key c.lits fun x hx=>by
  obtain ⟨k,hk,rfl⟩:=zS hx
  exact Tm.CO (Cl.JV hc hk)
 omega
def Lu:SC:=(.seq (.reg [⟨some 1,none,.boxv 60 1 (.t 0)⟩,⟨some 2,none,.mv (.c .nil)⟩]) (.seq (.reg [⟨(some 6),none,(.mkrow 9 1 [(.str ⟨#[]⟩)] 0 [])⟩,⟨some 3,none,.mv (.t 6)⟩]) (.seq (.seq (.reg [⟨some 7,none,.faddr 0 (.t 1)⟩,⟨some 8,none,.load false 1 (.t 7)⟩,⟨some 9,none,.len false (.t 8)⟩,⟨some 10,none,.mv (.c (.int .i64 0))⟩]) (.block 0 (.loop [0,0,0,1,0,0,0,0,1,1,1,0,0,0,0,0,0,0,0,0] (.seq (.reg [⟨some 11,none,.bin .lss false (.t 10) (.t 9)⟩]) (.seq (.cond (.t 11) .skip (.exit 0)) (.seq (.block 1 (.seq (.reg [⟨some 12,none,.iaddr 3 (.t 8) (.t 10)⟩,⟨some 13,none,.load true 3 (.t 12)⟩,⟨(some 5),none,(.alloc 122 [(.bool false),(.str ⟨#[]⟩),.nil])⟩,⟨none,none,(.store 3 (.t 5) (.t 13))⟩]) (.reg [⟨some 14,none,.mv (.t 3)⟩,⟨some 15,none,.faddr 1 (.t 5)⟩,⟨some 16,none,.load true 2 (.t 15)⟩,⟨some 17,none,.call 193 [(.t 14),(.t 16)]⟩,⟨some 3,none,.mv (.t 17)⟩]))) (.reg [⟨some 18,none,.bin .add false (.t 10) (.c (.int .i64 1))⟩,⟨some 10,none,.mv (.t 18)⟩]))))))) (.seq (.reg [⟨some 19,none,.mv (.t 3)⟩,⟨some 2,none,.mv (.t 19)⟩]) .ret))))
theorem SW:codeOf Tryz.prog 204=some ⟨20,Lu,[(.tmp 2)]⟩:=by kernel_rfl
theorem Dy:modes 204=⟨[],.asis,none,false⟩:=by unfold modes; rfl
theorem PA (c:Cl) (hc:c.ok=true):E 204 [c.sv] []=some (.ref 0,[.row 9 1 ((C7 [] (Lt.vsL c.lits)).map fun s=>[OT.str s])]):=by
 have hl:=Cl.ok_len hc
 refine Ad SW Dy (of_decide_eq_true rfl) ?_
 simp (disch:=omega) only [Lu,go_sem,Aa]
 refine go_loop (α:=Int × (List ByteArray)) (fun a=>⟨slots 20 0 [(3,.ref 0),(8,.arr (c.lits.map Lt.d)),(9,.int .i64 c.lits.length),(10,.int .i64 (a.1))],[.row 9 1 ((a.2).map fun s=>[OT.str s])]⟩) (fun a=>∃ k:Nat,a.1=k∧k≤(c.lits).length∧C7 (a.2) (Lt.vsL (c.lits.drop k))=C7 [] (Lt.vsL c.lits)∧(a.2).length≤30*k) (fun a=>(c.lits).length-(a.1).toNat) (0,[]) ⟨0,rfl,zH _,by rw [zJ],zN _⟩ (by simp (disch:=omega) only [go_sem,Aa]) ?_
 rintro ⟨i,acc⟩ ⟨k,hi,hk,hR⟩
 dsimp only at hi hR
 have hni:i.toNat=k:=by omega
 have hni1:(i+1).toNat=k+1:=by omega
 rcases zB k (c.lits).length with hlt | hge
 ·have hg:=get_at Lt.d hlt
  rw [Lt.d_eq] at hg
  obtain ⟨hR1,hR2⟩:=hR
  rw [zE hlt,Lt.vsL,O3] at hR1
  have hnn:=Tm.CO (Cl.JV hc hlt)
  have hcl:=Qav c.lits[k].atom (Cl.JV hc hlt) acc (by omega)
  have has:c.lits[k].atom.sv=.agg [.str c.lits[k].atom.name,.arr (c.lits[k].atom.args.map Tm.d)]:=rfl
  have hlen:=Jt c.lits[k].atom.vs acc
  have hvl:=Tm.vs_len c.lits[k].atom
  obtain ⟨acc2,ha2⟩:∃ a,a=C7 acc c.lits[k].atom.vs:=⟨_,rfl⟩
  rw [←ha2] at hcl hlen hR1
  rcases zB acc.length acc2.length with q2 | q2
  all_goals
   first
    |rw [Ar q2] at hcl
    |rw [Ax (y6.2 q2)] at hcl
   simp only [cond_true,cond_false] at hcl
   simp (disch:=omega) only [go_sem,Aa,hni,hg,has,hcl,Dx]
   refine ⟨(i+1,acc2),⟨k+1,by dsimp only; omega,hlt,hR1,by dsimp only; omega⟩,by dsimp only; omega,?_⟩
   first | trivial | rfl | exact ⟨rfl,rfl⟩
 ·rw [zG hge,Lt.vsL] at hR
  obtain ⟨hR1,hR2⟩:=hR
  have hR1:acc=_:=hR1
  rw [←hR1]
  simp (disch:=omega) only [go_sem,Aa,hni]
theorem Qc0 (s:Sb) (hs:s.ok=true) (ht:s.tame) (l:List Lt) (hl:l.length≤1048576) (hal:∀ x∈l,x.atom.atom=true):E 271 [s.sv,.arr (l.map Lt.d)] []=some (.tup [(apC s l).sv,.bool (ED s l)],[]):=by
 have her:OT.erss (l.map (fun x:Lt=>(Lt.ap s x).d.map D.ot))=(l.map (Lt.ap s)).map Lt.d:=by
  have:=Lt.der (l.map (Lt.ap s))
  rw [yQ] at this
  exact this
 have hfu:OT.AA (l.map (fun x:Lt=>(Lt.ap s x).d.map D.ot))=true:=by
  have:=Lt.dfu (l.map (Lt.ap s))
  rw [yQ] at this
  exact this
 refine Ad SR F5 (of_decide_eq_true rfl) ?_
 simp (disch:=omega) only [Ls,go_sem,Aa]
 refine go_loop (α:=Int) (fun a=>⟨slots 45 0 [(1,.arr (l.map Lt.d)),(2,.ptr 0 0),(4,.ptr 1 0),(6,.ref 2),(7,.int .i64 a)],[.box 142 [.arr (s.binds.map Bd.d)],.box 60 [.nil],.row 122 3 ((l.take a.toNat).map (fun x:Lt=>(Lt.ap s x).d.map D.ot))]⟩) (fun a=>∃ k:Nat,a=k∧k≤(l).length∧∀ x∈l.take k,(x.atom.ap s.look).small=true) (fun a=>(l).length-(a).toNat) 0 ⟨0,rfl,zH _,fun x hx=>by simp at hx⟩ (by simp (disch:=omega) only [go_sem,Aa,yC]) ?_
 rintro i ⟨k,hi,hk,hR⟩
 have hni:i.toNat=k:=by omega
 have hni1:(i+1).toNat=k+1:=by omega
 rcases zB k (l).length with hlt | hge
 ·have hg:=get_at Lt.d hlt
  rw [Lt.d_eq] at hg
  have hat:=hal l[k] (zD hlt)
  have hsn:=DK (fun x:Lt=>(Lt.ap s x).d.map D.ot) hlt
  have hs1:[[OT.bool l[k].pos,.str (l[k].atom.ap s.look).name,.sh ((l[k].atom.ap s.look).args.map Tm.d)]]=[(fun x:Lt=>(Lt.ap s x).d.map D.ot) l[k]]:=by simp only [Lt.d_eq]; rfl
  have htl:(l.take k).length=k:=by rw [zQ]; omega
  have hnd:=Tm.CO hat
  have ha:=P6 s hs ht l[k].atom (by omega)
  have hap:=Tm.Jr (Sb.F3 hs) l[k].atom
  have hb:=S8 (l[k].atom.ap s.look) (by omega)
  rw [Tm.Qby (Sb.F3 hs) _ hat] at hb
  cases hq:(l[k].atom.ap s.look).small with
  | true =>
   rw [hq] at hb
   simp (disch:=omega) only [go_sem,Aa,hni,hg,ha,hb,htl,AH,AV,Di,B4]
   refine ⟨i+1,⟨k+1,by omega,hlt,fun x hx=>?_⟩,by omega,?_⟩
   ·rcases yV.1 (by rw [yF hlt] at hx; exact hx) with hx | hx
    ·exact hR x hx
    ·rw [yX.1 hx]; exact hq
   ·simp (disch:=omega) only [go_sem,Aa,hni1,hs1,hsn,and_self]
  | false =>
   rw [hq] at hb
   have hno:ED s l=false:=by
    unfold ED SS
    rw [show (l.all fun x=>(x.atom.ap s.look).small)=false from ?_,yK]
    rw [List.all_eq_false]
    exact ⟨l[k],zD hlt,by rw [hq]; simp⟩
   rw [P8 hno,hno,Y7]
   simp (disch:=omega) only [go_sem,Aa,hni,hg,ha,hb,AH,AV,Di,B4]
 ·obtain rfl:k=l.length:=by omega
  have htk:l.take l.length=l:=zR
  rw [htk] at hR
  have hal2:SS s l=true:=by unfold SS; rw [zO]; exact hR
  have hfine:∀ x∈l.map (Lt.ap s),x.fine:=fun x hx=>by
   obtain ⟨y,hy,rfl⟩:=yR.1 hx
   exact Lt.Qbz hs (hal y hy) (hR y hy)
  have hlen:(l.map (Lt.ap s)).length≤1048576:=by rw [zC]; exact hl
  have hc:=SH (l.map (Lt.ap s)) hlen hfine
  have hgd:=SB (mkC (l.map (Lt.ap s))) (Y6 hlen hfine)
  cases hv:(mkC (l.map (Lt.ap s))).ok with
  | true =>
   have hok:ED s l=true:=by unfold ED; rw [hal2,hv]; rfl
   rw [hv] at hgd
   rw [WW hok,hok]
   simp (disch:=omega) only [go_sem,Aa,hni,htk,hc,hgd,her,hfu,AH,AV,Di,B4]
  | false =>
   have hok:ED s l=false:=by unfold ED; rw [hv,zM]
   rw [hv] at hgd
   rw [P8 hok,hok,Y7]
   simp (disch:=omega) only [go_sem,Aa,hni,htk,hc,hgd,her,hfu,AH,AV,Di,B4]
abbrev SEnv:=ByteArray→Option ByteArray
def Fk (e:SEnv):MF
 | .str s=>match e s with
  | some n=>some (false,[.str n])
  | none=>none
 | .int _=>none
theorem Mq (e:SEnv) (s:ByteArray):Fk e (.str s)=match e s with | some n=>some (false,[.str n]) | none=>none:=rfl
noncomputable def Qc1 (e:SEnv) (s n:ByteArray):SEnv:=fun q=>bif dec (q=s) then some n else e q
theorem Vp (e:SEnv) (s n:ByteArray):Pd (Fk e) (.str s) (false,[.str n])=Fk (Qc1 e s n):=by
 funext k
 cases k with
 | int i=>rw [JB (fun h=>by cases h)]; rfl
 | str q =>
  rw [NM,Mq,Mq]
  unfold Qc1
  cases dec (q=s) <;> rfl
theorem Qaw:Fk (fun _=>none)=nomap:=by
 funext k
 cases k <;> rfl
mutual
noncomputable def Tm.rn (e:SEnv):Tm→Tm
 | .mk n args=>.mk (bif args.isEmpty then (e n).getD n else n) (Tm.rnL e args)
noncomputable def Tm.rnL (e:SEnv):List Tm→List Tm
 | []=>[]
 | x :: xs=>Tm.rn e x :: Tm.rnL e xs
end
theorem Tm.Qb1 (e:SEnv):∀ xs:List Tm,Tm.rnL e xs=xs.map (Tm.rn e)
 | []=>by rw [Tm.rnL]; rfl
 | x :: xs=>by rw [Tm.rnL,Tm.Qb1 e xs]; rfl
theorem Tm.SY (e:SEnv) (x:Tm):x.rn e=.mk (bif x.args.isEmpty then (e x.name).getD x.name else x.name) (x.args.map (Tm.rn e)):=by
 obtain ⟨n,args⟩:=x
 rw [Tm.rn,Tm.Qb1]; rfl
theorem Tm.YA (e:SEnv) (x:Tm):(x.rn e).nodes=x.nodes:=by
 have key:∀ xs:List Tm,(∀ y∈xs,(y.rn e).nodes=y.nodes)→Tm.Bf (xs.map (Tm.rn e))=Tm.Bf xs:=by
  intro xs
  induction xs with
  | nil=>intro _; rfl
  | cons y ys ih =>
   intro h
   rw [zK,Tm.Bf,Tm.Bf,h y (by simp),ih fun z hz=>h z (by simp [hz])]
 rw [Tm.SY,Tm.An,Tm.An]
 show 1+Tm.Bf (x.args.map (Tm.rn e))=_
 rw [key x.args fun y hy=>Tm.YA e y]
termination_by SizeOf.sizeOf x
decreasing_by exact Tm.lt_of_mem hy
theorem Qax {n:Int} (h0:0≤n) (h:n<10):Fu n=⟨#[UInt8.ofNat (48+n.toNat)]⟩:=by
 obtain ⟨u,rfl⟩:∃ u:Nat,n=u:=⟨n.toNat,by omega⟩
 unfold Fu
 rw [Lib.itoa_nonneg,Lib.decDigits,dif_pos (by omega)]
 rfl
theorem QdD {n:Int} (h:10≤n):Fu n=Fu (n.tdiv 10)++⟨#[UInt8.ofNat (48+(n.tmod 10).toNat)]⟩:=by
 obtain ⟨u,rfl⟩:∃ u:Nat,n=u:=⟨n.toNat,by omega⟩
 have e1:(u:Int).tdiv 10=((u / 10:Nat):Int):=by rw [zY (by omega)]; rfl
 have e2:((u:Int).tmod 10).toNat=u % 10:=by rw [yY (by omega)]; omega
 rw [e1,e2]
 unfold Fu
 rw [Lib.itoa_nonneg,Lib.itoa_nonneg,Lib.decDigits,dif_neg (by omega)]
 have key:∀ (x:List UInt8) (y:UInt8),(⟨(x++[y]).toArray⟩:ByteArray)=⟨x.toArray⟩++⟨#[y]⟩:=fun x y=>by
  have e:∀ a b:ByteArray,a.data=b.data→a=b:=fun a b h=>by cases a; cases b; cases h; rfl
  apply e
  simp
 exact key _ _
def pre (p:ByteArray) (n:Int):ByteArray:=p++Fu n
theorem F7:modes 189=⟨[],.asis,some (Mz UW),false⟩:=by unfold modes; rfl
theorem QdE (n:Int) (h0:0≤n) (h1:n≤1099511627776):E 189 [.int .i64 n] []=some (.str (Fu n),[]) :=
 UY (g:=UW) (congrArg FM.ext F7) (by simp only [UW,Ar (⟨h0,h1⟩:0≤n∧n≤1099511627776),cond_true])
noncomputable def Cl.ns (c:Cl):List ByteArray:=C7 [] (Lt.vsL c.lits)
def M1:ByteArray:=⟨#[88]⟩
def G6:ByteArray:=⟨#[89]⟩
theorem Cl.N0 {c:Cl} (h:c.ok=true):c.ns.length≤240:=by
 have h1:=Jt (Lt.vsL c.lits) []
 have h2:=Cl.vs_len h
 unfold Cl.ns
 simp only [zV] at h1
 omega
theorem Cl.ns_nodup (c:Cl):c.ns.Nodup:=ST List.nodup_nil
theorem Lt.vsL_mem {v:ByteArray}:∀ {xs:List Lt},v∈Lt.vsL xs ↔ ∃ x∈xs,v∈x.atom.vs
 | []=>by simp [Lt.vsL]
 | x :: xs=>by rw [Lt.vsL,yV,Lt.vsL_mem (xs:=xs)]; simp
theorem Cl.QdF {c:Cl} {v:ByteArray}:v∈c.ns ↔ ∃ x∈c.lits,v∈x.atom.vs:=by
 unfold Cl.ns
 rw [Y8,Lt.vsL_mem]
 simp
noncomputable def Dz (p:ByteArray) (l:List ByteArray):SEnv:=l.zipIdx.foldl (fun e x=>Qc1 e x.1 (pre p (x.2:Nat))) fun _=>none
theorem Mr (p:ByteArray) {l:List ByteArray} {k:Nat} (h:k<l.length):Dz p (l.take (k+1))=Qc1 (Dz p (l.take k)) l[k] (pre p (k:Nat)):=by
 unfold Dz
 rw [←List.take_append_getElem h,List.zipIdx_append,y2]
 have e:(l.take k).length=k:=by rw [zQ]; omega
 simp only [List.zipIdx_cons,List.zipIdx_nil,zX,yS,e,Nat.zero_add]
theorem Qb2 (p:ByteArray) {l:List ByteArray} (hn:l.Nodup):∀ (n k:Nat) (hk:k<l.length),n≤l.length→k<n→Dz p (l.take n) l[k]=some (pre p (k:Nat))
 | 0,k,hk,_,h=>absurd h (by omega)
 | n+1,k,hk,hl,h=>by
  rw [Mr p (by omega:n<l.length)]
  unfold Qc1
  by_cases e:k=n
  ·subst e
   rw [Ar rfl,cond_true]
  ·have hne:l[k]≠l[n]:=fun he=>e ((List.getElem_inj hn).1 he)
   rw [Ax hne,cond_false]
   exact Qb2 p hn n k hk (by omega) (by omega)
theorem SZ (p:ByteArray) {l:List ByteArray} (hn:l.Nodup) {k:Nat} (hk:k<l.length):Dz p l l[k]=some (pre p (k:Nat)):=by
 have h:=Qb2 p hn l.length k hk (zN _) hk
 rw [zR] at h
 exact h
theorem YB (p:ByteArray) {l:List ByteArray} {q:ByteArray} (hq:q ∉ l):∀ n,n≤l.length→Dz p (l.take n) q=none
 | 0,_=>by rw [z8]; rfl
 | n+1,h=>by
  rw [Mr p (by omega:n<l.length)]
  unfold Qc1
  rw [Ax (show ¬ q=l[n] from fun e=>hq (by rw [e]; exact zD _)),cond_false]
  exact YB p hq n (by omega)
theorem PB (p:ByteArray) {l:List ByteArray} {q:ByteArray} (hq:q ∉ l):Dz p l q=none:=by
 have h:=YB p hq l.length (zN _)
 rw [zR] at h
 exact h
def O4 (e:SEnv):Prop:=∀ s n,e s=some n→Ao s=true∧Ao n=true
theorem QdG:∀ i:_root_.Fin 300,Ao (pre M1 (i.val:Nat))=true:=by decide +kernel
theorem QdH:∀ i:_root_.Fin 300,Ao (pre G6 (i.val:Nat))=true:=by decide +kernel
theorem Vq {p:ByteArray} (hp:∀ i:_root_.Fin 300,Ao (pre p (i.val:Nat))=true) {l:List ByteArray} (hn:l.Nodup) (hl:l.length≤240) (hv:∀ s∈l,Ao s=true):O4 (Dz p l):=fun s n h=>by
 by_cases hs:s∈l
 ·obtain ⟨k,hk,rfl⟩:=zS hs
  rw [SZ p hn hk] at h
  obtain rfl:=yM h
  exact ⟨hv _ hs,hp ⟨k,by omega⟩⟩
 ·rw [PB p hs] at h
  cases h
theorem Tm.QdI {v:ByteArray}:∀ x:Tm,v∈x.vs→Ao v=true
 | .mk n a=>fun h=>by
  rw [Tm.vs] at h
  cases hv:Ao n with
  | true =>
   rw [hv,cond_true,yX] at h
   subst h; exact hv
  | false =>
   rw [hv,cond_false,Tm.vsL_mem] at h
   obtain ⟨y,hy,h⟩:=h
   exact Tm.QdI y h
termination_by x=>SizeOf.sizeOf x
decreasing_by exact Tm.lt_of_mem (x:=.mk n a) hy
theorem Cl.Qay {c:Cl} {s:ByteArray} (h:s∈c.ns):Ao s=true:=by
 obtain ⟨x,_,h⟩:=Cl.QdF.1 h
 exact Tm.QdI _ h
theorem Tm.MS (e:SEnv) (x:Tm):(x.rn e).name=(bif x.args.isEmpty then (e x.name).getD x.name else x.name)∧(x.rn e).args=x.args.map (Tm.rn e):=by
 rw [Tm.SY]; exact ⟨rfl,rfl⟩
theorem Vr {e:SEnv} {xs:List Tm} (h:∀ y∈xs,(y.rn e).names=true):Tm.Em (xs.map (Tm.rn e))=true:=by
 rw [Tm.Dw,zO]
 intro z hz
 obtain ⟨y,hy,rfl⟩:=yR.1 hz
 exact h y hy
theorem Tm.JW {e:SEnv} (he:O4 e) (x:Tm) (hv:Ao x.name=false):(x.rn e).name=x.name:=by
 rw [(Tm.MS e x).1]
 cases hx:e x.name with
 | none=>cases x.args.isEmpty <;> rfl
 | some n =>
  have:=(he _ _ hx).1
  rw [hv] at this; cases this
theorem Tm.Ta {e:SEnv} (he:O4 e) (x:Tm) (h:x.names=true):(x.rn e).names=true:=by
 have h1:=Tm.MS e x
 rw [Tm.EN] at h ⊢
 rw [h1.2,zC]
 cases hv:Ao x.name with
 | true =>
  rw [hv,if_pos rfl] at h
  have h0:x.args=[]:=zF (by simpa using h)
  have hn:Ao (x.rn e).name=true:=by
   rw [h1.1,h0]
   show Ao ((e x.name).getD x.name)=true
   cases hx:e x.name with
   | none=>exact hv
   | some n=>exact (he _ _ hx).2
  rw [hn,if_pos rfl]
  exact h
 | false =>
  rw [hv,if_neg (by simp)] at h
  rw [Tm.JW he x hv,hv,if_neg (by simp)]
  rw [zA] at h ⊢
  refine ⟨h.1,Vr fun y hy=>Tm.Ta he y ?_⟩
  have h2:=h.2
  rw [Tm.Dw,zO] at h2
  exact h2 y hy
termination_by SizeOf.sizeOf x
decreasing_by exact Tm.lt_of_mem hy
theorem Tm.Qb3 (e:SEnv) (x:Tm):(x.rn e).deep=x.deep:=by
 have key:∀ xs:List Tm,(∀ y∈xs,(y.rn e).deep=y.deep)→Tm.EC (xs.map (Tm.rn e))=Tm.EC xs:=by
  intro xs
  induction xs with
  | nil=>intro _; rfl
  | cons y ys ih =>
   intro h
   rw [zK,Tm.EC,Tm.EC,h y (by simp),ih fun z hz=>h z (by simp [hz])]
 rw [Tm.SY,Tm.Mm,Tm.Mm]
 show Tm.EC (x.args.map (Tm.rn e))+1=_
 rw [key x.args fun y hy=>Tm.Qb3 e y]
termination_by SizeOf.sizeOf x
decreasing_by exact Tm.lt_of_mem hy
theorem Tm.YC (e:SEnv) (x:Tm):(x.rn e).small=x.small:=by
 unfold Tm.small
 rw [Tm.YA,Tm.Qb3]
theorem Tm.Qff {e:SEnv} (he:O4 e) (x:Tm) (h:x.atom=true):(x.rn e).atom=true:=by
 have hv:Ao x.name=false:=by
  unfold Tm.atom at h
  split at h
  ·rename_i hq
   have:x.name=⟨#[61]⟩:=At.1 hq
   rw [this]; decide +kernel
  ·rw [zA] at h
   exact P7 h.1
 have hn:=Tm.JW he x hv
 have hq:(x.rn e).eqn=x.eqn:=by unfold Tm.eqn; rw [hn]
 unfold Tm.atom at h ⊢
 rw [hq,hn,Tm.YC,(Tm.MS e x).2,zC]
 split at h
 ·rename_i hb
  rw [if_pos hb]
  rw [zA] at h ⊢
  refine ⟨h.1,Vr fun y hy=>Tm.Ta he y ?_⟩
  have h2:=h.2
  rw [Tm.Dw,zO] at h2
  exact h2 y hy
 ·rename_i hb
  rw [if_neg hb]
  rw [zA] at h ⊢
  refine ⟨h.1,?_⟩
  have h2:=h.2
  unfold Tm.valid at h2 ⊢
  rw [zA] at h2 ⊢
  exact ⟨by rw [Tm.YC]; exact h2.1,Tm.Ta he x h2.2⟩
noncomputable def Lt.rn (e:SEnv) (x:Lt):Lt:=⟨x.pos,x.atom.rn e⟩
noncomputable def Cl.rn (e:SEnv) (c:Cl):Cl:=mkC (c.lits.map (Lt.rn e))
theorem PC {x:Lt} (h:x.atom.atom=true):x.fine:=⟨Tm.HD h,by have:=Tm.CO h; omega⟩
theorem PD {xs:List Lt}:∀ {k:Nat},Hf xs k=true→k≤xs.length→∀ (j:Nat) (h:j+1<k) (hl:j+1<xs.length),(xs[j]'(by omega)).cmp xs[j+1]<0
 | 0,_,_,j,h,_=>absurd h (by omega)
 | k+1,hk,hle,j,h,hl=>by
  rw [Hf,zA] at hk
  rcases zB (j+1) k with h1 | h1
  ·exact PD hk.1 (by omega) j h1 hl
  ·obtain rfl:k=j+1:=by omega
   have h2:=hk.2
   rw [E5 hl,zA,decide_eq_true_eq] at h2
   exact h2.2
theorem YD {xs:List Lt} (h:Hf xs xs.length=true):Db xs:=by
 unfold Db
 rw [yL]
 intro i j hi hj hij
 obtain ⟨d,rfl⟩:∃ d,j=i+1+d:=⟨j-(i+1),by omega⟩
 clear hij
 induction d with
 | zero=>exact PD h (zN _) i hj hj
 | succ d ih =>
  have h1:=ih (by omega)
  have h2:=PD h (zN _) (i+1+d) hj hj
  exact (Lt.cmp_ord _ _ _).trans h1 h2
theorem YE {xs:List Lt} (h2:∀ x∈xs,x.atom.atom=true) (h3:Db xs):Hf xs xs.length=true:=by
 have key:∀ k,k≤xs.length→Hf xs k=true:=by
  intro k
  induction k with
  | zero=>intro _; rfl
  | succ k ih =>
   intro hk
   rw [Hf,ih (by omega),yG]
   cases k with
   | zero=>rw [Hm (by omega)]; exact h2 _ (zD _)
   | succ k =>
    rw [E5 (by omega),h2 _ (zD _),yG,decide_eq_true_eq]
    exact yL.1 h3 k (k+1) (by omega) (by omega) (by omega)
 exact key _ (zN _)
theorem Cl.Vs {c:Cl} (h:c.ok=true):Db c.lits:=by
 unfold Cl.ok at h
 rw [zA] at h
 exact YD h.2
theorem Cl.Qgx {l:List Lt} (h1:l.length≤8) (h2:∀ x∈l,x.atom.atom=true) (h3:Db l):(Cl.mk l).ok=true:=by
 unfold Cl.ok
 rw [zA,decide_eq_true_eq]
 exact ⟨h1,YE h2 h3⟩
theorem QfU {l:List Lt} (h1:l.length≤8) (h2:∀ x∈l,x.atom.atom=true):(mkC l).ok=true :=
 Cl.Qgx (Nat.le_trans (Qbq l) h1) (fun x hx=>h2 x ((Rq l x).1 hx)) (Ny l)
theorem YF {l:List Lt} (h:Db l):mkC l=⟨l⟩:=by
 have:(mkC l).lits=l:=JJ (Ny l) h fun z=>Rq l z
 exact congrArg Cl.mk this
theorem Lt.Tc {e:SEnv} (he:O4 e) {l:List Lt} (h:∀ x∈l,x.atom.atom=true):∀ x∈l.map (Lt.rn e),x.atom.atom=true:=fun z hz=>by
 obtain ⟨x,hx,rfl⟩:=yR.1 hz
 exact Tm.Qff he _ (h x hx)
theorem Cl.Qb4 {e:SEnv} (he:O4 e) {c:Cl} (h:c.ok=true):(c.rn e).ok=true :=
 QfU (by rw [zC]; exact Cl.ok_len h) (Lt.Tc he (Cl.CP h))
theorem Cl.xE {c:Cl} (h:c.ok=true):O4 (Dz M1 c.ns):=Vq QdG c.ns_nodup (Cl.N0 h) fun s=>Cl.Qay
theorem Cl.yE {c:Cl} (h:c.ok=true):O4 (Dz G6 c.ns):=Vq QdH c.ns_nodup (Cl.N0 h) fun s=>Cl.Qay
def O5 (l:List ByteArray):Prop:=∀ (i:Nat) (h:i<l.length),l[i]=pre M1 (i:Nat)
noncomputable def Cl.norm (c:Cl):Bool:=dec (O5 c.ns)
noncomputable def nz:Nat→Cl→Cl
 | 0,c=>c
 | n+1,c=>bif c.norm then c else nz n (c.rn (Dz M1 c.ns))
theorem Qb5:∀ (n:Nat) {c:Cl},c.ok=true→(nz n c).ok=true
 | 0,c,h=>h
 | n+1,c,h=>by
  rw [nz]
  cases c.norm with
  | true=>exact h
  | false=>exact Qb5 n (Cl.Qb4 (Cl.xE h) h)
def F8:SC:=(.seq (.reg [⟨some 2,none,.boxv 33 2 (.t 0)⟩,⟨(some 4),none,(.alloc 33 [(.str ⟨#[]⟩),.nil])⟩]) (.seq (.reg [⟨some 10,none,.faddr 0 (.t 2)⟩,⟨some 11,none,.load false 1 (.t 10)⟩,⟨(some 12),none,(.build [(.str ⟨#[]⟩),.nil] [(0,(1,(.t 11)))])⟩,⟨(some 5),none,(.alloc 33 [(.str ⟨#[]⟩),.nil])⟩,⟨none,none,(.store 2 (.t 5) (.t 12))⟩]) (.seq (.seq (.reg [⟨some 14,none,.mv (.t 1)⟩,⟨some 15,none,.faddr 0 (.t 2)⟩,⟨some 16,none,.load false 1 (.t 15)⟩,⟨(some 17),none,(.mget true true false [(.str ⟨#[]⟩)] (.t 14) (.t 16))⟩,⟨some 13,none,.mv (.t 17)⟩,⟨some 18,none,.ext (.t 13) 0⟩,⟨some 19,none,.ext (.t 13) 1⟩,⟨some 6,none,.mv (.t 18)⟩,⟨some 7,none,.mv (.t 19)⟩]) (.seq (.reg [⟨some 20,none,.mv (.t 7)⟩,⟨some 21,none,.mv (.t 20)⟩,⟨(some 22),(some (21,true)),(.faddr 1 (.t 2))⟩,⟨(some 23),(some (21,true)),(.load false 1 (.t 22))⟩,⟨(some 24),(some (21,true)),(.len false (.t 23))⟩,⟨(some 25),(some (21,true)),(.bin .eql false (.t 24) (.c (.int .i64 0)))⟩,⟨some 26,none,.pick (.t 21) (.t 25) (.c (.bool false))⟩]) (.cond (.t 26) (.reg [⟨some 27,none,.mv (.t 6)⟩,⟨some 28,none,.faddr 0 (.t 5)⟩,⟨none,none,(.store 1 (.t 28) (.t 27))⟩]) .skip))) (.seq (.seq (.reg [⟨some 29,none,.faddr 1 (.t 2)⟩,⟨some 30,none,.load false 1 (.t 29)⟩,⟨some 31,none,.len false (.t 30)⟩,⟨some 32,none,.mv (.c (.int .i64 0))⟩]) (.block 0 (.loop [0,1,0,0,1,1,0,0,0,0,0,0,0,0,0,0,0,0,0,0,0,0,0,0,0,0,0,0,0,0,1,1,1,0,0,0,0,0,0,0,0,0,0,0,0,0] (.seq (.reg [⟨some 33,none,.bin .lss false (.t 32) (.t 31)⟩]) (.seq (.cond (.t 33) .skip (.exit 0)) (.seq (.block 1 (.seq (.reg [⟨some 34,none,.iaddr 2 (.t 30) (.t 32)⟩,⟨some 35,none,.load true 2 (.t 34)⟩,⟨(some 9),none,(.alloc 33 [(.str ⟨#[]⟩),.nil])⟩,⟨none,none,(.store 2 (.t 9) (.t 35))⟩]) (.dreg [[],[0],[],[],[2,3],[4,2,3],[1,0,5,4,2,3],[0,1,2,3,4,5,6],[7,0,1,2,3,4,5,6]] [⟨some 36,none,.faddr 1 (.t 5)⟩,⟨some 37,none,.load false 1 (.t 36)⟩,⟨some 38,none,.load true 2 (.t 9)⟩,⟨some 39,none,.mv (.t 1)⟩,⟨some 40,none,.call 275 [(.t 38),(.t 39)]⟩,⟨(some 41),none,(.mkrow 33 2 [(.str ⟨#[]⟩),.nil] 1 [(0,(.t 40))])⟩,⟨(some 42),none,(.append 33 2 40 [(.str ⟨#[]⟩),.nil] (.t 37) (.t 41))⟩,⟨some 43,none,.faddr 1 (.t 5)⟩,⟨none,none,(.store 1 (.t 43) (.t 42))⟩]))) (.reg [⟨some 44,none,.bin .add false (.t 32) (.c (.int .i64 1))⟩,⟨some 32,none,.mv (.t 44)⟩]))))))) (.seq (.reg [⟨some 45,none,.load true 2 (.t 5)⟩,⟨none,none,(.store 2 (.t 4) (.t 45))⟩]) .ret)))))
theorem HN:codeOf Tryz.prog 275=some ⟨46,F8,[(.cell 4 true 2)]⟩:=by kernel_rfl
theorem B6:modes 275=⟨[],.own [none,some (33,2)],none,false⟩:=by unfold modes; rfl
abbrev RnC (e:SEnv) (x:Tm):Prop:=E 275 [x.sv,.mp true (Fk e)] []=some ((x.rn e).osv,(x.rn e).obs)
theorem Qaz (e:SEnv) (x:Tm) (hn:x.args.length≤1099511627776) (ih:∀ y∈x.args,RnC e y):RnC e x:=by
 unfold RnC
 obtain ⟨nm,hnm⟩:∃ nm,nm=bif x.args.isEmpty then (e x.name).getD x.name else x.name:=⟨_,rfl⟩
 have e0:x.rn e=.mk nm (x.args.map (Tm.rn e)):=by rw [Tm.SY,hnm]
 have e1:(Tm.mk nm (x.args.map (Tm.rn e))).osv=.agg [.str nm,.ref 0]:=rfl
 have e2:(Tm.mk nm (x.args.map (Tm.rn e))).obs=[.row 33 2 ((x.args.map (Tm.rn e)).map Tm.o)]:=rfl
 rw [e0,e1,e2]
 have h10:((1:Int)=0)=False:=by simp
 cases he:e x.name with
 | none =>
  have hme:Fk e (.str x.name)=none:=by rw [Mq,he]
  have hnn:nm=x.name:=by
   rw [hnm,he]
   cases x.args.isEmpty <;> rfl
  rw [hnn]
  clear hnm e0 e1 e2 hnn nm
  obtain ⟨nm,hnm⟩:∃ nm,nm=x.name:=⟨_,rfl⟩
  rw [←hnm] at hme ⊢
  refine Ad HN B6 (of_decide_eq_true rfl) ?_
  simp (disch:=omega) only [F8,go_sem,Aa,hme,← hnm]
  refine go_loop (α:=Int) (fun a=>⟨slots 46 0 [(1,.mp true (Fk e)),(4,.ptr 0 0),(5,.ptr 1 0),(30,.arr (x.args.map Tm.d)),(31,.int .i64 x.args.length),(32,.int .i64 a)],(if a=0 then [.box 33 [.str ⟨#[]⟩,.nil],.box 33 [.str nm,.nil]] else [.box 33 [.str ⟨#[]⟩,.nil],.box 33 [.str nm,.ref 2],.row 33 2 (((x.args.map (Tm.rn e)).take a.toNat).map Tm.o)])⟩) (fun a=>∃ k:Nat,a=k∧k≤(x.args).length) (fun a=>(x.args).length-(a).toNat) 0 ⟨0,rfl,zH _⟩ (by simp (disch:=omega) only [go_sem,Aa,eq_self,if_true]) ?_
  rintro i ⟨k,hi,hk⟩
  have hni:i.toNat=k:=by omega
  have hni1:(i+1).toNat=k+1:=by omega
  rcases zB k (x.args).length with hlt | hge
  ·have hg:=get_at Tm.d hlt
   rw [Tm.d_eq] at hg
   have hc:=ih x.args[k] (zD hlt)
   have hlm:k<(x.args.map (Tm.rn e)).length:=by rw [zC]; exact hlt
   have hs:=DK Tm.o hlm
   rw [Tm.o_eq,z7] at hs
   rcases zI k with h0 | h0
   ·subst h0
    obtain rfl:i=0:=hi
    rw [z8,zL,zW] at hs
    simp (disch:=omega) only [go_sem,Aa,hni,hg,hc,Tm.osv,Tm.obs,B6,eq_self,if_true]
    refine ⟨1,⟨1,rfl,hlt⟩,by omega,?_⟩
    simp (disch:=omega) only [go_sem,Aa,h10,if_false,hs]
   ·have hi0:(i=0)=False:=by simp; omega
    have hi1:(i+1=0)=False:=by simp; omega
    have htl:((x.args.map (Tm.rn e)).take k).length=k:=by rw [zQ,zC]; omega
    simp (disch:=omega) only [go_sem,Aa,hni,hg,hc,Tm.osv,Tm.obs,B6,hi0,if_false,htl]
    refine ⟨i+1,⟨k+1,by omega,hlt⟩,by omega,?_⟩
    simp (disch:=omega) only [go_sem,Aa,hni1,hi1,if_false,hs]
  ·obtain rfl:k=x.args.length:=by omega
   have ht:(x.args.map (Tm.rn e)).take x.args.length=x.args.map (Tm.rn e):=by rw [←zC (f:=Tm.rn e)]; exact zR
   rcases zI x.args.length with h0 | h0
   ·have hx:x.args=[]:=zF h0
    obtain rfl:i=0:=by omega
    first | omega | simp (disch:=omega) only [go_sem,Aa,hni,hx,eq_self,if_true,zL,zV]
   ·have hi0:(i=0)=False:=by simp; omega
    first | omega | simp (disch:=omega) only [go_sem,Aa,hni,hi0,if_false,ht]
 | some v =>
  have hme:Fk e (.str x.name)=some (false,[.str v]):=by rw [Mq,he]
  rcases zI x.args.length with hz | hz
  ·have hx:x.args=[]:=zF hz
   have hz0:((x.args.length:Int)=0)=True:=by rw [hx]; simp
   have hnn:nm=v:=by rw [hnm,he,hx]; rfl
   rw [hnn]
   clear hnm e0 e1 e2 hnn nm
   obtain ⟨nm,hnm⟩:∃ nm,nm=v:=⟨_,rfl⟩
   rw [←hnm] at hme ⊢
   refine Ad HN B6 (of_decide_eq_true rfl) ?_
   simp (disch:=omega) only [F8,go_sem,Aa,hme,hz0,Qbl]
   refine go_loop (α:=Int) (fun a=>⟨slots 46 0 [(1,.mp true (Fk e)),(4,.ptr 0 0),(5,.ptr 1 0),(30,.arr (x.args.map Tm.d)),(31,.int .i64 x.args.length),(32,.int .i64 a)],(if a=0 then [.box 33 [.str ⟨#[]⟩,.nil],.box 33 [.str nm,.nil]] else [.box 33 [.str ⟨#[]⟩,.nil],.box 33 [.str nm,.ref 2],.row 33 2 (((x.args.map (Tm.rn e)).take a.toNat).map Tm.o)])⟩) (fun a=>∃ k:Nat,a=k∧k≤(x.args).length) (fun a=>(x.args).length-(a).toNat) 0 ⟨0,rfl,zH _⟩ (by simp (disch:=omega) only [go_sem,Aa,eq_self,if_true]) ?_
   rintro i ⟨k,hi,hk⟩
   have hni:i.toNat=k:=by omega
   have hni1:(i+1).toNat=k+1:=by omega
   rcases zB k (x.args).length with hlt | hge
   ·have hg:=get_at Tm.d hlt
    rw [Tm.d_eq] at hg
    have hc:=ih x.args[k] (zD hlt)
    have hlm:k<(x.args.map (Tm.rn e)).length:=by rw [zC]; exact hlt
    have hs:=DK Tm.o hlm
    rw [Tm.o_eq,z7] at hs
    rcases zI k with h0 | h0
    ·subst h0
     obtain rfl:i=0:=hi
     rw [z8,zL,zW] at hs
     simp (disch:=omega) only [go_sem,Aa,hni,hg,hc,Tm.osv,Tm.obs,B6,eq_self,if_true]
     refine ⟨1,⟨1,rfl,hlt⟩,by omega,?_⟩
     simp (disch:=omega) only [go_sem,Aa,h10,if_false,hs]
    ·have hi0:(i=0)=False:=by simp; omega
     have hi1:(i+1=0)=False:=by simp; omega
     have htl:((x.args.map (Tm.rn e)).take k).length=k:=by rw [zQ,zC]; omega
     simp (disch:=omega) only [go_sem,Aa,hni,hg,hc,Tm.osv,Tm.obs,B6,hi0,if_false,htl]
     refine ⟨i+1,⟨k+1,by omega,hlt⟩,by omega,?_⟩
     simp (disch:=omega) only [go_sem,Aa,hni1,hi1,if_false,hs]
   ·obtain rfl:k=x.args.length:=by omega
    have ht:(x.args.map (Tm.rn e)).take x.args.length=x.args.map (Tm.rn e):=by rw [←zC (f:=Tm.rn e)]; exact zR
    rcases zI x.args.length with h0 | h0
    ·have hx:x.args=[]:=zF h0
     obtain rfl:i=0:=by omega
     first | omega | simp (disch:=omega) only [go_sem,Aa,hni,hx,eq_self,if_true,zL,zV]
    ·have hi0:(i=0)=False:=by simp; omega
     first | omega | simp (disch:=omega) only [go_sem,Aa,hni,hi0,if_false,ht]
  ·have hz0:((x.args.length:Int)=0)=False:=eq_false (by omega)
   have hnn:nm=x.name:=by
    rw [hnm]
    cases hx:x.args with
    | nil=>rw [hx] at hz; simp at hz
    | cons a r=>rfl
   rw [hnn]
   clear hnm e0 e1 e2 hnn nm
   obtain ⟨nm,hnm⟩:∃ nm,nm=x.name:=⟨_,rfl⟩
   rw [←hnm] at hme ⊢
   refine Ad HN B6 (of_decide_eq_true rfl) ?_
   simp (disch:=omega) only [F8,go_sem,Aa,hme,hz0,Qbm,← hnm]
   refine go_loop (α:=Int) (fun a=>⟨slots 46 0 [(1,.mp true (Fk e)),(4,.ptr 0 0),(5,.ptr 1 0),(30,.arr (x.args.map Tm.d)),(31,.int .i64 x.args.length),(32,.int .i64 a)],(if a=0 then [.box 33 [.str ⟨#[]⟩,.nil],.box 33 [.str nm,.nil]] else [.box 33 [.str ⟨#[]⟩,.nil],.box 33 [.str nm,.ref 2],.row 33 2 (((x.args.map (Tm.rn e)).take a.toNat).map Tm.o)])⟩) (fun a=>∃ k:Nat,a=k∧k≤(x.args).length) (fun a=>(x.args).length-(a).toNat) 0 ⟨0,rfl,zH _⟩ (by simp (disch:=omega) only [go_sem,Aa,eq_self,if_true]) ?_
   rintro i ⟨k,hi,hk⟩
   have hni:i.toNat=k:=by omega
   have hni1:(i+1).toNat=k+1:=by omega
   rcases zB k (x.args).length with hlt | hge
   ·have hg:=get_at Tm.d hlt
    rw [Tm.d_eq] at hg
    have hc:=ih x.args[k] (zD hlt)
    have hlm:k<(x.args.map (Tm.rn e)).length:=by rw [zC]; exact hlt
    have hs:=DK Tm.o hlm
    rw [Tm.o_eq,z7] at hs
    rcases zI k with h0 | h0
    ·subst h0
     obtain rfl:i=0:=hi
     rw [z8,zL,zW] at hs
     simp (disch:=omega) only [go_sem,Aa,hni,hg,hc,Tm.osv,Tm.obs,B6,eq_self,if_true]
     refine ⟨1,⟨1,rfl,hlt⟩,by omega,?_⟩
     simp (disch:=omega) only [go_sem,Aa,h10,if_false,hs]
    ·have hi0:(i=0)=False:=by simp; omega
     have hi1:(i+1=0)=False:=by simp; omega
     have htl:((x.args.map (Tm.rn e)).take k).length=k:=by rw [zQ,zC]; omega
     simp (disch:=omega) only [go_sem,Aa,hni,hg,hc,Tm.osv,Tm.obs,B6,hi0,if_false,htl]
     refine ⟨i+1,⟨k+1,by omega,hlt⟩,by omega,?_⟩
     simp (disch:=omega) only [go_sem,Aa,hni1,hi1,if_false,hs]
   ·obtain rfl:k=x.args.length:=by omega
    have ht:(x.args.map (Tm.rn e)).take x.args.length=x.args.map (Tm.rn e):=by rw [←zC (f:=Tm.rn e)]; exact zR
    rcases zI x.args.length with h0 | h0
    ·have hx:x.args=[]:=zF h0
     obtain rfl:i=0:=by omega
     first | omega | simp (disch:=omega) only [go_sem,Aa,hni,hx,eq_self,if_true,zL,zV]
    ·have hi0:(i=0)=False:=by simp; omega
     first | omega | simp (disch:=omega) only [go_sem,Aa,hni,hi0,if_false,ht]
theorem Vt (e:SEnv) (x:Tm) (hn:x.nodes≤1099511627776):RnC e x :=
 Qaz e x (by have:=Tm.length_le x.args; have:=Tm.An x; omega) fun y hy=>Vt e y (by have:=Tm.AW hy; have:=Tm.An x; omega)
termination_by SizeOf.sizeOf x
decreasing_by exact Tm.lt_of_mem hy
def JX:SC:=(.seq (.reg [⟨(some 2),none,(.mv (.c (.str ⟨#[]⟩)))⟩]) (.seq (.seq (.reg [⟨some 3,none,.mv (.t 0)⟩,⟨some 4,none,.bin .lss false (.t 3) (.c (.int .i64 0))⟩]) (.cond (.t 4) (.seq (.reg [⟨some 5,none,.mv (.t 0)⟩,⟨some 6,none,.un .neg (.t 5)⟩,⟨some 7,none,.call 190 [(.t 6)]⟩,⟨(some 8),none,(.bin .add false (.c (.str ⟨#[45]⟩)) (.t 7))⟩,⟨some 2,none,.mv (.t 8)⟩]) .ret) .skip)) (.seq (.seq (.reg [⟨some 9,none,.mv (.t 0)⟩,⟨some 10,none,.bin .lss false (.t 9) (.c (.int .i64 10))⟩]) (.cond (.t 10) (.seq (.reg [⟨some 11,none,.mv (.t 0)⟩,⟨some 12,none,.mv (.t 0)⟩,⟨some 13,none,.bin .add false (.t 12) (.c (.int .i64 1))⟩,⟨(some 14),none,(.slice true 0 (.c (.str ⟨#[48,49,50,51,52,53,54,55,56,57]⟩)) (some (.t 11)) (some (.t 13)))⟩,⟨some 2,none,.mv (.t 14)⟩]) .ret) .skip)) (.seq (.dreg [[],[0],[1,0],[],[3],[],[5],[6,5],[4,3,7,6,5],[2,1,0,8,4,3,7,6,5],[9,2,1,0,8,4,3,7,6,5]] [⟨some 15,none,.mv (.t 0)⟩,⟨some 16,none,.bin .quo false (.t 15) (.c (.int .i64 10))⟩,⟨some 17,none,.call 190 [(.t 16)]⟩,⟨some 18,none,.mv (.t 0)⟩,⟨some 19,none,.bin .rem false (.t 18) (.c (.int .i64 10))⟩,⟨some 20,none,.mv (.t 0)⟩,⟨some 21,none,.bin .rem false (.t 20) (.c (.int .i64 10))⟩,⟨some 22,none,.bin .add false (.t 21) (.c (.int .i64 1))⟩,⟨(some 23),none,(.slice true 0 (.c (.str ⟨#[48,49,50,51,52,53,54,55,56,57]⟩)) (some (.t 19)) (some (.t 22)))⟩,⟨some 24,none,.bin .add false (.t 17) (.t 23)⟩,⟨some 2,none,.mv (.t 24)⟩]) .ret))))
theorem O6:codeOf Tryz.prog 190=some ⟨25,JX,[(.tmp 2)]⟩:=by kernel_rfl
theorem DC:modes 190=⟨[],.asis,none,false⟩:=by unfold modes; rfl
theorem Qf6 (d:Nat) (h:d<10):(⟨#[48,49,50,51,52,53,54,55,56,57]⟩:ByteArray).extract d (d+1)=⟨#[UInt8.ofNat (48+d)]⟩:=by
 have key:∀ d:_root_.Fin 10,(⟨#[48,49,50,51,52,53,54,55,56,57]⟩:ByteArray).extract d.val (d.val+1)=⟨#[UInt8.ofNat (48+d.val)]⟩:=by decide +kernel
 exact key ⟨d,h⟩
theorem QdJ (n:Int) (h0:0≤n) (h1:n≤1099511627776) (ih:10≤n→E 190 [.int .i64 (n.tdiv 10)] []=some (.str (Fu (n.tdiv 10)),[])):E 190 [.int .i64 n] []=some (.str (Fu n),[]):=by
 have hsz:(⟨#[48,49,50,51,52,53,54,55,56,57]⟩:ByteArray).size=10:=rfl
 rcases Int.lt_or_le n 10 with h | h
 ·have e1:=Qf6 n.toNat (by omega)
  have e2:(n+1).toNat=n.toNat+1:=by omega
  rw [Qax h0 h]
  refine Ad O6 DC (of_decide_eq_true rfl) ?_
  simp (disch:=omega) only [JX,go_sem,Aa,e1,e2,hsz]
 ·have hc:=ih h
  have hq:n.tdiv 10=n / 10:=zY h0
  have hr:n.tmod 10=n % 10:=yY h0
  have hq2:0≤n.tdiv 10∧n.tdiv 10≤n:=by omega
  have hr2:0≤n.tmod 10∧n.tmod 10<10:=by omega
  have hs:=FY hq2.1 (by omega:n.tdiv 10≤1099511627776)
  have e1:=Qf6 (n.tmod 10).toNat (by omega)
  have e2:(n.tmod 10+1).toNat=(n.tmod 10).toNat+1:=by omega
  rw [QdD h]
  clear hq hr
  have hs1:(⟨#[UInt8.ofNat (48+(n.tmod 10).toNat)]⟩:ByteArray).size=1:=rfl
  refine Ad O6 DC (of_decide_eq_true rfl) ?_
  simp (disch:=omega) only [JX,go_sem,Aa,hc,e1,e2,hsz,hs1,DC]
theorem WX (n:Int) (h0:0≤n) (h1:n≤1099511627776):E 190 [.int .i64 n] []=some (.str (Fu n),[]) :=
 QdJ n h0 h1 fun h=>WX (n.tdiv 10) (by rw [zY h0]; omega) (by rw [zY h0]; omega)
termination_by n.toNat
decreasing_by rw [zY h0]; omega
def Q0:SC:=(.seq (.reg [⟨some 4,none,.mv (.c (.bool false))⟩]) (.seq (.seq (.reg [⟨some 5,none,.mv (.c (.int .i64 0))⟩]) (.block 0 (.loop [1,1,0,0,0,1,0,0,0,0,0,0,0,0,0,0,0,0] (.seq (.seq (.reg [⟨some 6,none,.mv (.t 5)⟩,⟨some 7,none,.mv (.t 0)⟩,⟨some 8,none,.len false (.t 7)⟩,⟨some 9,none,.bin .lss false (.t 6) (.t 8)⟩]) (.cond (.t 9) .skip (.exit 0))) (.seq (.block 1 (.seq (.reg [⟨some 12,none,.mv (.t 0)⟩,⟨some 13,none,.mv (.t 5)⟩,⟨some 14,none,.iaddr 1 (.t 12) (.t 13)⟩,⟨some 15,none,.load false 1 (.t 14)⟩,⟨some 16,none,.mv (.t 1)⟩,⟨some 17,none,.bin .eql false (.t 15) (.t 16)⟩]) (.cond (.t 17) (.seq (.reg [⟨some 4,none,.mv (.c (.bool true))⟩]) .ret) .skip))) (.reg [⟨some 10,none,.mv (.t 5)⟩,⟨some 11,none,.bin .add false (.t 10) (.c (.int .i64 1))⟩,⟨some 5,none,.mv (.t 11)⟩])))))) (.seq (.reg [⟨some 4,none,.mv (.c (.bool false))⟩]) .ret)))
theorem YG:codeOf Tryz.prog 112=some ⟨18,Q0,[(.tmp 4)]⟩:=by kernel_rfl
theorem G7:modes 112=⟨[],.asis,none,false⟩:=by unfold modes; rfl
theorem QdK (xs:List ByteArray) (n:ByteArray) (hl:xs.length≤1099511627776):E 112 [.arr (xs.map fun s=>[D.str s]),.str n] []=some (.bool (dec (n∈xs)),[]):=by
 refine Ad YG G7 (of_decide_eq_true rfl) ?_
 simp (disch:=omega) only [Q0,go_sem,Aa]
 refine go_loop (α:=Int) (fun a=>⟨slots 18 0 [(0,.arr (xs.map fun s=>[D.str s])),(1,.str n),(5,.int .i64 a)],[]⟩) (fun a=>∃ k:Nat,a=k∧k≤(xs).length∧dec (n∈xs.drop k)=dec (n∈xs)) (fun a=>(xs).length-(a).toNat) 0 ⟨0,rfl,zH _,by rw [zJ]⟩ (by simp (disch:=omega) only [go_sem,Aa]) ?_
 rintro i ⟨k,hi,hk,hR⟩
 have hni:i.toNat=k:=by omega
 have hni1:(i+1).toNat=k+1:=by omega
 rcases zB k (xs).length with hlt | hge
 ·have hg:=get_at (fun s=>[D.str s]) hlt
  rw [zE hlt] at hR
  by_cases hp:xs[k]=n
  ·have hq:=eq_true hp
   have ht:dec (n∈xs)=true:=Ar (hp▸zD hlt)
   simp (disch:=omega) only [go_sem,Aa,hni,hg,hq]
   exact ht.symm
  ·have hq:=eq_false hp
   have hR:dec (n∈xs.drop (k+1))=dec (n∈xs):=by
    rw [←hR]
    exact Fv (by simp only [yH]; exact ⟨.inr,fun h=>h.elim (fun e=>absurd e.symm hp) id⟩)
   simp (disch:=omega) only [go_sem,Aa,hni,hg,hq]
   exact ⟨i+1,⟨k+1,by omega,hlt,hR⟩,by omega,by first | trivial | rfl⟩
 ·rw [zG hge,Ax (by simp)] at hR
  simp (disch:=omega) only [go_sem,Aa,hni]
  exact hR
def F9:SC:=(.seq (.reg [⟨some 2,none,.boxv 33 2 (.t 0)⟩,⟨some 4,none,.mv (.c .nil)⟩]) (.seq (.seq (.reg [⟨some 6,none,.faddr 0 (.t 2)⟩,⟨some 7,none,.load false 1 (.t 6)⟩,⟨some 8,none,.call 191 [(.t 7)]⟩]) (.cond (.t 8) (.seq (.seq (.reg [⟨some 9,none,.mv (.t 1)⟩,⟨some 10,none,.faddr 0 (.t 2)⟩,⟨some 11,none,.load false 1 (.t 10)⟩,⟨some 12,none,.call 112 [(.t 9),(.t 11)]⟩]) (.cond (.t 12) (.seq (.reg [⟨some 13,none,.mv (.t 1)⟩,⟨some 4,none,.mv (.t 13)⟩]) .ret) .skip)) (.seq (.reg [⟨some 14,none,.mv (.t 1)⟩,⟨some 15,none,.faddr 0 (.t 2)⟩,⟨some 16,none,.load false 1 (.t 15)⟩,⟨(some 17),none,(.mkrow 9 1 [(.str ⟨#[]⟩)] 1 [(0,(.t 16))])⟩,⟨(some 18),none,(.append 9 1 16 [(.str ⟨#[]⟩)] (.t 14) (.t 17))⟩,⟨some 4,none,.mv (.t 18)⟩]) .ret)) .skip)) (.seq (.seq (.reg [⟨some 5,none,.mv (.c (.int .i64 0))⟩]) (.block 0 (.loop [0,1,1,0,0,1,0,0,0,0,0,0,0,0,0,0,0,0,0,0,0,0,0,0,0,0,0,0,0,0,0,0,0,0] (.seq (.seq (.reg [⟨some 19,none,.mv (.t 5)⟩,⟨some 20,none,.faddr 1 (.t 2)⟩,⟨some 21,none,.load false 1 (.t 20)⟩,⟨some 22,none,.len false (.t 21)⟩,⟨some 23,none,.bin .lss false (.t 19) (.t 22)⟩]) (.cond (.t 23) .skip (.exit 0))) (.seq (.block 1 (.reg [⟨some 26,none,.faddr 1 (.t 2)⟩,⟨some 27,none,.load false 1 (.t 26)⟩,⟨some 28,none,.mv (.t 5)⟩,⟨some 29,none,.iaddr 2 (.t 27) (.t 28)⟩,⟨some 30,none,.load true 2 (.t 29)⟩,⟨some 31,none,.mv (.t 1)⟩,⟨some 32,none,.call 268 [(.t 30),(.t 31)]⟩,⟨some 1,none,.mv (.t 32)⟩])) (.reg [⟨some 24,none,.mv (.t 5)⟩,⟨some 25,none,.bin .add false (.t 24) (.c (.int .i64 1))⟩,⟨some 5,none,.mv (.t 25)⟩])))))) (.seq (.reg [⟨some 33,none,.mv (.t 1)⟩,⟨some 4,none,.mv (.t 33)⟩]) .ret))))
theorem HO:codeOf Tryz.prog 268=some ⟨34,F9,[(.tmp 4)]⟩:=by kernel_rfl
theorem Ey:modes 268=⟨[false,true],.asis,none,false⟩:=by unfold modes; rfl
def Lv:SC:=(.seq (.reg [⟨some 1,none,.boxv 60 1 (.t 0)⟩,⟨some 2,none,.mv (.c .nil)⟩]) (.seq (.reg [⟨(some 5),none,(.mkrow 9 1 [(.str ⟨#[]⟩)] 0 [])⟩,⟨some 3,none,.mv (.t 5)⟩]) (.seq (.seq (.reg [⟨some 4,none,.mv (.c (.int .i64 0))⟩]) (.block 0 (.loop [0,1,0,1,1,0,0,0,0,0,0,0,0,0,0,0,0,0,0,0,0,0] (.seq (.seq (.reg [⟨some 6,none,.mv (.t 4)⟩,⟨some 7,none,.faddr 0 (.t 1)⟩,⟨some 8,none,.load false 1 (.t 7)⟩,⟨some 9,none,.len false (.t 8)⟩,⟨some 10,none,.bin .lss false (.t 6) (.t 9)⟩]) (.cond (.t 10) .skip (.exit 0))) (.seq (.block 1 (.reg [⟨some 13,none,.faddr 0 (.t 1)⟩,⟨some 14,none,.load false 1 (.t 13)⟩,⟨some 15,none,.mv (.t 4)⟩,⟨some 16,none,.iaddr 3 (.t 14) (.t 15)⟩,⟨some 17,none,.faddr 1 (.t 16)⟩,⟨some 18,none,.load true 2 (.t 17)⟩,⟨some 19,none,.mv (.t 3)⟩,⟨some 20,none,.call 268 [(.t 18),(.t 19)]⟩,⟨some 3,none,.mv (.t 20)⟩])) (.reg [⟨some 11,none,.mv (.t 4)⟩,⟨some 12,none,.bin .add false (.t 11) (.c (.int .i64 1))⟩,⟨some 4,none,.mv (.t 12)⟩])))))) (.seq (.reg [⟨some 21,none,.mv (.t 3)⟩,⟨some 2,none,.mv (.t 21)⟩]) .ret))))
theorem Td:codeOf Tryz.prog 196=some ⟨22,Lv,[(.tmp 2)]⟩:=by kernel_rfl
theorem D0:modes 196=⟨[],.asis,none,false⟩:=by unfold modes; rfl
def Is:SC:=(.seq (.reg [⟨some 1,none,.boxv 60 1 (.t 0)⟩,⟨some 2,none,.mv (.c (.bool false))⟩]) (.seq (.reg [⟨some 5,none,.load true 1 (.t 1)⟩,⟨some 6,none,.call 196 [(.t 5)]⟩,⟨some 3,none,.mv (.t 6)⟩]) (.seq (.seq (.reg [⟨some 4,none,.mv (.c (.int .i64 0))⟩]) (.block 0 (.loop [0,0,0,1,1,0,0,0,0,0,0,0,0,0,0,0,0,0,0,0,0] (.seq (.seq (.reg [⟨some 7,none,.mv (.t 4)⟩,⟨some 8,none,.mv (.t 3)⟩,⟨some 9,none,.len false (.t 8)⟩,⟨some 10,none,.bin .lss false (.t 7) (.t 9)⟩]) (.cond (.t 10) .skip (.exit 0))) (.seq (.block 1 (.seq (.dreg [[],[],[0,1],[2,0,1],[],[4],[5,4],[3,2,0,1,6,5,4]] [⟨some 13,none,.mv (.t 3)⟩,⟨some 14,none,.mv (.t 4)⟩,⟨some 15,none,.iaddr 1 (.t 13) (.t 14)⟩,⟨some 16,none,.load false 1 (.t 15)⟩,⟨some 17,none,.mv (.t 4)⟩,⟨some 18,none,.call 190 [(.t 17)]⟩,⟨(some 19),none,(.bin .add false (.c (.str ⟨#[88]⟩)) (.t 18))⟩,⟨some 20,none,.bin .neq false (.t 16) (.t 19)⟩]) (.cond (.t 20) (.seq (.reg [⟨some 2,none,.mv (.c (.bool false))⟩]) .ret) .skip))) (.reg [⟨some 11,none,.mv (.t 4)⟩,⟨some 12,none,.bin .add false (.t 11) (.c (.int .i64 1))⟩,⟨some 4,none,.mv (.t 12)⟩])))))) (.seq (.reg [⟨some 2,none,.mv (.c (.bool true))⟩]) .ret))))
theorem O7:codeOf Tryz.prog 144=some ⟨21,Is,[(.tmp 2)]⟩:=by kernel_rfl
theorem BQ:modes 144=⟨[],.asis,none,false⟩:=by unfold modes; rfl
def GP:SC:=(.seq (.reg [⟨some 1,none,.boxv 60 1 (.t 0)⟩,⟨some 2,none,.mv (.c (.bool false))⟩]) (.seq (.reg [⟨some 3,none,.load true 1 (.t 1)⟩,⟨some 4,none,.call 143 [(.t 3)]⟩,⟨some 5,none,.mv (.t 4)⟩,⟨(some 6),(some (5,true)),(.load true 1 (.t 1))⟩,⟨(some 7),(some (5,true)),(.call 144 [(.t 6)])⟩,⟨some 8,none,.pick (.t 5) (.t 7) (.c (.bool false))⟩,⟨some 2,none,.mv (.t 8)⟩]) .ret))
theorem Kw:codeOf Tryz.prog 76=some ⟨9,GP,[(.tmp 2)]⟩:=by kernel_rfl
theorem DN:modes 76=⟨[],.asis,none,false⟩:=by unfold modes; rfl
abbrev QfV (x:Tm):Prop:=∀ l:List ByteArray,l.length+x.nodes≤1048576→E 268 [x.sv,.ref 0] [.row 9 1 (l.map fun s=>[OT.str s])]=some ((bif dec (l.length<(C7 l x.vs).length) then .ref 1 else .ref 0),(bif dec (l.length<(C7 l x.vs).length) then [.gone,.row 9 1 ((C7 l x.vs).map fun s=>[OT.str s])] else [.row 9 1 ((C7 l x.vs).map fun s=>[OT.str s])]))
theorem Qa0 (x:Tm) (ih:∀ y∈x.args,QfV y):QfV x:=by
 intro l hn
 have hl:=Tm.length_le x.args
 have hne:=Tm.An x
 have hvs:=Tm.FN x
 have hv:=Am x.name
 cases hvv:Ao x.name with
 | true =>
  rw [hvv] at hvs hv
  have h1:=QdK l x.name (by omega)
  rw [hvs]
  cases hm:dec (x.name∈l) with
  | true =>
   have e:C7 l [x.name]=l:=by simp only [C7,zX,yS,M0,hm,cond_true]
   have hg:dec (l.length<l.length)=false:=Ax (by omega)
   rw [hm] at h1
   simp only [cond_true,e,hg]
   refine Ad HO Ey (of_decide_eq_true rfl) ?_
   simp (disch:=omega) only [F9,go_sem,Aa,hv,h1,Ah,G7]
  | false =>
   have e:C7 l [x.name]=l++[x.name]:=by simp only [C7,zX,yS,M0,hm,cond_false]
   have hg:l.length<(l++[x.name]).length:=by simp
   rw [hm] at h1
   simp only [cond_true,e,Ar hg]
   refine Ad HO Ey (of_decide_eq_true rfl) ?_
   simp (disch:=omega) only [F9,go_sem,Aa,hv,h1,Ah,G7]
   first | done | simp only [yD,zK,zL]
 | false =>
  rw [hvv] at hvs hv
  simp only [cond_false] at hvs
  rw [hvs]
  have hgl:dec (l.length<l.length)=false:=Ax (by omega)
  refine Ad HO Ey (of_decide_eq_true rfl) ?_
  simp (disch:=omega) only [F9,go_sem,Aa,hv,Ah]
  refine go_loop (α:=Int × (List ByteArray)) (fun a=>⟨slots 34 0 [(1,(bif dec (l.length<(a.2).length) then .ref 1 else .ref 0)),(2,(bif dec (l.length<(a.2).length) then .ptr 2 0 else .ptr 1 0)),(5,.int .i64 (a.1))],(bif dec (l.length<(a.2).length) then [.gone,.row 9 1 ((a.2).map fun s=>[OT.str s]),.box 33 [.str x.name,.arr (x.args.map Tm.d)]] else [.row 9 1 ((a.2).map fun s=>[OT.str s]),.box 33 [.str x.name,.arr (x.args.map Tm.d)]])⟩) (fun a=>∃ k:Nat,a.1=k∧k≤(x.args).length∧C7 (a.2) (Tm.vsL (x.args.drop k))=C7 l (Tm.vsL x.args)∧(a.2).length+Tm.Bf (x.args.drop k)≤1048576∧l.length≤(a.2).length) (fun a=>(x.args).length-(a.1).toNat) (0,l) ⟨0,rfl,zH _,by rw [zJ],by rw [zJ]; dsimp only; omega,zN _⟩ (by simp (disch:=omega) only [go_sem,Aa,hgl]) ?_
  rintro ⟨i,acc⟩ ⟨k,hi,hk,hR⟩
  dsimp only at hi hR
  have hni:i.toNat=k:=by omega
  have hni1:(i+1).toNat=k+1:=by omega
  rcases zB k (x.args).length with hlt | hge
  ·have hg:=get_at Tm.d hlt
   rw [Tm.d_eq] at hg
   obtain ⟨hR1,hR2,hR3⟩:=hR
   rw [zE hlt,Tm.vsL,O3] at hR1
   rw [zE hlt,Tm.Bf] at hR2
   have hc:=ih x.args[k] (zD hlt) acc (by omega)
   have hlen:=Jt x.args[k].vs acc
   have hgr:=P9 x.args[k].vs acc
   have hvl:=Tm.vs_len x.args[k]
   have has:x.args[k].sv=.agg [.str x.args[k].name,.arr (x.args[k].args.map Tm.d)]:=rfl
   rw [has] at hc
   obtain ⟨acc2,ha2⟩:∃ a,a=C7 acc x.args[k].vs:=⟨_,rfl⟩
   rw [←ha2] at hc hlen hgr hR1
   rcases zB l.length acc.length with q1 | q1 <;> rcases zB acc.length acc2.length with q2 | q2
   all_goals
    first
     |rw [Ar q2] at hc
     |rw [Ax (y6.2 q2)] at hc
    simp only [cond_true,cond_false] at hc
    simp (disch:=omega) only [go_sem,Aa,hni,hg,hc,Ey]
    refine ⟨(i+1,acc2),⟨k+1,by dsimp only; omega,hlt,hR1,by dsimp only; omega,by dsimp only; omega⟩,by dsimp only; omega,?_⟩
    first | done | simp (disch:=omega) only [go_sem,Aa]
  ·rw [zG hge,Tm.vsL] at hR
   obtain ⟨hR1,hR2,hR3⟩:=hR
   have hR1:acc=C7 l (Tm.vsL x.args):=hR1
   rw [←hR1]
   rcases zB l.length acc.length with q1 | q1
   ·simp (disch:=omega) only [go_sem,Aa,hni]
   ·simp (disch:=omega) only [go_sem,Aa,hni]
theorem Vu (x:Tm):QfV x:=Qa0 x fun y hy=>Vu y
termination_by SizeOf.sizeOf x
decreasing_by exact Tm.lt_of_mem hy
theorem PE (c:Cl) (hc:c.ok=true):E 196 [c.sv] []=some (.ref 0,[.row 9 1 (c.ns.map fun s=>[OT.str s])]):=by
 have hl:=Cl.ok_len hc
 have hsv:c.sv=.agg [.arr (c.lits.map Lt.d)]:=rfl
 have hns:c.ns=C7 [] (Lt.vsL c.lits):=rfl
 rw [hsv,hns]
 refine Ad Td D0 (of_decide_eq_true rfl) ?_
 simp (disch:=omega) only [Lv,go_sem,Aa]
 refine go_loop (α:=Int × (List ByteArray)) (fun a=>⟨slots 22 0 [(1,.ptr 0 0),(3,.ref 1),(4,.int .i64 (a.1))],[.box 60 [.arr (c.lits.map Lt.d)],.row 9 1 ((a.2).map fun s=>[OT.str s])]⟩) (fun a=>∃ k:Nat,a.1=k∧k≤(c.lits).length∧C7 (a.2) (Lt.vsL (c.lits.drop k))=C7 [] (Lt.vsL c.lits)∧(a.2).length≤30*k) (fun a=>(c.lits).length-(a.1).toNat) (0,[]) ⟨0,rfl,zH _,by rw [zJ],zN _⟩ (by simp (disch:=omega) only [go_sem,Aa]) ?_
 rintro ⟨i,acc⟩ ⟨k,hi,hk,hR⟩
 dsimp only at hi hR
 have hni:i.toNat=k:=by omega
 have hni1:(i+1).toNat=k+1:=by omega
 rcases zB k (c.lits).length with hlt | hge
 ·have hg:=get_at Lt.d hlt
  rw [Lt.d_eq] at hg
  obtain ⟨hR1,hR2⟩:=hR
  rw [zE hlt,Lt.vsL,O3] at hR1
  have hnn:=Tm.CO (Cl.JV hc hlt)
  have hcl:=Vu c.lits[k].atom acc (by omega)
  have has:c.lits[k].atom.sv=.agg [.str c.lits[k].atom.name,.arr (c.lits[k].atom.args.map Tm.d)]:=rfl
  rw [has] at hcl
  have hlen:=Jt c.lits[k].atom.vs acc
  have hvl:=Tm.vs_len c.lits[k].atom
  obtain ⟨acc2,ha2⟩:∃ a,a=C7 acc c.lits[k].atom.vs:=⟨_,rfl⟩
  rw [←ha2] at hcl hlen hR1
  rcases zB acc.length acc2.length with q2 | q2
  all_goals
   first
    |rw [Ar q2] at hcl
    |rw [Ax (y6.2 q2)] at hcl
   simp only [cond_true,cond_false] at hcl
   simp (disch:=omega) only [go_sem,Aa,hni,hg,hcl,Ey]
   refine ⟨(i+1,acc2),⟨k+1,by dsimp only; omega,hlt,hR1,by dsimp only; omega⟩,by dsimp only; omega,?_⟩
   first | trivial | rfl | exact ⟨rfl,rfl⟩
 ·rw [zG hge,Lt.vsL] at hR
  obtain ⟨hR1,hR2⟩:=hR
  have hR1:acc=_:=hR1
  rw [←hR1]
  simp (disch:=omega) only [go_sem,Aa,hni]
theorem JY (c:Cl) (hc:c.ok=true):E 144 [c.sv] []=some (.bool c.norm,[]):=by
 have h1:=PE c hc
 have hn:=Cl.N0 hc
 have hcs:c.sv=.agg [.arr (c.lits.map Lt.d)]:=rfl
 obtain ⟨ns,hns⟩:∃ ns,ns=c.ns:=⟨_,rfl⟩
 have hnm:c.norm=dec (O5 ns):=by unfold Cl.norm; rw [hns]
 rw [←hns] at hn h1
 rw [hnm]
 refine Ad O7 BQ (of_decide_eq_true rfl) ?_
 simp (disch:=omega) only [Is,go_sem,Aa,h1,D0]
 refine go_loop (α:=Int) (fun a=>⟨slots 21 0 [(3,.ref 0),(4,.int .i64 a)],[.row 9 1 (ns.map fun s=>[OT.str s])]⟩) (fun a=>∃ k:Nat,a=k∧k≤(ns).length∧∀ (j:Nat),j<k→∀ hj:j<ns.length,ns[j]=pre M1 (j:Nat)) (fun a=>(ns).length-(a).toNat) 0 ⟨0,rfl,zH _,fun j hj=>absurd hj (Nat.not_lt_zero _)⟩ (by simp (disch:=omega) only [go_sem,Aa]) ?_
 rintro i ⟨k,hi,hk,hR⟩
 have hni:i.toNat=k:=by omega
 have hni1:(i+1).toNat=k+1:=by omega
 rcases zB k (ns).length with hlt | hge
 ·have hg:=get_at (fun s=>[OT.str s]) hlt
  have hit:=WX i (by omega) (by omega)
  have hz:=FY (show 0≤i by omega) (show i≤1099511627776 by omega)
  have hb:dec ((#[88]:Array UInt8).size+(Fu i).size≤9223372036854775807)=true:=Ar (by simp; omega)
  by_cases he:ns[k]=pre M1 (k:Nat)
  ·have he':dec (ns[k]=(⟨#[88]⟩:ByteArray)++Fu i)=true:=Ar (by rw [he,hi]; rfl)
   simp (disch:=omega) only [go_sem,Aa,hni,hg,hit,hb,he',DC]
   refine ⟨i+1,⟨k+1,by omega,hlt,fun j hj hjl=>?_⟩,by omega,by first | trivial | rfl⟩
   rcases zB j k with h2 | h2
   ·exact hR j h2 hjl
   ·obtain rfl:j=k:=by omega
    exact he
  ·have he':dec (ns[k]=(⟨#[88]⟩:ByteArray)++Fu i)=false:=Ax (fun e=>he (by rw [e,hi]; rfl))
   have hno:dec (O5 ns)=false:=Ax fun h=>he (h k hlt)
   rw [hno]
   simp (disch:=omega) only [go_sem,Aa,hni,hg,hit,hb,he',DC]
 ·have hy:dec (O5 ns)=true:=Ar fun j hj=>hR j (by omega) hj
  rw [hy]
  simp (disch:=omega) only [go_sem,Aa,hni]
theorem Te (c:Cl) (hc:c.tame):E 76 [c.sv] []=some (.bool (c.ok&&c.norm),[]):=by
 have h1:=SB c hc
 cases hv:c.ok with
 | false =>
  rw [hv] at h1
  refine Ad Kw DN (of_decide_eq_true rfl) ?_
  simp (disch:=omega) only [GP,go_sem,Aa,h1,B4]
 | true =>
  rw [hv] at h1
  have h2:=JY c hv
  refine Ad Kw DN (of_decide_eq_true rfl) ?_
  simp (disch:=omega) only [GP,go_sem,Aa,h1,h2,B4,BQ]
def GQ:SC:=(.seq (.reg [⟨some 3,none,.boxv 33 2 (.t 0)⟩,⟨(some 6),none,(.alloc 33 [(.str ⟨#[]⟩),.nil])⟩]) (.seq (.seq (.reg [⟨some 10,none,.faddr 0 (.t 3)⟩,⟨some 11,none,.load false 1 (.t 10)⟩,⟨some 12,none,.call 191 [(.t 11)]⟩]) (.cond (.t 12) (.seq (.seq (.reg [⟨some 7,none,.mv (.c (.int .i64 0))⟩]) (.block 0 (.loop [0,1,1,1,0,0,1,1,0,0,0,0,0,0,0,0,0,0,0,0,0,0,0,0,0,0,0,0,0,0,0,0,0,0,0,0,0,0,0,0,0,0,0,0,0,0,0,0,0,0,0,0,0,0,0,0,0,0] (.seq (.seq (.reg [⟨some 13,none,.mv (.t 7)⟩,⟨some 14,none,.mv (.t 1)⟩,⟨some 15,none,.len false (.t 14)⟩,⟨some 16,none,.bin .lss false (.t 13) (.t 15)⟩]) (.cond (.t 16) .skip (.exit 0))) (.seq (.block 1 (.seq (.dreg [[],[],[0,1],[2,0,1],[],[4],[3,2,0,1,5,4]] [⟨some 19,none,.mv (.t 1)⟩,⟨some 20,none,.mv (.t 7)⟩,⟨some 21,none,.iaddr 1 (.t 19) (.t 20)⟩,⟨some 22,none,.load false 1 (.t 21)⟩,⟨some 23,none,.faddr 0 (.t 3)⟩,⟨some 24,none,.load false 1 (.t 23)⟩,⟨some 25,none,.bin .eql false (.t 22) (.t 24)⟩]) (.cond (.t 25) (.seq (.reg [⟨some 26,none,.mv (.t 2)⟩,⟨some 27,none,.mv (.t 7)⟩,⟨some 28,none,.call 190 [(.t 27)]⟩,⟨some 29,none,.bin .add false (.t 26) (.t 28)⟩,⟨(some 30),none,(.build [(.str ⟨#[]⟩),.nil] [(0,(1,(.t 29)))])⟩,⟨none,none,(.store 2 (.t 6) (.t 30))⟩]) .ret) .skip))) (.reg [⟨some 17,none,.mv (.t 7)⟩,⟨some 18,none,.bin .add false (.t 17) (.c (.int .i64 1))⟩,⟨some 7,none,.mv (.t 18)⟩])))))) (.seq (.reg [⟨some 31,none,.faddr 0 (.t 3)⟩,⟨some 32,none,.load false 1 (.t 31)⟩,⟨(some 33),none,(.build [(.str ⟨#[]⟩),.nil] [(0,(1,(.t 32)))])⟩,⟨none,none,(.store 2 (.t 6) (.t 33))⟩]) .ret)) .skip)) (.seq (.reg [⟨some 34,none,.faddr 0 (.t 3)⟩,⟨some 35,none,.load false 1 (.t 34)⟩,⟨(some 36),none,(.build [(.str ⟨#[]⟩),.nil] [(0,(1,(.t 35)))])⟩,⟨(some 8),none,(.alloc 33 [(.str ⟨#[]⟩),.nil])⟩,⟨none,none,(.store 2 (.t 8) (.t 36))⟩]) (.seq (.seq (.reg [⟨some 9,none,.mv (.c (.int .i64 0))⟩]) (.block 2 (.loop [0,1,1,1,0,0,1,0,1,1,0,0,0,0,0,0,0,0,0,0,0,0,0,0,0,0,0,0,0,0,0,0,0,0,0,0,0,0,0,0,0,0,0,0,0,0,0,0,0,0,0,0,0,0,0,0,0,0] (.seq (.seq (.reg [⟨some 37,none,.mv (.t 9)⟩,⟨some 38,none,.faddr 1 (.t 3)⟩,⟨some 39,none,.load false 1 (.t 38)⟩,⟨some 40,none,.len false (.t 39)⟩,⟨some 41,none,.bin .lss false (.t 37) (.t 40)⟩]) (.cond (.t 41) .skip (.exit 2))) (.seq (.block 3 (.dreg [[],[0],[],[2],[],[3,2,4],[5,3,2,4],[],[],[6,5,3,2,4,7,8],[9,6,5,3,2,4,7,8],[1,0,10,9,6,5,3,2,4,7,8],[0,1,2,3,4,5,6,7,8,9,10,11],[12,0,1,2,3,4,5,6,7,8,9,10,11]] [⟨some 44,none,.faddr 1 (.t 8)⟩,⟨some 45,none,.load false 1 (.t 44)⟩,⟨some 46,none,.faddr 1 (.t 3)⟩,⟨some 47,none,.load false 1 (.t 46)⟩,⟨some 48,none,.mv (.t 9)⟩,⟨some 49,none,.iaddr 2 (.t 47) (.t 48)⟩,⟨some 50,none,.load true 2 (.t 49)⟩,⟨some 51,none,.mv (.t 1)⟩,⟨some 52,none,.mv (.t 2)⟩,⟨some 53,none,.call 286 [(.t 50),(.t 51),(.t 52)]⟩,⟨(some 54),none,(.mkrow 33 2 [(.str ⟨#[]⟩),.nil] 1 [(0,(.t 53))])⟩,⟨(some 55),none,(.append 33 2 40 [(.str ⟨#[]⟩),.nil] (.t 45) (.t 54))⟩,⟨some 56,none,.faddr 1 (.t 8)⟩,⟨none,none,(.store 1 (.t 56) (.t 55))⟩])) (.reg [⟨some 42,none,.mv (.t 9)⟩,⟨some 43,none,.bin .add false (.t 42) (.c (.int .i64 1))⟩,⟨some 9,none,.mv (.t 43)⟩])))))) (.seq (.reg [⟨some 57,none,.load true 2 (.t 8)⟩,⟨none,none,(.store 2 (.t 6) (.t 57))⟩]) .ret)))))
theorem Kx:codeOf Tryz.prog 286=some ⟨58,GQ,[(.cell 6 true 2)]⟩:=by kernel_rfl
theorem DO:modes 286=⟨[],.frz,none,false⟩:=by unfold modes; rfl
abbrev RnS (ns:List ByteArray) (p:ByteArray) (x:Tm):Prop:=E 286 [x.sv,.arr (ns.map fun s=>[D.str s]),.str p] []=some ((x.rn (Dz p ns)).sv,[])
theorem Q1 (ns:List ByteArray) (p:ByteArray) (hp:p.size≤1048576) (hnd:ns.Nodup) (hnl:ns.length≤1048576) (hnv:∀ s∈ns,Ao s=true) (x:Tm) (hx:Ao x.name=true→x.args=[]) (hn:x.args.length≤1099511627776) (ih:∀ y∈x.args,RnS ns p y):RnS ns p x:=by
 unfold RnS
 have hv:=Am x.name
 obtain ⟨e,he⟩:∃ e,e=Dz p ns:=⟨_,rfl⟩
 rw [←he]
 cases hb:Ao x.name with
 | true =>
  rw [hb] at hv
  have hx0:=hx hb
  refine Ad Kx DO (of_decide_eq_true rfl) ?_
  simp (disch:=omega) only [GQ,go_sem,Aa,hv,Ah]
  refine go_loop (α:=Int) (fun a=>⟨slots 58 0 [(1,.arr (ns.map fun s=>[D.str s])),(2,.str p),(3,.ptr 0 0),(6,.ptr 1 0),(7,.int .i64 a)],[.box 33 [.str x.name,.arr (x.args.map Tm.d)],.box 33 [.str ⟨#[]⟩,.nil]]⟩) (fun a=>∃ k:Nat,a=k∧k≤(ns).length∧∀ (j:Nat),j<k→∀ hj:j<ns.length,¬ ns[j]=x.name) (fun a=>(ns).length-(a).toNat) 0 ⟨0,rfl,zH _,fun j hj=>absurd hj (Nat.not_lt_zero _)⟩ (by simp (disch:=omega) only [go_sem,Aa]) ?_
  rintro i ⟨k,hi,hk,hR⟩
  have hni:i.toNat=k:=by omega
  have hni1:(i+1).toNat=k+1:=by omega
  rcases zB k (ns).length with hlt | hge
  ·have hg:=get_at (fun s=>[D.str s]) hlt
   by_cases hq:ns[k]=x.name
   ·have hq1:=eq_true hq
    have hq2:=Ar hq
    have hit:=WX i (by omega) (by omega)
    have hz:=FY (show 0≤i by omega) (show i≤1099511627776 by omega)
    have hbd:dec (p.size+(Fu i).size≤9223372036854775807)=true:=Ar (by omega)
    have e1:x.rn e=.mk (p++Fu i) []:=by
     rw [Tm.SY,hx0,← hq,he,SZ p hnd hlt,hi]; rfl
    have e2:(Tm.mk (p++Fu i) []).sv=.agg [.str (p++Fu i),.arr []]:=rfl
    rw [e1,e2]
    simp (disch:=omega) only [go_sem,Aa,hni,hg,hq1,hq2,hit,hbd,DC]
   ·have hq1:=eq_false hq
    have hq2:=Ax hq
    simp (disch:=omega) only [go_sem,Aa,hni,hg,hq1,hq2,DC]
    refine ⟨i+1,⟨k+1,by omega,hlt,fun j hj hjl=>?_⟩,by omega,by first | trivial | rfl⟩
    rcases zB j k with h2 | h2
    ·exact hR j h2 hjl
    ·obtain rfl:j=k:=by omega
     exact hq
  ·have hno:x.name ∉ ns:=fun h=>by
    obtain ⟨j,hj,h⟩:=zS h
    exact hR j (by omega) hj h
   have e1:x.rn e=.mk x.name []:=by rw [Tm.SY,hx0,he,PB p hno]; rfl
   have e2:(Tm.mk x.name []).sv=.agg [.str x.name,.arr []]:=rfl
   rw [e1,e2]
   simp (disch:=omega) only [go_sem,Aa,hni]
 | false =>
  rw [hb] at hv
  have hen:e x.name=none:=by rw [he]; exact PB p fun h=>by have:=hnv _ h; rw [hb] at this; cases this
  have e1:x.rn e=.mk x.name (x.args.map (Tm.rn e)):=by
   rw [Tm.SY,hen]
   cases x.args.isEmpty <;> rfl
  have e2:(Tm.mk x.name (x.args.map (Tm.rn e))).sv=.agg [.str x.name,.arr ((x.args.map (Tm.rn e)).map Tm.d)]:=rfl
  rw [e1,e2]
  have h10:((1:Int)=0)=False:=by simp
  have hfu:=Tm.Ow (x.args.map (Tm.rn e))
  have her:=Tm.WM (x.args.map (Tm.rn e))
  refine Ad Kx DO (of_decide_eq_true rfl) ?_
  simp (disch:=omega) only [GQ,go_sem,Aa,hv,Ah]
  refine go_loop (α:=Int) (fun a=>⟨slots 58 0 [(1,.arr (ns.map fun s=>[D.str s])),(2,.str p),(3,.ptr 0 0),(6,.ptr 1 0),(8,.ptr 2 0),(9,.int .i64 a)],(if a=0 then [.box 33 [.str x.name,.arr (x.args.map Tm.d)],.box 33 [.str ⟨#[]⟩,.nil],.box 33 [.str x.name,.nil]] else [.box 33 [.str x.name,.arr (x.args.map Tm.d)],.box 33 [.str ⟨#[]⟩,.nil],.box 33 [.str x.name,.ref 3],.row 33 2 (((x.args.map (Tm.rn e)).take a.toNat).map Tm.osh)])⟩) (fun a=>∃ k:Nat,a=k∧k≤(x.args).length) (fun a=>(x.args).length-(a).toNat) 0 ⟨0,rfl,zH _⟩ (by simp (disch:=omega) only [go_sem,Aa,eq_self,if_true]) ?_
  rintro i ⟨k,hi,hk⟩
  have hni:i.toNat=k:=by omega
  have hni1:(i+1).toNat=k+1:=by omega
  rcases zB k (x.args).length with hlt | hge
  ·have hg:=get_at Tm.d hlt
   rw [Tm.d_eq] at hg
   have hc:=ih x.args[k] (zD hlt)
   unfold RnS at hc
   rw [←he] at hc
   have hlm:k<(x.args.map (Tm.rn e)).length:=by rw [zC]; exact hlt
   have hs:=DK Tm.osh hlm
   rw [Tm.SD,z7] at hs
   rcases zI k with h0 | h0
   ·subst h0
    obtain rfl:i=0:=hi
    rw [z8,zL,zW] at hs
    simp (disch:=omega) only [go_sem,Aa,hni,hg,hc,DO,eq_self,if_true]
    refine ⟨1,⟨1,rfl,hlt⟩,by omega,?_⟩
    simp (disch:=omega) only [go_sem,Aa,h10,if_false,hs]
   ·have hi0:(i=0)=False:=by simp; omega
    have hi1:(i+1=0)=False:=by simp; omega
    have htl:((x.args.map (Tm.rn e)).take k).length=k:=by rw [zQ,zC]; omega
    simp (disch:=omega) only [go_sem,Aa,hni,hg,hc,DO,hi0,if_false,htl]
    refine ⟨i+1,⟨k+1,by omega,hlt⟩,by omega,?_⟩
    simp (disch:=omega) only [go_sem,Aa,hni1,hi1,if_false,hs]
  ·obtain rfl:k=x.args.length:=by omega
   have ht:(x.args.map (Tm.rn e)).take x.args.length=x.args.map (Tm.rn e):=by rw [←zC (f:=Tm.rn e)]; exact zR
   rcases zI x.args.length with h0 | h0
   ·have hx:x.args=[]:=zF h0
    obtain rfl:i=0:=by omega
    simp (disch:=omega) only [go_sem,Aa,hni,hx,eq_self,if_true,zL,zV]
   ·have hi0:(i=0)=False:=by simp; omega
    simp (disch:=omega) only [go_sem,Aa,hni,hi0,if_false,ht,hfu,her]
theorem Tf (ns:List ByteArray) (p:ByteArray) (hp:p.size≤1048576) (hnd:ns.Nodup) (hnl:ns.length≤1048576) (hnv:∀ s∈ns,Ao s=true) (x:Tm) (hx:x.names=true) (hn:x.nodes≤1099511627776):RnS ns p x :=
 Q1 ns p hp hnd hnl hnv x (fun h=>Tm.E7 hx h) (by have:=Tm.length_le x.args; have:=Tm.An x; omega) fun y hy=>Tf ns p hp hnd hnl hnv y (Tm.DU hx hy) (by have:=Tm.AW hy; have:=Tm.An x; omega)
termination_by SizeOf.sizeOf x
decreasing_by exact Tm.lt_of_mem hy
theorem YH (ns:List ByteArray) (p:ByteArray) (hp:p.size≤1048576) (hnd:ns.Nodup) (hnl:ns.length≤1048576) (hnv:∀ s∈ns,Ao s=true) (x:Tm) (hx:x.atom=true):RnS ns p x:=by
 have hn:=Tm.CO hx
 have h1:=Tm.An x
 have h2:=Tm.length_le x.args
 exact Q1 ns p hp hnd hnl hnv x (Tm.Gb hx).1 (by omega) fun y hy=>Tf ns p hp hnd hnl hnv y ((Tm.Gb hx).2 y hy) (by have:=Tm.AW hy; omega)
def Ky:SC:=(.seq (.reg [⟨some 3,none,.boxv 60 1 (.t 0)⟩,⟨some 6,none,.alloc 60 [.nil]⟩]) (.seq (.reg [⟨(some 9),none,(.mkrow 122 3 [(.bool false),(.str ⟨#[]⟩),.nil] 0 [])⟩,⟨some 7,none,.mv (.t 9)⟩]) (.seq (.seq (.reg [⟨some 8,none,.mv (.c (.int .i64 0))⟩]) (.block 0 (.loop [0,1,1,1,0,0,1,1,1,0,0,0,0,0,0,0,0,0,0,0,0,0,0,0,0,0,0,0,0,0,0,0,0,0,0,0,0,0] (.seq (.seq (.reg [⟨some 10,none,.mv (.t 8)⟩,⟨some 11,none,.faddr 0 (.t 3)⟩,⟨some 12,none,.load false 1 (.t 11)⟩,⟨some 13,none,.len false (.t 12)⟩,⟨some 14,none,.bin .lss false (.t 10) (.t 13)⟩]) (.cond (.t 14) .skip (.exit 0))) (.seq (.block 1 (.dreg [[],[],[1],[],[2,1,3],[4,2,1,3],[5,4,2,1,3],[],[7],[],[8,7,9],[10,8,7,9],[11,10,8,7,9],[],[],[12,11,10,8,7,9,13,14],[6,5,4,2,1,3,15,12,11,10,8,7,9,13,14],[16,6,5,4,2,1,3,15,12,11,10,8,7,9,13,14],[0,17,16,6,5,4,2,1,3,15,12,11,10,8,7,9,13,14],[18,0,17,16,6,5,4,2,1,3,15,12,11,10,8,7,9,13,14]] [⟨some 17,none,.mv (.t 7)⟩,⟨some 18,none,.faddr 0 (.t 3)⟩,⟨some 19,none,.load false 1 (.t 18)⟩,⟨some 20,none,.mv (.t 8)⟩,⟨some 21,none,.iaddr 3 (.t 19) (.t 20)⟩,⟨some 22,none,.faddr 0 (.t 21)⟩,⟨some 23,none,.load false 1 (.t 22)⟩,⟨some 24,none,.faddr 0 (.t 3)⟩,⟨some 25,none,.load false 1 (.t 24)⟩,⟨some 26,none,.mv (.t 8)⟩,⟨some 27,none,.iaddr 3 (.t 25) (.t 26)⟩,⟨some 28,none,.faddr 1 (.t 27)⟩,⟨some 29,none,.load true 2 (.t 28)⟩,⟨some 30,none,.mv (.t 1)⟩,⟨some 31,none,.mv (.t 2)⟩,⟨some 32,none,.call 286 [(.t 29),(.t 30),(.t 31)]⟩,⟨(some 33),none,(.build [(.bool false),(.str ⟨#[]⟩),.nil] [(0,(1,(.t 23))),(1,(2,(.t 32)))])⟩,⟨(some 34),none,(.mkrow 122 3 [(.bool false),(.str ⟨#[]⟩),.nil] 1 [(0,(.t 33))])⟩,⟨(some 35),none,(.append 122 3 48 [(.bool false),(.str ⟨#[]⟩),.nil] (.t 17) (.t 34))⟩,⟨some 7,none,.mv (.t 35)⟩])) (.reg [⟨some 15,none,.mv (.t 8)⟩,⟨some 16,none,.bin .add false (.t 15) (.c (.int .i64 1))⟩,⟨some 8,none,.mv (.t 16)⟩])))))) (.seq (.reg [⟨some 36,none,.mv (.t 7)⟩,⟨some 37,none,.call 218 [(.t 36)]⟩,⟨none,none,(.store 1 (.t 6) (.t 37))⟩]) .ret))))
theorem QH:codeOf Tryz.prog 221=some ⟨38,Ky,[(.cell 6 true 1)]⟩:=by kernel_rfl
theorem DP:modes 221=⟨[],.frz,none,false⟩:=by unfold modes; rfl
theorem Tg (c:Cl) (hc:c.ok=true) (ns:List ByteArray) (hns:ns=c.ns) (p:ByteArray) (hp:p.size≤1048576) (hf:O4 (Dz p ns)):E 221 [c.sv,.arr (ns.map fun s=>[D.str s]),.str p] []=some ((c.rn (Dz p ns)).sv,[]):=by
 have hl:=Cl.ok_len hc
 have hsv:∀ d:Cl,d.sv=.agg [.arr (d.lits.map Lt.d)]:=fun d=>rfl
 have hnd:ns.Nodup:=by rw [hns]; exact c.ns_nodup
 have hnl:ns.length≤240:=by rw [hns]; exact Cl.N0 hc
 have hnv:∀ s∈ns,Ao s=true:=fun s hs=>Cl.Qay (c:=c) (by rw [←hns]; exact hs)
 have hat:=Lt.Tc hf (Cl.CP hc)
 have hr0:∀ x:Tm,x.atom=true→RnS ns p x:=fun x hx=>YH ns p hp hnd (by omega) hnv x hx
 unfold RnS at hr0
 obtain ⟨e,he⟩:∃ e,e=Dz p ns:=⟨_,rfl⟩
 rw [←he] at hat hr0 ⊢
 have hco:=SH (c.lits.map (Lt.rn e)) (by rw [zC]; omega) (fun x hx=>PC (hat x hx))
 rw [show mkC (c.lits.map (Lt.rn e))=c.rn e from rfl] at hco
 rw [hsv] at hco
 rw [hsv,hsv]
 have her:=Lt.der (c.lits.map (Lt.rn e))
 have hfu:=Lt.dfu (c.lits.map (Lt.rn e))
 clear he
 refine Ad QH DP (of_decide_eq_true rfl) ?_
 simp (disch:=omega) only [Ky,go_sem,Aa]
 refine go_loop (α:=Int) (fun a=>⟨slots 38 0 [(1,.arr (ns.map fun s=>[D.str s])),(2,.str p),(3,.ptr 0 0),(6,.ptr 1 0),(7,.ref 2),(8,.int .i64 a)],[.box 60 [.arr (c.lits.map Lt.d)],.box 60 [.nil],.row 122 3 (((c.lits.map (Lt.rn e)).take a.toNat).map (fun b:Lt=>b.d.map D.ot))]⟩) (fun a=>∃ k:Nat,a=k∧k≤(c.lits).length) (fun a=>(c.lits).length-(a).toNat) 0 ⟨0,rfl,zH _⟩ (by simp (disch:=omega) only [go_sem,Aa]) ?_
 rintro i ⟨k,hi,hk⟩
 have hni:i.toNat=k:=by omega
 have hni1:(i+1).toNat=k+1:=by omega
 rcases zB k (c.lits).length with hlt | hge
 ·have hg:=get_at Lt.d hlt
  rw [Lt.d_eq] at hg
  have hr:=hr0 c.lits[k].atom (Cl.JV hc hlt)
  have hrs:c.lits[k].atom.sv=.agg [.str c.lits[k].atom.name,.arr (c.lits[k].atom.args.map Tm.d)]:=rfl
  have hrt:(c.lits[k].atom.rn e).sv=.agg [.str (c.lits[k].atom.rn e).name,.arr ((c.lits[k].atom.rn e).args.map Tm.d)]:=rfl
  rw [hrs,hrt] at hr
  have hlm:k<(c.lits.map (Lt.rn e)).length:=by rw [zC]; exact hlt
  have hs:=DK (fun b:Lt=>b.d.map D.ot) hlm
  rw [z7] at hs
  have hs':((c.lits.map (Lt.rn e)).take k).map (fun b:Lt=>b.d.map D.ot)++[[OT.bool c.lits[k].pos,OT.str (c.lits[k].atom.rn e).name,OT.sh ((c.lits[k].atom.rn e).args.map Tm.d)]]=((c.lits.map (Lt.rn e)).take (k+1)).map (fun b:Lt=>b.d.map D.ot):=hs
  have htl:((c.lits.map (Lt.rn e)).take k).length=k:=by rw [zQ,zC]; omega
  simp (disch:=omega) only [go_sem,Aa,hni,hg,hr,htl,DO]
  refine ⟨i+1,⟨k+1,by omega,hlt⟩,by omega,?_⟩
  simp (disch:=omega) only [go_sem,Aa,hni1,hs']
 ·have ht:(c.lits.map (Lt.rn e)).take k=c.lits.map (Lt.rn e):=List.take_of_length_le (by rw [zC]; exact hge)
  simp (disch:=omega) only [go_sem,Aa,hni,ht,hco,her,hfu,Di]
def Lw:SC:=(.seq (.reg [⟨some 1,none,.boxv 60 1 (.t 0)⟩,⟨some 2,none,.alloc 60 [.nil]⟩]) (.seq (.dreg [[],[],[1],[0,2,1],[3,0,2,1]] [⟨some 3,none,.load true 1 (.t 1)⟩,⟨some 4,none,.load true 1 (.t 1)⟩,⟨some 5,none,.call 196 [(.t 4)]⟩,⟨(some 6),none,(.call 221 [(.t 3),(.t 5),(.c (.str ⟨#[89]⟩))])⟩,⟨none,none,(.store 1 (.t 2) (.t 6))⟩]) .ret))
theorem Th:codeOf Tryz.prog 197=some ⟨7,Lw,[(.cell 2 true 1)]⟩:=by kernel_rfl
theorem D1:modes 197=⟨[],.frz,none,false⟩:=by unfold modes; rfl
theorem Qc2 (c:Cl) (hc:c.ok=true):E 197 [c.sv] []=some ((c.rn (Dz G6 c.ns)).sv,[]):=by
 have hsv:∀ d:Cl,d.sv=.agg [.arr (d.lits.map Lt.d)]:=fun d=>rfl
 have n2:=PE c hc
 have n4:=Tg c hc c.ns rfl ⟨#[89]⟩ (by decide +kernel) (Cl.yE hc)
 rw [hsv] at n2
 rw [hsv,hsv] at n4
 rw [show G6=⟨#[89]⟩ from rfl,hsv,hsv]
 refine Ad Th D1 (of_decide_eq_true rfl) ?_
 simp (disch:=omega) only [Lw,go_sem,Aa,n2,n4,D0,DP]
def Kz:SC:=(.seq (.reg [⟨some 1,none,.boxv 60 1 (.t 0)⟩,⟨some 2,none,.alloc 60 [.nil]⟩,⟨some 3,none,.mv (.c (.bool false))⟩]) (.seq (.reg [⟨some 6,none,.faddr 0 (.t 1)⟩,⟨some 7,none,.load false 1 (.t 6)⟩,⟨some 8,none,.call 218 [(.t 7)]⟩,⟨some 4,none,.alloc 60 [.nil]⟩,⟨none,none,(.store 1 (.t 4) (.t 8))⟩]) (.seq (.seq (.reg [⟨some 5,none,.mv (.c (.int .i64 0))⟩]) (.block 0 (.loop [0,0,1,0,1,1,0,0,0,0,0,0,0,0,0,0,0,0,0,0,0,0,0,0,0] (.seq (.seq (.reg [⟨some 9,none,.mv (.t 5)⟩,⟨some 10,none,.bin .lss false (.t 9) (.c (.int .i64 10))⟩,⟨some 11,none,.mv (.t 10)⟩,⟨(some 12),(some (11,true)),(.load true 1 (.t 4))⟩,⟨(some 13),(some (11,true)),(.call 144 [(.t 12)])⟩,⟨(some 14),(some (11,true)),(.un .not (.t 13))⟩,⟨some 15,none,.pick (.t 11) (.t 14) (.c (.bool false))⟩]) (.cond (.t 15) .skip (.exit 0))) (.seq (.block 1 (.dreg [[],[],[1],[0,2,1],[3,0,2,1]] [⟨some 18,none,.load true 1 (.t 4)⟩,⟨some 19,none,.load true 1 (.t 4)⟩,⟨some 20,none,.call 196 [(.t 19)]⟩,⟨(some 21),none,(.call 221 [(.t 18),(.t 20),(.c (.str ⟨#[88]⟩))])⟩,⟨none,none,(.store 1 (.t 4) (.t 21))⟩])) (.reg [⟨some 16,none,.mv (.t 5)⟩,⟨some 17,none,.bin .add false (.t 16) (.c (.int .i64 1))⟩,⟨some 5,none,.mv (.t 17)⟩])))))) (.seq (.dreg [[],[],[1],[0,2,1],[2,1,3,0]] [⟨some 22,none,.load true 1 (.t 4)⟩,⟨some 23,none,.load true 1 (.t 4)⟩,⟨some 24,none,.call 143 [(.t 23)]⟩,⟨none,none,(.store 1 (.t 2) (.t 22))⟩,⟨some 3,none,.mv (.t 24)⟩]) .ret))))
theorem QI:codeOf Tryz.prog 161=some ⟨25,Kz,[(.cell 2 true 1),(.tmp 3)]⟩:=by kernel_rfl
theorem GR:modes 161=⟨[],.frz,none,false⟩:=by unfold modes; rfl
theorem Qa1 (c:Cl) (hc:c.ok=true):E 161 [c.sv] []=some (.tup [(nz 10 c).sv,.bool true],[]):=by
 have hl:=Cl.ok_len hc
 have hsv:∀ d:Cl,d.sv=.agg [.arr (d.lits.map Lt.d)]:=fun d=>rfl
 have h1:=SH c.lits (by omega) (fun x hx=>PC (Cl.CP hc x hx))
 rw [YF (Cl.Vs hc),hsv] at h1
 rw [hsv,hsv]
 refine Ad QI GR (of_decide_eq_true rfl) ?_
 simp (disch:=omega) only [Kz,go_sem,Aa,h1,Di]
 refine go_loop (α:=Int × Cl) (fun a=>⟨slots 25 0 [(2,.ptr 0 0),(4,.ptr 1 0),(5,.int .i64 a.1)],[.box 60 [.nil],.box 60 [.arr (a.2.lits.map Lt.d)]]⟩) (fun a=>∃ k:Nat,a.1=k∧k≤10∧a.2.ok=true∧nz (10-k) a.2=nz 10 c) (fun a=>10-a.1.toNat) (0,c) ⟨0,rfl,zH _,hc,rfl⟩ (by simp (disch:=omega) only [go_sem,Aa]) ?_
 rintro ⟨i,d⟩ ⟨k,hi,hk,hd,hR⟩
 dsimp only at hi hd hR
 have n1:=JY d hd
 have n2:=PE d hd
 have n4:=Tg d hd d.ns rfl ⟨#[88]⟩ (by decide +kernel) (Cl.xE hd)
 have n5:=SB d ⟨by have:=Cl.ok_len hd; omega,fun y hy=>by have:=Tm.CO (Cl.CP hd y hy); omega⟩
 rw [hd] at n5
 rw [hsv] at n1 n2 n5
 rw [hsv,hsv] at n4
 rcases zB k 10 with hlt | hge
 ·obtain ⟨m,hm⟩:∃ m,10-k=m+1:=⟨9-k,by omega⟩
  rw [hm,nz] at hR
  cases hn:d.norm with
  | true =>
   rw [hn,cond_true] at hR
   rw [hn] at n1
   rw [←hR]
   simp (disch:=omega) only [go_sem,Aa,n1,n2,n4,n5,BQ,D0,DP,B4]
  | false =>
   rw [hn,cond_false] at hR
   rw [hn] at n1
   simp (disch:=omega) only [go_sem,Aa,n1,n2,n4,n5,BQ,D0,DP,B4]
   refine ⟨(i+1,d.rn (Dz M1 d.ns)),⟨k+1,by dsimp only; omega,by omega,Cl.Qb4 (Cl.xE hd) hd,by rw [show 10-(k+1)=m by omega]; exact hR⟩,by dsimp only; omega,?_⟩
   first | trivial | rfl
 ·obtain rfl:k=10:=by omega
  have hR:d=nz 10 c:=hR
  rw [←hR]
  simp (disch:=omega) only [go_sem,Aa,n1,n2,n4,n5,BQ,D0,DP,B4]
theorem Ms (a:ByteArray):a.toList=a.data.toList:=ByteArray.toList_eq a
theorem Vv (p a b:ByteArray):strLt (p++a) (p++b)=strLt a b:=by
 unfold strLt
 rw [Ms,Ms,Ms a,Ms b,yU,yU,yW,yW]
 induction p.data.toList with
 | nil=>rfl
 | cons c l ih =>
  rw [yB,yB]
  simp only [Op.bytesLess,ih]
  simp
theorem O8 {p a b:ByteArray}:p++a=p++b ↔ a=b:=by
 constructor
 ·intro h
  have h2:=congrArg (fun x:ByteArray=>x.data.toList) h
  simp only [yU,yW] at h2
  have h3:=List.append_cancel_left h2
  exact Ye (by rw [Ms,Ms]; exact h3)
 ·intro h; rw [h]
theorem QdL (p q a b:ByteArray):E2 (p++a) (p++b)=E2 (q++a) (q++b):=by
 unfold E2
 rw [Vv,Vv]
 by_cases h:a=b
 ·rw [Ar (O8.2 h),Ar (O8.2 h)]
 ·rw [Ax (fun e=>h (O8.1 e)),Ax (fun e=>h (O8.1 e))]
def YOf (e:SEnv) (x:Tm):Prop:=∀ v∈x.vs,∃ r,v=M1++r∧e v=some (G6++r)
theorem Tm.QdM {e:SEnv} {x:Tm} (hy:YOf e x) (hn:x.names=true) (hv:Ao x.name=true):∃ r,x.name=M1++r∧(x.rn e).name=G6++r∧x.args=[]∧(x.rn e).args=[]:=by
 have h0:=Tm.E7 hn hv
 obtain ⟨r,h1,h2⟩:=hy x.name (by rw [Tm.FN,hv]; simp)
 refine ⟨r,h1,?_,h0,?_⟩
 ·rw [(Tm.MS e x).1,h0,h2]; rfl
 ·rw [(Tm.MS e x).2,h0]; rfl
theorem Tm.Qb6 {e:SEnv} (he:O4 e) {x:Tm} (hn:x.names=true):Ao (x.rn e).name=Ao x.name:=by
 cases hv:Ao x.name with
 | false=>rw [Tm.JW he x hv,hv]
 | true =>
  rw [(Tm.MS e x).1,Tm.E7 hn hv]
  show Ao ((e x.name).getD x.name)=true
  cases h:e x.name with
  | none=>exact hv
  | some n=>exact (he _ _ h).2
theorem YOf.arg {e:SEnv} {x:Tm} (hy:YOf e x) (hv:Ao x.name=false) {y:Tm} (h:y∈x.args):YOf e y:=fun v hv2=>hy v (by
 rw [Tm.FN,hv,cond_false,Tm.vsL_mem]
 exact ⟨y,h,hv2⟩)
theorem QdN {p a b:Int} (h:p=0→a=b):orZ p a=orZ p b:=by
 unfold orZ
 by_cases hp:p=0
 ·rw [if_pos hp,if_pos hp,h hp]
 ·rw [if_neg hp,if_neg hp]
theorem Qfg {n m:ByteArray} (h:Hd (kvZ n) (kvZ m)=0):Ao n=Ao m:=by
 have:=(EM _ _ 0).zero.1 h
 unfold kvZ at this
 cases h1:Ao n <;> cases h2:Ao m <;> rw [h1,h2] at this <;> first | rfl | (simp at this)
theorem Qf7 {n m:ByteArray} (h:Ao n=Ao m):kvZ n=kvZ m:=by unfold kvZ; rw [h]
mutual
theorem Tm.QfW {e:SEnv} (he:O4 e):∀ x y:Tm,x.names=true→y.names=true→YOf e x→YOf e y→(x.rn e).cmp (y.rn e)=x.cmp y
 | .mk n xs,.mk m ys=>fun hx hy ex ey=>by
  have k1:=Qf7 (Tm.Qb6 he hx)
  have k2:=Qf7 (Tm.Qb6 he hy)
  rw [Tm.IK,Tm.IK (.mk n xs),k1,k2]
  refine QdN fun hk=>?_
  have hk:=Qfg hk
  cases hv:Ao (Tm.mk n xs).name with
  | true =>
   have hw:Ao (Tm.mk m ys).name=true:=by rw [←hk]; exact hv
   obtain ⟨r,a1,a2,a3,a4⟩:=Tm.QdM ex hx hv
   obtain ⟨q,b1,b2,b3,b4⟩:=Tm.QdM ey hy hw
   rw [a1,a2,a3,a4,b1,b2,b3,b4,QdL G6 M1]
  | false =>
   have hw:Ao (Tm.mk m ys).name=false:=by rw [←hk]; exact hv
   rw [Tm.JW he _ hv,Tm.JW he _ hw,(Tm.MS e _).2,(Tm.MS e _).2,zC,zC]
   rw [show Tm.cmpL ((Tm.mk n xs).args.map (Tm.rn e)) ((Tm.mk m ys).args.map (Tm.rn e))=Tm.cmpL (Tm.mk n xs).args (Tm.mk m ys).args from Tm.WY he xs ys (fun z hz=>Tm.DU hx hz) (fun z hz=>Tm.DU hy hz) (fun z hz=>ex.arg hv hz) fun z hz=>ey.arg hw hz]
theorem Tm.WY {e:SEnv} (he:O4 e):∀ xs ys:List Tm,(∀ z∈xs,z.names=true)→(∀ z∈ys,z.names=true)→(∀ z∈xs,YOf e z)→(∀ z∈ys,YOf e z)→Tm.cmpL (xs.map (Tm.rn e)) (ys.map (Tm.rn e))=Tm.cmpL xs ys
 | [],[]=>fun _ _ _ _=>rfl
 | [],y :: ys=>fun _ _ _ _=>by rw [zK,zL,Tm.cmpL,Tm.cmpL]
 | x :: xs,[]=>fun _ _ _ _=>by rw [zK,zL,Tm.cmpL,Tm.cmpL]
 | x :: xs,y :: ys=>fun h1 h2 h3 h4=>by
  rw [zK,zK,Tm.cmpL,Tm.cmpL,Tm.QfW he x y (h1 _ (by simp)) (h2 _ (by simp)) (h3 _ (by simp)) (h4 _ (by simp)),Tm.WY he xs ys (fun z hz=>h1 z (by simp [hz])) (fun z hz=>h2 z (by simp [hz])) (fun z hz=>h3 z (by simp [hz])) fun z hz=>h4 z (by simp [hz])]
end
theorem Ti {x:Tm} (h:x.atom=true):Ao x.name=false:=by
 unfold Tm.atom at h
 split at h
 ·rename_i hq
  have:x.name=⟨#[61]⟩:=At.1 hq
  rw [this]; decide +kernel
 ·rw [zA] at h
  exact P7 h.1
theorem Tm.Qfh {e:SEnv} (he:O4 e) (x y:Tm) (hx:x.atom=true) (hy:y.atom=true) (ex:YOf e x) (ey:YOf e y):(x.rn e).cmp (y.rn e)=x.cmp y:=by
 have hv:=Ti hx
 have hw:=Ti hy
 rw [Tm.IK,Tm.IK x,Tm.JW he _ hv,Tm.JW he _ hw,(Tm.MS e _).2,(Tm.MS e _).2,zC,zC]
 rw [Tm.WY he x.args y.args (Tm.Gb hx).2 (Tm.Gb hy).2 (fun z hz=>ex.arg hv hz) fun z hz=>ey.arg hw hz]
theorem Cl.Qa2 {c:Cl} (hc:c.ok=true) (hn:c.norm=true):(c.rn (Dz G6 c.ns)).lits=c.lits.map (Lt.rn (Dz G6 c.ns)):=by
 have he:=Cl.yE hc
 have hnl:O5 c.ns:=At.1 hn
 have hy:∀ x∈c.lits,YOf (Dz G6 c.ns) x.atom:=fun x hx v hv=>by
  have hm:v∈c.ns:=Cl.QdF.2 ⟨x,hx,hv⟩
  obtain ⟨k,hk,rfl⟩:=zS hm
  exact ⟨Fu k,hnl k hk,SZ G6 c.ns_nodup hk⟩
 have hs:Db (c.lits.map (Lt.rn (Dz G6 c.ns))):=by
  unfold Db
  rw [List.pairwise_map]
  refine List.Pairwise.imp_of_mem ?_ (Cl.Vs hc)
  intro a b ha hb h
  have e:((Lt.rn (Dz G6 c.ns) a).cmp (Lt.rn (Dz G6 c.ns) b))=a.cmp b:=by
   unfold Lt.cmp Lt.rn
   dsimp only
   rw [Tm.Qfh he _ _ (Cl.CP hc a ha) (Cl.CP hc b hb) (hy a ha) (hy b hb)]
  rw [e]; exact h
 unfold Cl.rn
 rw [YF hs]
def bdLe (x y:Bd):Bool:=!strLt y.var x.var
def G8:List Bd→Bd→List Bd
 | [],b=>[b]
 | x :: xs,b=>bif strLt x.var b.var then x :: G8 xs b else b :: x :: xs
theorem Mt (b:Bd):∀ xs:List Bd,(G8 xs b).Perm (b :: xs)
 | []=>.refl _
 | x :: xs=>by
  rw [G8]
  cases strLt x.var b.var with
  | true=>exact ((Mt b xs).cons x).trans (.swap b x xs)
  | false=>exact .refl _
theorem Tj {a b c:Bd} (h:bdLe a b=true) (k:bdLe b c=true):bdLe a c=true:=by
 unfold bdLe at *
 cases hq:strLt c.var a.var with
 | false=>rfl
 | true =>
  cases hb:strLt b.var a.var with
  | true=>rw [hb] at h; cases h
  | false =>
   cases hc:strLt c.var b.var with
   | true=>rw [hc] at k; cases k
   | false =>
    cases hab:strLt a.var b.var with
    | true=>rw [Ln hq hab] at hc; cases hc
    | false =>
     have:=Lm hab hb
     rw [this] at hq; rw [hq] at hc; cases hc
theorem Qa3 (a b:Bd):(bdLe a b || bdLe b a)=true:=by
 unfold bdLe
 cases h:strLt b.var a.var with
 | false=>rfl
 | true=>rw [Ll h]; rfl
theorem Q2 (b:Bd):∀ xs:List Bd,xs.Pairwise (fun x y=>bdLe x y=true)→(G8 xs b).Pairwise fun x y=>bdLe x y=true
 | [],_=>by simp [G8]
 | x :: xs,h=>by
  rw [G8]
  rw [zZ] at h
  cases hq:strLt x.var b.var with
  | true =>
   rw [cond_true,zZ]
   refine ⟨fun y hy=>?_,Q2 b xs h.2⟩
   rcases yH.1 ((Mt b xs).mem_iff.1 hy) with rfl | hy
   ·unfold bdLe; rw [Ll hq]; rfl
   ·exact h.1 y hy
  | false =>
   have hb:bdLe b x=true:=by unfold bdLe; rw [hq]; rfl
   rw [cond_false,zZ,zZ]
   refine ⟨fun y hy=>?_,h⟩
   rcases yH.1 hy with rfl | hy
   ·exact hb
   ·exact Tj hb (h.1 y hy)
def IT (xs ys:List Bd):List Bd:=ys.foldl G8 xs
theorem PF:∀ (ys xs:List Bd),(IT xs ys).Perm (xs++ys)
 | [],xs=>by simp [IT]
 | y :: ys,xs=>by
  have h:=PF ys (G8 xs y)
  simp only [IT,zX] at h ⊢
  refine h.trans ?_
  have h2:(G8 xs y++ys).Perm ((y :: xs)++ys):=(Mt y xs).append_right ys
  exact h2.trans List.perm_middle.symm
theorem Q3:∀ (ys xs:List Bd),xs.Pairwise (fun x y=>bdLe x y=true)→(IT xs ys).Pairwise fun x y=>bdLe x y=true
 | [],xs,h=>h
 | y :: ys,xs,h=>by
  simp only [IT,zX]
  exact Q3 ys (G8 xs y) (Q2 y xs h)
theorem QdO (xs a b:List Bd):IT xs (a++b)=IT (IT xs a) b:=y2
theorem Qc3 {ys:List Bd} (hn:(ys.map Bd.var).Nodup):IT [] ys=ys.mergeSort bdLe:=by
 have h1:(IT [] ys).Perm ys:=by simpa using PF ys []
 have h2:(ys.mergeSort bdLe).Perm ys:=List.mergeSort_perm _ _
 refine List.Perm.eq_of_pairwise (le:=fun x y=>bdLe x y=true) ?_ (Q3 ys [] y7) (List.pairwise_mergeSort (le:=bdLe) (fun _ _ _ h k=>Tj h k) Qa3 ys) (h1.trans h2.symm)
 intro a b ha hb hab hba
 unfold bdLe at hab hba
 have e:a.var=b.var:=Lm (by simpa using hba) (by simpa using hab)
 have ha:=h1.mem_iff.1 ha
 have hb:=h2.mem_iff.1 hb
 obtain ⟨i,hi,rfl⟩:=zS ha
 obtain ⟨j,hj,rfl⟩:=zS hb
 have hij:i=j:=(List.getElem_inj (h₀:=by simpa using hi) (h₁:=by simpa using hj) hn).1 (by simpa using e)
 subst hij; rfl
theorem YI (b:Bd):∀ xs:List Bd,G8 xs b=xs.take (Bn xs b.var)++b :: xs.drop (Bn xs b.var)
 | []=>by simp [G8,Bn]
 | x :: xs=>by
  rw [G8,Bn]
  cases h:strLt x.var b.var with
  | true=>rw [cond_true,YI b xs]; simp
  | false=>simp
noncomputable def CQ (u:Sb) (b:Bd):Option Bd:=bif dec ((b.term.ap u.look).name=b.var) then none else some ⟨b.var,b.term.ap u.look⟩
noncomputable def HP (s u:Sb):List Bd:=s.binds.filterMap (CQ u)
noncomputable def Qb7 (s u:Sb):List Bd:=u.binds.filter fun b=>!DZ s.binds b.var
noncomputable def Cw (s u:Sb):List Bd:=HP s u++Qb7 s u
noncomputable def Cq (s u:Sb):Sb:=⟨(Cw s u).mergeSort bdLe⟩
theorem N1:∀ {xs:List Bd},O0 xs→(xs.map Bd.var).Nodup:=by
 intro xs h
 unfold List.Nodup
 rw [yL]
 intro i j hi hj hij e
 rw [zC] at hj
 have:=h i j hij hj
 simp only [z7] at e
 rw [e,HF] at this
 cases this
theorem YJ {xs:List Bd} (hs:O0 xs) (n:ByteArray):DZ xs n=xs.any fun b=>dec (b.var=n):=by
 rw [←Oi,SL hs]
 cases DZ xs n with
 | true=>rw [if_pos rfl]; exact (Ar (by omega)).symm
 | false=>rw [if_neg (by simp)]; exact (Ax (by omega)).symm
theorem Vw {s u:Sb} {b:Bd} (h:b∈HP s u):∃ c∈s.binds,b.var=c.var∧b.term=c.term.ap u.look:=by
 obtain ⟨c,hc,h⟩:=List.mem_filterMap.1 h
 refine ⟨c,hc,?_⟩
 unfold CQ at h
 cases hq:dec ((c.term.ap u.look).name=c.var) with
 | true=>rw [hq] at h; cases h
 | false=>rw [hq] at h; obtain rfl:=yM h; exact ⟨rfl,rfl⟩
theorem Lx (u:Sb):∀ xs:List Bd,((xs.filterMap (CQ u)).map Bd.var).Sublist (xs.map Bd.var)
 | []=>.slnil
 | x :: xs=>by
  rw [List.filterMap_cons,zK]
  have h:=Lx u xs
  cases hq:CQ u x with
  | none=>exact h.cons _
  | some c =>
   have e:c.var=x.var:=by
    unfold CQ at hq
    cases hd:dec ((x.term.ap u.look).name=x.var) with
    | true=>rw [hd] at hq; cases hq
    | false=>rw [hd] at hq; obtain rfl:=yM hq; rfl
   simp only [zK,e]
   exact h.cons_cons _
theorem O9 {s u:Sb} (hs:O0 s.binds) (hu:O0 u.binds):((Cw s u).map Bd.var).Nodup:=by
 unfold Cw
 rw [yD,List.nodup_append]
 refine ⟨(Lx u s.binds).nodup (N1 hs),(List.Sublist.map _ List.filter_sublist).nodup (N1 hu),fun a ha b hb e=>?_⟩
 subst e
 obtain ⟨x,hx,rfl⟩:=yR.1 ha
 obtain ⟨y,hy,e⟩:=yR.1 hb
 obtain ⟨c,hc,h1,_⟩:=Vw hx
 have hy2:=(List.mem_filter.1 hy).2
 rw [YJ hs,Bool.not_eq_true'] at hy2
 have:=List.any_eq_false.1 hy2 c hc
 exact this (Ar (by rw [←h1,e]))
theorem Tk (s u:Sb):(Cw s u).length≤s.binds.length+u.binds.length:=by
 unfold Cw HP Qb7
 rw [yI]
 have h1:=List.length_filterMap_le (CQ u) s.binds
 have h2:=List.length_filter_le (fun b=>!DZ s.binds b.var) u.binds
 omega
mutual
def Tm.wt:Tm→Nat
 | .mk name args=>1+Tm.wtS args
def Tm.wtS:List Tm→Nat
 | []=>0
 | x :: xs=>Tm.wt x+Tm.wtS xs
end
theorem Tm.wt_eq (x:Tm):x.wt=1+Tm.wtS x.args:=by
 obtain ⟨name,args⟩:=x
 rw [Tm.wt]; rfl
mutual
noncomputable def Tm.mk1:Tm→Int→Tm × Int
 | .mk name args,k=>((Tm.mk (Ih k) ((Tm.mkS args (k+1)).1)),(Tm.mkS args (k+1)).2)
noncomputable def Tm.mkS:List Tm→Int→List Tm × Int
 | [],k=>([],k)
 | x :: xs,k=>((Tm.mk1 x k).1 :: (Tm.mkS xs (Tm.mk1 x k).2).1,(Tm.mkS xs (Tm.mk1 x k).2).2)
end
theorem Tm.mk1_eq (x:Tm) (k:Int):x.mk1 k=((Tm.mk (Ih k) ((Tm.mkS x.args (k+1)).1)),(Tm.mkS x.args (k+1)).2):=by
 obtain ⟨name,args⟩:=x
 rw [Tm.mk1]; rfl
theorem Tm.mk1_d (x:Tm) (k:Int):Tm.d (x.mk1 k).1=[.str (Ih k),.arr ((Tm.mkS x.args (k+1)).1.map Tm.d)]:=by
 rw [Tm.mk1_eq,Tm.d_eq]
 try rfl
theorem Tm.mk1_o (x:Tm) (k:Int):Tm.o (x.mk1 k).1=[.str (Ih k),.ow ((Tm.mkS x.args (k+1)).1.map Tm.o)]:=by
 rw [Tm.mk1_eq,Tm.o_eq]
 try rfl
theorem Tm.N2:∀ (xs:List Tm) (k:Int),(∀ x∈xs,∀ k,(x.mk1 k).2=k+x.wt)→(Tm.mkS xs k).2=k+Tm.wtS xs
 | [],k,_=>by simp [Tm.mkS,Tm.wtS]
 | x :: xs,k,h=>by
  rw [Tm.mkS,Tm.wtS]
  have h1:=h x (by simp) k
  have h2:=Tm.N2 xs (x.mk1 k).2 fun y hy=>h y (by simp [hy])
  dsimp only
  omega
theorem Tm.mk1_end (x:Tm) (k:Int):(x.mk1 k).2=k+x.wt:=by
 rw [Tm.mk1_eq,Tm.wt_eq]
 have h:=fun k=>Tm.N2 x.args k fun y hy k=>Tm.mk1_end y k
 simp only [h]
 omega
termination_by SizeOf.sizeOf x
decreasing_by exact Tm.lt_of_mem hy
theorem Tm.mkS_end (xs:List Tm) (k:Int):(Tm.mkS xs k).2=k+Tm.wtS xs:=Tm.N2 xs k fun x _ k=>Tm.mk1_end x k
theorem Tm.Qa4:∀ xs:List Tm,(∀ x∈xs,x.wt≤5*(1+x.bulk))→Tm.wtS xs≤5*(xs.length+Tm.sumB xs)
 | [],_=>by simp [Tm.wtS]
 | x :: xs,h=>by
  have h1:=h x (by simp)
  have h2:=Tm.Qa4 xs fun y hy=>h y (by simp [hy])
  rw [Tm.wtS,Tm.sumB]; simp only [zP]; omega
theorem Tm.wt_bulk (x:Tm):x.wt≤5*(1+x.bulk):=by
 rw [Tm.wt_eq,Tm.bulk_eq]
 have h:=Tm.Qa4 x.args fun y hy=>Tm.wt_bulk y
 omega
termination_by SizeOf.sizeOf x
decreasing_by exact Tm.lt_of_mem hy
theorem Tm.wtS_bulk (xs:List Tm):Tm.wtS xs≤5*(xs.length+Tm.sumB xs):=Tm.Qa4 xs fun x _=>Tm.wt_bulk x
theorem Tm.length_wt:∀ xs:List Tm,xs.length≤Tm.wtS xs
 | []=>zN _
 | x :: xs=>by
  have:=Tm.length_wt xs
  have:=Tm.wt_eq x
  rw [Tm.wtS]; simp only [zP]; omega
def Ju:SC:=(.seq (.reg [⟨some 4,none,.mv (.c (.int .i64 0))⟩]) (.seq (.seq (.reg [⟨some 5,none,.mv (.c (.int .i64 0))⟩]) (.block 0 (.loop [1,1,0,0,0,1,0,0,0,0,0,0,0,0,0,0,0,0,0,0,0,0,0,0,0,0,0,0] (.seq (.seq (.reg [⟨some 6,none,.mv (.t 5)⟩,⟨some 7,none,.mv (.t 0)⟩,⟨some 8,none,.len false (.t 7)⟩,⟨some 9,none,.bin .lss false (.t 6) (.t 8)⟩]) (.cond (.t 9) .skip (.exit 0))) (.seq (.block 1 (.seq (.reg [⟨some 12,none,.mv (.t 0)⟩,⟨some 13,none,.mv (.t 5)⟩,⟨some 14,none,.mv (.t 1)⟩,⟨some 15,none,.call 63 [(.t 14)]⟩,⟨some 16,none,.iaddr 2 (.t 12) (.t 13)⟩,⟨some 17,none,.faddr 0 (.t 16)⟩,⟨none,none,(.store 1 (.t 17) (.t 15))⟩]) (.seq (.reg [⟨some 18,none,.mv (.t 1)⟩,⟨some 19,none,.bin .add false (.t 18) (.c (.int .i64 1))⟩,⟨some 1,none,.mv (.t 19)⟩]) (.reg [⟨some 20,none,.mv (.t 0)⟩,⟨some 21,none,.mv (.t 5)⟩,⟨some 22,none,.iaddr 2 (.t 20) (.t 21)⟩,⟨some 23,none,.faddr 1 (.t 22)⟩,⟨some 24,none,.load false 1 (.t 23)⟩,⟨some 25,none,.mv (.t 1)⟩,⟨some 26,none,.call 72 [(.t 24),(.t 25)]⟩,⟨some 1,none,.mv (.t 26)⟩])))) (.reg [⟨some 10,none,.mv (.t 5)⟩,⟨some 11,none,.bin .add false (.t 10) (.c (.int .i64 1))⟩,⟨some 5,none,.mv (.t 11)⟩])))))) (.seq (.reg [⟨some 27,none,.mv (.t 1)⟩,⟨some 4,none,.mv (.t 27)⟩]) .ret)))
theorem PG:codeOf Tryz.prog 72=some ⟨28,Ju,[(.tmp 4)]⟩:=by kernel_rfl
theorem Gc:modes 72=⟨[true],.asis,none,true⟩:=by unfold modes; rfl
abbrev It (xs:List Tm):Prop:=∀ (k:Int) (ob:List Ob),1≤k→k+Tm.wtS xs≤1099511627776→toTree ob=[.tree (xs.map Tm.o) []]→E 72 [.ref 0,.int .i64 k] ob=some (.int .i64 (Tm.mkS xs k).2,[.tree ((Tm.mkS xs k).1.map Tm.o) []])
theorem Ly (xs:List Tm) (ih:∀ x∈xs,It x.args):It xs:=by
 intro k0 ob h1 h2 hob
 have hlen:ob.length=1:=by rw [←Ht,hob]; rfl
 have hL:=Tm.length_wt xs
 refine Ad PG Gc (of_decide_eq_true rfl) ?_
 simp (disch:=omega) only [Ju,go_sem,Aa,hob,hlen]
 refine go_loop (α:=Int × (Int) × (List Tm)) (fun a=>⟨slots 28 0 [(0,.ref 0),(1,.int .i64 (a.2.1)),(5,.int .i64 (a.1))],[.tree (((a.2.2)++xs.drop (a.1).toNat).map Tm.o) []]⟩) (fun a=>∃ k:Nat,a.1=k∧k≤(xs).length∧(a.2.2).length=k∧1≤(a.2.1)∧(a.2.1)+Tm.wtS (xs.drop k)=k0+Tm.wtS xs∧Tm.mkS xs k0=((a.2.2)++(Tm.mkS (xs.drop k) (a.2.1)).1,(Tm.mkS (xs.drop k) (a.2.1)).2)) (fun a=>(xs).length-(a.1).toNat) (0,k0,[]) ⟨0,rfl,zH _,rfl,h1,by rw [zJ],by simp⟩ (by simp (disch:=omega) only [go_sem,Aa,yC]) ?_
 rintro ⟨i,kk,dn⟩ ⟨k,hi,hk,hR⟩
 dsimp only at hi hR
 have hni:i.toNat=k:=by omega
 have hni1:(i+1).toNat=k+1:=by omega
 rcases zB k (xs).length with hlt | hge
 ·obtain ⟨hd,hk1,hkn,hm⟩:=hR
  have hdr:xs.drop k=xs[k] :: xs.drop (k+1):=zE hlt
  have hel:(dn++xs.drop k).length=xs.length:=by simp; omega
  have hg:(List.map Tm.o (dn++xs.drop k))[k]?=some [.str xs[k].name,.ow (xs[k].args.map Tm.o)]:=by
   rw [←Tm.o_eq,hdr,List.getElem?_map,yZ (by omega),hd,Nat.sub_self]; rfl
  rw [hdr,Tm.wtS] at hkn
  rw [hdr,Tm.mkS] at hm
  have hn1:=Tm.wt_eq xs[k]
  have e1:=Tm.mkS_end xs[k].args ((kk+1))
  have t0:=JM (k:=kk) (by omega) (by omega)
  have c58:=ih xs[k] (zD hlt) ((kk+1)) [.tree (xs[k].args.map Tm.o) []] (by omega) (by omega) rfl
  have hs:=Lc Tm.o dn (xs.drop (k+1)) xs[k] (xs[k].mk1 kk).1 hd
  rw [Tm.mk1_o,← hdr] at hs
  have hgs:∀ a,((List.map Tm.o (dn++xs.drop k)).set k a)[k]?=some a:=fun a=>List.getElem?_set_self (by rw [zC,hel]; exact hlt)
  have he:=Tm.mk1_end xs[k] kk
  have three:∀ z:Int,dec ((3:Int)=0)=false:=fun _=>Ax (by omega)
  simp (disch:=omega) only [go_sem,Aa,hni,hel,hg,t0,c58,Gc,CW,hgs,List.length_set,List.set_set,hs,three 0]
  refine ⟨(i+1,(xs[k].mk1 kk).2,dn++[(xs[k].mk1 kk).1]),⟨k+1,by dsimp only; omega,hlt,by dsimp only; simp [hd],by dsimp only; omega,by dsimp only; omega,by rw [hm]; simp⟩,by dsimp only; omega,?_⟩
  dsimp only
  rw [hni1,Tm.mk1_eq]
  refine ⟨⟨?_,rfl⟩,rfl⟩
  first | rfl | omega
 ·obtain ⟨hd,hk1,hkn,hm⟩:=hR
  have hdr:xs.drop k=[]:=zG hge
  rw [hdr,Tm.mkS] at hm
  rw [hm]
  simp (disch:=omega) only [go_sem,Aa,hni,hdr,y5]
theorem OA (x:Tm):It x.args:=Ly x.args fun y hy=>OA y
termination_by SizeOf.sizeOf x
decreasing_by exact Tm.lt_of_mem hy
theorem YK (xs:List Tm):It xs:=Ly xs fun y _=>OA y
def Lt.wt (x:Lt):Nat:=2+Tm.wtS x.atom.args
theorem Lt.wt_eq (x:Lt):x.wt=2+Tm.wtS x.atom.args:=rfl
noncomputable def Lt.mk1 (x:Lt) (k:Int):Lt × Int:=((Lt.mk (dec (k.tmod 3=0)) (Tm.mk (Ih (k+1)) ((Tm.mkS x.atom.args (k+1+1)).1))),(Tm.mkS x.atom.args (k+1+1)).2)
theorem Lt.mk1_eq (x:Lt) (k:Int):x.mk1 k=((Lt.mk (dec (k.tmod 3=0)) (Tm.mk (Ih (k+1)) ((Tm.mkS x.atom.args (k+1+1)).1))),(Tm.mkS x.atom.args (k+1+1)).2):=rfl
def Lt.wtS:List Lt→Nat
 | []=>0
 | x :: xs=>Lt.wt x+Lt.wtS xs
noncomputable def Lt.mkS:List Lt→Int→List Lt × Int
 | [],k=>([],k)
 | x :: xs,k=>((Lt.mk1 x k).1 :: (Lt.mkS xs (Lt.mk1 x k).2).1,(Lt.mkS xs (Lt.mk1 x k).2).2)
theorem Lt.mk1_d (x:Lt) (k:Int):Lt.d (x.mk1 k).1=[.bool (dec (k.tmod 3=0)),.str (Ih (k+1)),.arr ((Tm.mkS x.atom.args (k+1+1)).1.map Tm.d)]:=by
 rw [Lt.mk1_eq,Lt.d_eq]
 try rfl
theorem Lt.mk1_o (x:Lt) (k:Int):Lt.o (x.mk1 k).1=[.bool (dec (k.tmod 3=0)),.str (Ih (k+1)),.ow ((Tm.mkS x.atom.args (k+1+1)).1.map Tm.o)]:=by
 rw [Lt.mk1_eq,Lt.o_eq]
 try rfl
theorem Lt.mk1_end (x:Lt) (k:Int):(x.mk1 k).2=k+x.wt:=by
 rw [Lt.mk1_eq,Lt.wt_eq]
 first
  |omega
  |(simp only [Tm.mkS_end]; done)
  |(simp only [Tm.mkS_end]; omega)
  |simp
theorem Lt.mkS_end:∀ (xs:List Lt) (k:Int),(Lt.mkS xs k).2=k+Lt.wtS xs
 | [],k=>by simp [Lt.mkS,Lt.wtS]
 | x :: xs,k=>by
  rw [Lt.mkS,Lt.wtS]
  have h1:=Lt.mk1_end x k
  have h2:=Lt.mkS_end xs (x.mk1 k).2
  dsimp only
  omega
theorem Lt.wt_bulk (x:Lt):x.wt≤5*(1+x.bulk):=by
 rw [Lt.wt_eq,Lt.bulk_eq]
 have h0:=Tm.wtS_bulk x.atom.args
 have q1:=Tm.bulk_eq x.atom
 omega
theorem Lt.wtS_bulk:∀ xs:List Lt,Lt.wtS xs≤5*(xs.length+Lt.sumB xs)
 | []=>by simp [Lt.wtS]
 | x :: xs=>by
  have h1:=Lt.wt_bulk x
  have h2:=Lt.wtS_bulk xs
  rw [Lt.wtS,Lt.sumB]; simp only [zP]; omega
theorem Lt.length_wt:∀ xs:List Lt,xs.length≤Lt.wtS xs
 | []=>zN _
 | x :: xs=>by
  have:=Lt.length_wt xs
  have:=Lt.wt_eq x
  rw [Lt.wtS]; simp only [zP]; omega
def GV:SC:=(.seq (.reg [⟨some 4,none,.mv (.c (.int .i64 0))⟩]) (.seq (.seq (.reg [⟨some 5,none,.mv (.c (.int .i64 0))⟩]) (.block 0 (.loop [1,1,0,0,0,1,0,0,0,0,0,0,0,0,0,0,0,0,0,0,0,0,0,0,0,0,0,0,0,0,0,0,0,0,0,0,0,0,0] (.seq (.seq (.reg [⟨some 6,none,.mv (.t 5)⟩,⟨some 7,none,.mv (.t 0)⟩,⟨some 8,none,.len false (.t 7)⟩,⟨some 9,none,.bin .lss false (.t 6) (.t 8)⟩]) (.cond (.t 9) .skip (.exit 0))) (.seq (.block 1 (.seq (.reg [⟨some 12,none,.mv (.t 0)⟩,⟨some 13,none,.mv (.t 5)⟩,⟨some 14,none,.mv (.t 1)⟩,⟨some 15,none,.bin .rem false (.t 14) (.c (.int .i64 3))⟩,⟨some 16,none,.bin .eql false (.t 15) (.c (.int .i64 0))⟩,⟨some 17,none,.iaddr 3 (.t 12) (.t 13)⟩,⟨some 18,none,.faddr 0 (.t 17)⟩,⟨none,none,(.store 1 (.t 18) (.t 16))⟩]) (.seq (.reg [⟨some 19,none,.mv (.t 1)⟩,⟨some 20,none,.bin .add false (.t 19) (.c (.int .i64 1))⟩,⟨some 1,none,.mv (.t 20)⟩]) (.seq (.reg [⟨some 21,none,.mv (.t 0)⟩,⟨some 22,none,.mv (.t 5)⟩,⟨some 23,none,.mv (.t 1)⟩,⟨some 24,none,.call 63 [(.t 23)]⟩,⟨some 25,none,.iaddr 3 (.t 21) (.t 22)⟩,⟨some 26,none,.faddr 1 (.t 25)⟩,⟨some 27,none,.faddr 0 (.t 26)⟩,⟨none,none,(.store 1 (.t 27) (.t 24))⟩]) (.seq (.reg [⟨some 28,none,.mv (.t 1)⟩,⟨some 29,none,.bin .add false (.t 28) (.c (.int .i64 1))⟩,⟨some 1,none,.mv (.t 29)⟩]) (.reg [⟨some 30,none,.mv (.t 0)⟩,⟨some 31,none,.mv (.t 5)⟩,⟨some 32,none,.iaddr 3 (.t 30) (.t 31)⟩,⟨some 33,none,.faddr 1 (.t 32)⟩,⟨some 34,none,.faddr 1 (.t 33)⟩,⟨some 35,none,.load false 1 (.t 34)⟩,⟨some 36,none,.mv (.t 1)⟩,⟨some 37,none,.call 72 [(.t 35),(.t 36)]⟩,⟨some 1,none,.mv (.t 37)⟩])))))) (.reg [⟨some 10,none,.mv (.t 5)⟩,⟨some 11,none,.bin .add false (.t 10) (.c (.int .i64 1))⟩,⟨some 5,none,.mv (.t 11)⟩])))))) (.seq (.reg [⟨some 38,none,.mv (.t 1)⟩,⟨some 4,none,.mv (.t 38)⟩]) .ret)))
theorem M2:codeOf Tryz.prog 83=some ⟨39,GV,[(.tmp 4)]⟩:=by kernel_rfl
theorem EF:modes 83=⟨[true],.asis,none,true⟩:=by unfold modes; rfl
abbrev Lz (xs:List Lt):Prop:=∀ (k:Int) (ob:List Ob),1≤k→k+Lt.wtS xs≤1099511627776→toTree ob=[.tree (xs.map Lt.o) []]→E 83 [.ref 0,.int .i64 k] ob=some (.int .i64 (Lt.mkS xs k).2,[.tree ((Lt.mkS xs k).1.map Lt.o) []])
theorem OB (xs:List Lt):Lz xs:=by
 intro k0 ob h1 h2 hob
 have hlen:ob.length=1:=by rw [←Ht,hob]; rfl
 have hL:=Lt.length_wt xs
 refine Ad M2 EF (of_decide_eq_true rfl) ?_
 simp (disch:=omega) only [GV,go_sem,Aa,hob,hlen]
 refine go_loop (α:=Int × (Int) × (List Lt)) (fun a=>⟨slots 39 0 [(0,.ref 0),(1,.int .i64 (a.2.1)),(5,.int .i64 (a.1))],[.tree (((a.2.2)++xs.drop (a.1).toNat).map Lt.o) []]⟩) (fun a=>∃ k:Nat,a.1=k∧k≤(xs).length∧(a.2.2).length=k∧1≤(a.2.1)∧(a.2.1)+Lt.wtS (xs.drop k)=k0+Lt.wtS xs∧Lt.mkS xs k0=((a.2.2)++(Lt.mkS (xs.drop k) (a.2.1)).1,(Lt.mkS (xs.drop k) (a.2.1)).2)) (fun a=>(xs).length-(a.1).toNat) (0,k0,[]) ⟨0,rfl,zH _,rfl,h1,by rw [zJ],by simp⟩ (by simp (disch:=omega) only [go_sem,Aa,yC]) ?_
 rintro ⟨i,kk,dn⟩ ⟨k,hi,hk,hR⟩
 dsimp only at hi hR
 have hni:i.toNat=k:=by omega
 have hni1:(i+1).toNat=k+1:=by omega
 rcases zB k (xs).length with hlt | hge
 ·obtain ⟨hd,hk1,hkn,hm⟩:=hR
  have hdr:xs.drop k=xs[k] :: xs.drop (k+1):=zE hlt
  have hel:(dn++xs.drop k).length=xs.length:=by simp; omega
  have hg:(List.map Lt.o (dn++xs.drop k))[k]?=some [.bool xs[k].pos,.str xs[k].atom.name,.ow (xs[k].atom.args.map Tm.o)]:=by
   rw [←Lt.o_eq,hdr,List.getElem?_map,yZ (by omega),hd,Nat.sub_self]; rfl
  rw [hdr,Lt.wtS] at hkn
  rw [hdr,Lt.mkS] at hm
  have hn1:=Lt.wt_eq xs[k]
  have e2:=Tm.mkS_end xs[k].atom.args ((kk+1+1))
  have t0:=JM (k:=(kk+1)) (by omega) (by omega)
  have c64:=YK xs[k].atom.args ((kk+1+1)) [.tree (xs[k].atom.args.map Tm.o) []] (by omega) (by omega) rfl
  have hs:=Lc Lt.o dn (xs.drop (k+1)) xs[k] (xs[k].mk1 kk).1 hd
  rw [Lt.mk1_o,← hdr] at hs
  have hgs:∀ a,((List.map Lt.o (dn++xs.drop k)).set k a)[k]?=some a:=fun a=>List.getElem?_set_self (by rw [zC,hel]; exact hlt)
  have he:=Lt.mk1_end xs[k] kk
  have three:∀ z:Int,dec ((3:Int)=0)=false:=fun _=>Ax (by omega)
  simp (disch:=omega) only [go_sem,Aa,hni,hel,hg,t0,c64,Gc,CW,hgs,List.length_set,List.set_set,hs,three 0]
  refine ⟨(i+1,(xs[k].mk1 kk).2,dn++[(xs[k].mk1 kk).1]),⟨k+1,by dsimp only; omega,hlt,by dsimp only; simp [hd],by dsimp only; omega,by dsimp only; omega,by rw [hm]; simp⟩,by dsimp only; omega,?_⟩
  dsimp only
  rw [hni1,Lt.mk1_eq]
  refine ⟨⟨?_,rfl⟩,rfl⟩
  first | rfl | omega
 ·obtain ⟨hd,hk1,hkn,hm⟩:=hR
  have hdr:xs.drop k=[]:=zG hge
  rw [hdr,Lt.mkS] at hm
  rw [hm]
  simp (disch:=omega) only [go_sem,Aa,hni,hdr,y5]
theorem L1 (xs:List Lt):Lz xs:=OB xs
end Go.Proofs.YtepbennkcbmgoaaGreatDoor
