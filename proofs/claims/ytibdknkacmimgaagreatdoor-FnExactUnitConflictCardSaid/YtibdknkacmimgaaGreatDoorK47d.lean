/-
  This text holds, one behind the other: This text gives the steps of runs once more, of a kind where no draw is taken back: no function is told apart there. No condition.
  This text tells what the comparison of literals answers, as a function that takes no draw back. No condition.
  This text tells what the equality of terms answers in both packages. No condition.
  This text tells what copies of terms answer in both packages. No condition.
  This text holds a rule for runs of which a part of the answer is left open. No condition.
  This text tells what the reference's copies of terms answer. No condition.
  This text tells what making a clause of a list of literals answers in both packages: the list in order, without repeats. No condition.
  This text tells what the reference's making of a clause answers. No condition.
  This text holds plain laws of the order of names. No condition.
  This text tells what the validity of substitutions answers in both packages, and the place of a binding. No condition.
  This text tells what the search for a binding answers. No condition.
  This text holds the plain laws of applying a substitution to a term. No condition.
  This text tells what applying a substitution answers in both packages. No condition.
  This text holds plain laws of expressions and of the sizes of terms. No condition.
  This text tells what ApplySubstitution answers in both packages. No condition.
  This text holds plain laws of atoms. No condition.
  This text tells what applying a substitution to a clause answers in both packages. No condition.
  This text holds a plain law of atoms. No condition.
  This text tells what the variables of a term answer in both packages. No condition.
  This text tells what the variables of a clause answer. No condition.
  This text tells what the reference's application of a substitution to a clause answers, and ApplyToClause of both packages. No condition.
  This text holds plain laws of renaming variables: maps from names to names, fresh names. No condition.
  This text holds plain laws of numerals: no two numbers have the same; numbered names, the next one that is not taken. No condition.
  This text holds plain laws of renaming the variables of clauses. No condition.
  This text tells what renaming a term by a map and printing a number answer. No condition.
  This text tells what copying, renaming and normalizing a clause answer in the program. No condition.
  This text tells what renaming and normalizing a clause answer in the program. No condition.
  This text tells what renaming a clause apart, and literals left out and joined, answer in the program. No condition.
  This text shows that renaming a normal clause apart keeps its order. No condition.
  This text holds the plain laws of composing substitutions. No condition.
-/
import Derived.Test.YtibdknkacmimgaaGreatDoorK47c
set_option maxHeartbeats 16000000
open Bool renaming and_eq_true → zA, and_false → zM, true_and → yG, and_true → yJ, false_and → yL, false_or → y4
open Nat renaming lt_or_ge → zB, eq_zero_or_pos → zF, zero_le → zG, le_refl → zP
open List renaming getElem_mem → zC, eq_nil_of_length_eq_zero → zD, length_map → zE, drop_eq_getElem_cons → zH, drop_eq_nil_of_le → zI, map_cons → zJ, map_nil → zK, drop_zero → zL, all_eq_true → zN, length_take → zO, take_length → zQ, getElem?_eq_getElem → zS, nil_append → zT, length_append → zU, getElem_of_mem → zW, length_nil → zX, pairwise_cons → zY, take_zero → zZ, foldl_cons → z7, length_cons → yA, cons_append → yB, getElem_map → yC, map_append → yD, take_succ_eq_append_getElem → yF, take_of_length_le → yH, mem_map → yI, mem_cons → yK, map_map → yN, pairwise_iff_getElem → yO, getElem_cons_succ → yR, getElem_cons_zero → yS, getElem?_eq_none → yT, mem_append → yV, mem_singleton → yX, flatten_cons → yZ, append_assoc → y2, foldl_append → y3, foldl_nil → y7
open Option.some renaming injEq → zR, inj → yP
open Int renaming tdiv_eq_ediv_of_nonneg → zV, toNat_zero → yM, toNat_natCast → yQ, tmod_eq_emod_of_nonneg → yY
open Prod.mk renaming injEq → z8
open ByteArray renaming data_append → yU, size_append → y6
open Array renaming toList_append → yW
open Option renaming getD_none → y5
open List.Pairwise renaming nil → y8
set_option maxRecDepth 100000
set_option linter.unusedSimpArgs false
set_option linter.unusedVariables false
set_option linter.unusedSectionVars false
namespace Go.Proofs.YtibdknkacmimgaaGreatDoor
open Go.RowKit
namespace Wd
def modes:FuncId→FM:=fun _=>⟨[],.asis,none,false⟩
theorem mode (f:FuncId):modes f=⟨[],.asis,none,false⟩:=rfl
theorem Mg:@MH PC Tryz.prog modes:=fun _ _ _ _ _ _ hg _=>by cases hg
noncomputable def E:FEnv:=ev Tryz.prog modes
noncomputable def calls:CallF:=CY modes E
theorem E_told {f:FuncId} {xs:List SV} {ob:List Ob} {r:SV} {ob':List Ob} (h:E f xs ob=some (r,ob')):Qdc Tryz.prog f xs ob r ob':=@Zw PC _ _ Qbt Mg f xs ob r ob' h
noncomputable def run (n0:Nat):SC→St→Option (X × St):=fr Tryz.prog calls (Jc n0)
def go (n0:Nat) (sc:SC) (st:St) (K:X→St→Prop):Prop:=∃ x st',run n0 sc st=some (x,st')∧K x st'
def QK (n0:Nat) (b:SC) (K:X→St→Prop):X→St→Prop
 | .normal,st=>go n0 b st K
 | .exit i,st=>K (.exit i) st
 | .ret,st=>K .ret st
def blk (id:Nat) (K:X→St→Prop):X→St→Prop
 | .normal,st=>K .normal st
 | .exit i,st=>if i=id then K .normal st else K (.exit i) st
 | .ret,st=>K .ret st
def QL (r:Option St) (k:X→St→Prop):Prop :=
 match r with
 | some st=>k .normal st
 | none=>False
def QM (anc:List (List Nat)) (r:Option (List Ent × St)) (k:X→St→Prop):Prop :=
 match r with
 | some (es,st)=>obB anc [] (G6 es) 0=true∧k .normal st
 | none=>False
def H4 (v:SV) (a b:Unit→Prop):Prop :=
 match v with
 | .bool true=>a ()
 | .bool false=>b ()
 | _=>False
noncomputable def Mh (ops:List SOper) (st:St):Option St:=Ps Tryz.prog calls ops st
noncomputable def Mi (ops:List SOper) (acc:List Ent) (st:St):Option (List Ent × St):=Ia Tryz.prog calls ops acc st
section
variable {n0:Nat} {st:St} {K:X→St→Prop}
theorem go_skip:go n0 .skip st K=K .normal st:=by
 refine propext ⟨fun ⟨x,st',h,k⟩=>?_,fun k=>⟨_,_,rfl,k⟩⟩
 obtain ⟨rfl,rfl⟩:X.normal=x∧st=st':=by simpa [run,fr] using h
 exact k
theorem Um {i:Nat}:go n0 (.exit i) st K=K (.exit i) st:=by
 refine propext ⟨fun ⟨x,st',h,k⟩=>?_,fun k=>⟨_,_,rfl,k⟩⟩
 obtain ⟨rfl,rfl⟩:X.exit i=x∧st=st':=by simpa [run,fr] using h
 exact k
theorem go_ret:go n0 .ret st K=K .ret st:=by
 refine propext ⟨fun ⟨x,st',h,k⟩=>?_,fun k=>⟨_,_,rfl,k⟩⟩
 obtain ⟨rfl,rfl⟩:X.ret=x∧st=st':=by simpa [run,fr] using h
 exact k
theorem XZ {ops:List SOper}:go n0 (.reg ops) st K=QL (Mh ops st) K:=by
 unfold QL Mh
 refine propext ⟨fun ⟨x,st',h,k⟩=>?_,fun k=>?_⟩
 ·simp only [run,fr] at h
  split at h
  ·rename_i s hs
   simp only [zR,z8] at h
   obtain ⟨rfl,rfl⟩:=h
   first | exact k | (simp only [hs]; exact k)
  ·cases h
 ·split at k
  ·rename_i s hs
   exact ⟨.normal,s,by simp only [run,fr,hs],k⟩
  ·exact k.elim
theorem Un {anc:List (List Nat)} {ops:List SOper}:go n0 (.dreg anc ops) st K=QM anc (Mi ops [] st) K:=by
 unfold QM Mi
 refine propext ⟨fun ⟨x,st',h,k⟩=>?_,fun k=>?_⟩
 ·simp only [run,fr] at h
  split at h
  ·rename_i es s hs
   obtain ⟨h1,h2⟩:=Aq h
   simp only [zR,z8] at h2
   obtain ⟨rfl,rfl⟩:=h2
   first | exact ⟨h1,k⟩ | (simp only [hs]; exact ⟨h1,k⟩)
  ·cases h
 ·split at k
  ·rename_i es s hs
   exact ⟨.normal,s,by simp only [run,fr,hs,k.1,cond_true],k.2⟩
  ·exact k.elim
theorem Ya {a b:SC}:go n0 (.seq a b) st K=go n0 a st (QK n0 b K):=by
 refine propext ⟨fun ⟨x,st',h,k⟩=>?_,fun ⟨x,st',h,k⟩=>?_⟩
 ·simp only [run,fr,C7] at h
  split at h
  ·rename_i s hs
   exact ⟨.normal,s,hs,x,st',h,k⟩
  ·rename_i i s hs
   simp only [zR,z8] at h
   obtain ⟨rfl,rfl⟩:=h
   exact ⟨_,_,hs,k⟩
  ·rename_i s hs
   simp only [zR,z8] at h
   obtain ⟨rfl,rfl⟩:=h
   exact ⟨_,_,hs,k⟩
  ·cases h
 ·simp only [run] at h
  cases x with
  | normal =>
   obtain ⟨x2,st2,h2,k2⟩:=k
   exact ⟨x2,st2,by simp only [run,fr,C7,h]; exact h2,k2⟩
  | exit i=>exact ⟨_,st',by simp only [run,fr,C7,h],k⟩
  | ret=>exact ⟨_,st',by simp only [run,fr,C7,h],k⟩
theorem QN {id:Nat} {b:SC}:go n0 (.block id b) st K=go n0 b st (blk id K):=by
  refine propext ⟨fun ⟨x,st',h,k⟩=>?_,fun ⟨x,st',h,k⟩=>?_⟩
  · simp only [run,fr,EV] at h
    split at h
    · rename_i s hs
      simp only [zR,z8] at h
      obtain ⟨rfl,rfl⟩:=h
      exact ⟨.normal,s,hs,k⟩
    · rename_i i s hs
      refine ⟨.exit i,s,hs,?_⟩
      simp only [blk]
      by_cases hi:i=id
      · simp only [if_pos hi,zR,z8] at h ⊢
        obtain ⟨rfl,rfl⟩:=h
        exact k
      · simp only [if_neg hi,zR,z8] at h ⊢
        obtain ⟨rfl,rfl⟩:=h
        exact k
    · rename_i s hs
      simp only [zR,z8] at h
      obtain ⟨rfl,rfl⟩:=h
      exact ⟨_,s,hs,k⟩
    · cases h
  · simp only [run] at h
    cases x with
    | normal=>exact ⟨_,st',by simp only [run,fr,EV,h],k⟩
    | exit i =>
      simp only [blk] at k
      by_cases hi:i=id
      · simp only [if_pos hi] at k
        exact ⟨.normal,st',by simp only [run,fr,EV,h,if_pos hi],k⟩
      · simp only [if_neg hi] at k
        exact ⟨.exit i,st',by simp only [run,fr,EV,h,if_neg hi],k⟩
    | ret=>exact ⟨_,st',by simp only [run,fr,EV,h],k⟩
theorem Aa {q:SX} {a b:SC}:go n0 (.cond q a b) st K=H4 (A2 (gets st.sl) q) (fun _=>go n0 a st K) (fun _=>go n0 b st K):=by
 unfold H4
 refine propext ⟨fun ⟨x,st',h,k⟩=>?_,fun k=>?_⟩
 ·simp only [run,fr] at h
  split at h
  ·rename_i t ht
   simp only [ht]
   cases t with
   | true=>exact ⟨x,st',h,k⟩
   | false=>exact ⟨x,st',h,k⟩
  ·cases h
 ·split at k
  ·rename_i ht
   obtain ⟨x,st',h,k⟩:=k
   exact ⟨x,st',by simp only [run,fr,ht,cond_true]; exact h,k⟩
  ·rename_i ht
   obtain ⟨x,st',h,k⟩:=k
   exact ⟨x,st',by simp only [run,fr,ht,cond_false]; exact h,k⟩
  ·exact k.elim
theorem Uo {a b:Unit→Prop}:H4 (.bool true) a b=a ():=rfl
theorem Up {a b:Unit→Prop}:H4 (.bool false) a b=b ():=rfl
theorem Uq {t:Bool} {a b:Unit→Prop}:H4 (.bool (!t)) a b=H4 (.bool t) b a:=by cases t <;> rfl
theorem Yb {b:SC}:QK n0 b K .normal st=go n0 b st K:=rfl
theorem Yc {b:SC} {i:Nat}:QK n0 b K (.exit i) st=K (.exit i) st:=rfl
theorem Yd {b:SC}:QK n0 b K .ret st=K .ret st:=rfl
theorem QbH {id:Nat}:blk id K .normal st=K .normal st:=rfl
theorem QbI {id i:Nat}:blk id K (.exit i) st=if i=id then K .normal st else K (.exit i) st:=rfl
theorem QbJ {id:Nat}:blk id K .ret st=K .ret st:=rfl
theorem Ur:QL (some st) K=K .normal st:=rfl
def quiet:List Ent→Bool
 | []=>true
 | ⟨_,_,[],_⟩ :: r=>quiet r
 | ⟨_,_,_ :: _,_⟩ :: _=>false
theorem GZ {anc:List (List Nat)} {rd:List Nat} {j:Nat}:∀ {l:List Ent} {i:Nat},quiet l=true→Sf anc rd [] j (G6 l) i=true
 | [],i,_=>rfl
 | ⟨_,_,[],rdi⟩ :: r,i,h=>by
  have:=GZ (anc:=anc) (rd:=rd) (j:=j) (l:=r) (i:=i+1) h
  simp only [G6,zJ,zK] at this ⊢
  simp only [Sf,this,yJ]
  have e1:meets [] (rd++[])=false:=rfl
  have e2:meets rdi []=false:=by cases rdi <;> simp [meets]
  rw [e1,e2]; rfl
theorem Oe {l l':List Ent} (h:quiet l=true) (h':quiet l'=true):quiet (l++l')=true:=by
 induction l with
 | nil=>exact h'
 | cons x r ih =>
  obtain ⟨a,b,c,d⟩:=x
  cases c with
  | nil=>exact ih h
  | cons _ _=>cases h
theorem I3 {anc:List (List Nat)}:∀ {l pre:List Ent} {j:Nat},quiet pre=true→quiet l=true→obB anc (G6 pre) (G6 l) j=true
 | [],pre,j,_,_=>rfl
 | ⟨a,b,[],rd⟩ :: r,pre,j,hp,h=>by
  have e:=I3 (anc:=anc) (l:=r) (pre:=pre++[⟨a,b,[],rd⟩]) (j:=j+1) (Oe hp rfl) h
  have e2:=GZ (anc:=anc) (rd:=rd) (j:=j) (i:=0) hp
  simp only [G6,yD,zJ,zK] at e e2 ⊢
  simp only [obB,e2,e,Bool.and_self]
theorem Us {anc:List (List Nat)} {es:List Ent}:QM anc (some (es,st)) K=match quiet es with
  | true=>K .normal st
  | false=>obB anc [] (G6 es) 0=true∧K .normal st:=by
 show (obB anc [] (G6 es) 0=true∧K .normal st)=_
 cases h:quiet es with
 | true=>exact propext ⟨fun h=>h.2,fun h'=>⟨I3 (pre:=[]) rfl h,h'⟩⟩
 | false=>rfl
noncomputable def Ye (r:List SOper) (e:Option (Ent × St)):Option St :=
 match e with
 | some (_,st)=>Mh r st
 | none=>none
noncomputable def Yf (r:List SOper) (acc:List Ent) (e:Option (Ent × St)):Option (List Ent × St) :=
 match e with
 | some (x,st)=>Mi r (acc++[x]) st
 | none=>none
noncomputable def opF (so:SOp) (sl:List SV) (ob:List Ob):Option R3:=fOp Tryz.prog calls so sl ob
theorem QO:Mh [] st=some st:=rfl
theorem Of {d:Option Tmp} {so:SOp} {r:List SOper} {sl:List SV} {ob:List Ob}:Mh (⟨d,none,so⟩ :: r) ⟨sl,ob⟩=Ye r (GN d ⟨sl,ob⟩ (opF so sl ob)):=rfl
noncomputable def gdF (d:Option Tmp) (so:SOp) (want:Bool) (sl:List SV) (ob:List Ob) (v:SV):Option (Ent × St) :=
 match v with
 | .bool b=>bif Sh b want then GN d ⟨sl,ob⟩ (opF so sl ob) else some (⟨false,.tup [],[],[]⟩,⟨EN sl d (.tup []),ob⟩)
 | .tup []=>some (⟨false,.tup [],[],[]⟩,⟨EN sl d (.tup []),ob⟩)
 | _=>none
theorem Ut {d:Option Tmp} {k:Nat} {want:Bool} {so:SOp} {r:List SOper} {sl:List SV} {ob:List Ob}:Mh (⟨d,some (k,want),so⟩ :: r) ⟨sl,ob⟩=Ye r (gdF d so want sl ob (gets sl k)):=rfl
theorem QP {acc:List Ent}:Mi [] acc st=some (acc,st):=rfl
theorem Og {d:Option Tmp} {so:SOp} {r:List SOper} {acc:List Ent} {sl:List SV} {ob:List Ob}:Mi (⟨d,none,so⟩ :: r) acc ⟨sl,ob⟩=Yf r acc (GN d ⟨sl,ob⟩ (opF so sl ob)):=rfl
theorem Uu {d:Option Tmp} {k:Nat} {want:Bool} {so:SOp} {r:List SOper} {acc:List Ent} {sl:List SV} {ob:List Ob}:Mi (⟨d,some (k,want),so⟩ :: r) acc ⟨sl,ob⟩=Yf r acc (gdF d so want sl ob (gets sl k)):=rfl
theorem Yg {r:List SOper} {e:Ent}:Ye r (some (e,st))=Mh r st:=rfl
theorem Yh {r:List SOper} {acc:List Ent} {e:Ent}:Yf r acc (some (e,st))=Mi r (acc++[e]) st:=rfl
theorem QbK {d:Option Tmp} {so:SOp} {sl:List SV} {ob:List Ob}:gdF d so true sl ob (.bool true)=GN d ⟨sl,ob⟩ (opF so sl ob):=rfl
theorem Yi {d:Option Tmp} {so:SOp} {sl:List SV} {ob:List Ob}:gdF d so false sl ob (.bool false)=GN d ⟨sl,ob⟩ (opF so sl ob):=rfl
theorem Yj {d:Option Tmp} {so:SOp} {sl:List SV} {ob:List Ob}:gdF d so true sl ob (.bool false)=some (⟨false,.tup [],[],[]⟩,⟨EN sl d (.tup []),ob⟩):=rfl
theorem Yk {d:Option Tmp} {so:SOp} {sl:List SV} {ob:List Ob}:gdF d so false sl ob (.bool true)=some (⟨false,.tup [],[],[]⟩,⟨EN sl d (.tup []),ob⟩):=rfl
theorem QbL {d:Option Tmp} {so:SOp} {want:Bool} {sl:List SV} {ob:List Ob}:gdF d so want sl ob (.tup [])=some (⟨false,.tup [],[],[]⟩,⟨EN sl d (.tup []),ob⟩):=rfl
theorem Yl {d:Option Tmp} {x:SV} {rd:List Nat}:GN d st (some (x,[],rd))=some (⟨true,x,[],rd⟩,⟨EN st.sl d x,st.ob⟩):=rfl
theorem Ym {d:Option Tmp} {x:SV} {q:Nat × Ob} {u:List (Nat × Ob)} {rd:List Nat}:GN d st (some (x,q :: u,rd))=bif VF (Dt st.ob (q :: u)).length (q :: u) then some (⟨true,x,q :: u,rd⟩,⟨EN st.sl d x,Dt st.ob (q :: u)⟩) else none:=rfl
def Kq (ob:List Ob) (xs:List SV) (sel:List Nat) (r:Option (SV × List Ob)) (n:Nat):Option R3 :=
 match r with
 | some (r,fob')=>bif decide (n≤fob'.length) then some (Ei sel (Bg sel xs) ob.length r fob') else none
 | none=>none
def Yn (hd:List Bool) (f:FuncId) (xs:List SV) (ob:List Ob) (sel:List Nat) (e:List SV→List Ob→Option (SV × List Ob)) (b:Option (List Ob)):Option R3 :=
 match b with
 | some fob=>bif nodupB sel&&Ib ob.length sel&&FL fob.length fob then Kq ob xs sel (e (Fv hd (Ap ob) sel xs) fob) fob.length else none
 | none=>none
def QQ (hd:List Bool) (f:FuncId) (xs:List SV) (ob:List Ob) (sel:List Nat) (e:List SV→List Ob→Option (SV × List Ob)):Option R3:=Yn hd f xs ob sel e (ED sel ob sel)
theorem QR {f:FuncId} {xs:List SV} {ob:List Ob}:calls f xs ob=E2 (modes f).res (QQ (modes f).hand f xs ob (reach ob 64 (FY (modes f).hand xs) []) (E f)):=rfl
theorem Yo {r:Option R3}:E2 .asis r=r:=rfl
theorem Yp {r:Option R3}:E2 .frz r=r:=rfl
theorem Yq {l:List (Option (Nat × Nat))} {r:Option R3}:E2 (.own l) r=r:=rfl
theorem Yr {l:List (Option (Nat × Nat))} {r:Option R3}:E2 (.tr l) r=r:=rfl
theorem Ys {l:List Nat} {r:Option R3}:E2 (.frl l) r=r:=rfl
theorem Yt {r:R3}:E2 .late (some r)=Qq r:=rfl
theorem EP:∀ u:List (Nat × Ob),CU [] u=u
 | []=>rfl
 | (g,o) :: u=>by rw [CU,EP u]; rfl
theorem Yu {m:RM} {b:Bool} {u:List (Nat × Ob)} {rd:List Nat}:E2 m (some (.bool b,u,rd))=some (.bool b,u,rd):=by
 cases m <;> first | rfl | (show some (SV.bool b,CU [] u,rd)=_; rw [EP])
theorem Yv {m:RM} {k:IntKind} {n:Int} {u:List (Nat × Ob)} {rd:List Nat}:E2 m (some (.int k n,u,rd))=some (.int k n,u,rd):=by
 cases m <;> first | rfl | (show some (SV.int k n,CU [] u,rd)=_; rw [EP])
theorem Oh {hd:List Bool} {f:FuncId} {xs:List SV} {ob:List Ob} {e:List SV→List Ob→Option (SV × List Ob)}:QQ hd f xs ob [] e=Kq ob xs [] (e (Fv hd (Ap ob) [] xs) []) 0:=rfl
theorem Mj {hd:List Bool} {f:FuncId} {xs:List SV} {ob:List Ob} {g:Nat} {r:List Nat} {e:List SV→List Ob→Option (SV × List Ob)}:QQ hd f xs ob (g :: r) e=Yn hd f xs ob (g :: r) e (ED (g :: r) ob (g :: r)):=rfl
theorem Uv {ob:List Ob} {xs:List SV} {r:SV} {fob':List Ob}:Kq ob xs [] (some (r,fob')) 0=some (Ei [] (Bg [] xs) ob.length r fob'):=rfl
theorem Uw {ob:List Ob} {xs:List SV} {sel:List Nat} {r:SV} {fob':List Ob} {n:Nat}:Kq ob xs sel (some (r,fob')) n=bif decide (n≤fob'.length) then some (Ei sel (Bg sel xs) ob.length r fob') else none:=rfl
theorem Yw {hd:List Bool} {f:FuncId} {xs:List SV} {ob:List Ob} {sel:List Nat} {fob:List Ob} {e:List SV→List Ob→Option (SV × List Ob)}:Yn hd f xs ob sel e (some fob)=bif nodupB sel&&Ib ob.length sel&&FL fob.length fob then Kq ob xs sel (e (Fv hd (Ap ob) sel xs) fob) fob.length else none:=rfl
theorem Oi {p:Nat} {r:SV}:Ei [] [] p r []=(r.ren (sgp [] p),[],[]):=rfl
def DR {α:Type} (n0:Nat) (keep:List Nat) (H:α→St) (R:α→Prop) (μ:α→Nat) (a:α) (K:X→St→Prop):X→St→Prop
 | .normal,st'=>∃ y,R y∧μ y < μ a∧canon n0 keep st'=H y
 | .exit i,st'=>K (.exit i) st'
 | .ret,st'=>K .ret st'
theorem QS {α:Type} {keep:List Nat} {H:α→St} {R:α→Prop} {μ:α→Nat} {a:α} {st':St}:DR n0 keep H R μ a K .normal st'=∃ y,R y∧μ y < μ a∧canon n0 keep st'=H y:=rfl
theorem QT {α:Type} {keep:List Nat} {H:α→St} {R:α→Prop} {μ:α→Nat} {a:α} {i:Nat} {st':St}:DR n0 keep H R μ a K (.exit i) st'=K (.exit i) st':=rfl
theorem QU {α:Type} {keep:List Nat} {H:α→St} {R:α→Prop} {μ:α→Nat} {a:α} {st':St}:DR n0 keep H R μ a K .ret st'=K .ret st':=rfl
theorem go_loop {α:Type} {keep:List Nat} {b:SC} (H:α→St) (R:α→Prop) (μ:α→Nat) (a0:α) (hR:R a0) (h0:canon n0 keep st=H a0) (round:∀ a,R a→go n0 b (H a) (DR n0 keep H R μ a K)):go n0 (.loop keep b) st K:=by
  have key:∀ (n:Nat) (a:α) (st:St),μ a≤n→R a→canon n0 keep st=H a→∃ x st',Q2 n0 keep (run n0 b) st=some (x,st')∧K x st':=by
    intro n
    induction n with
    | zero =>
      intro a st hn hR hc
      obtain ⟨x,st',h,k⟩:=round a hR
      cases x with
      | normal =>
        obtain ⟨y,_,h2,_⟩:=k
        omega
      | exit i=>exact ⟨_,st',by rw [E3,hc,h]; rfl,k⟩
      | ret=>exact ⟨_,st',by rw [E3,hc,h]; rfl,k⟩
    | succ n ih =>
      intro a st hn hR hc
      obtain ⟨x,st',h,k⟩:=round a hR
      cases x with
      | normal =>
        obtain ⟨y,h1,h2,h3⟩:=k
        obtain ⟨x2,st2,h4,k2⟩:=ih y st' (by omega) h1 h3
        exact ⟨x2,st2,by rw [E3,hc,h]; exact h4,k2⟩
      | exit i=>exact ⟨_,st',by rw [E3,hc,h]; rfl,k⟩
      | ret=>exact ⟨_,st',by rw [E3,hc,h]; rfl,k⟩
  exact key (μ a0) a0 st (zP _) hR h0
def Jh (n0:Nat) (keep keepO:List Nat) (H:EL→St) (F:X × St) (p:EL):X→St→Prop
 | .normal,st'=>canon n0 keep st'=H p
 | .exit i,st'=>F=(.exit i,canon n0 keepO st')
 | .ret,st'=>F=(.ret,canon n0 keepO st')
def Wc (n0:Nat) (keepO:List Nat) (F:X × St):X→St→Prop
 | .normal,_=>False
 | .exit i,st'=>F=(.exit i,canon n0 keepO st')
 | .ret,st'=>F=(.ret,canon n0 keepO st')
theorem Oj {keep keepO:List Nat} {H:EL→St} {F:X × St} {p:EL} {st':St}:Jh n0 keep keepO H F p .normal st'=(canon n0 keep st'=H p):=rfl
theorem Ok {keep keepO:List Nat} {H:EL→St} {F:X × St} {p:EL} {i:Nat} {st':St}:Jh n0 keep keepO H F p (.exit i) st'=(F=(.exit i,canon n0 keepO st')):=rfl
theorem Ol {keep keepO:List Nat} {H:EL→St} {F:X × St} {p:EL} {st':St}:Jh n0 keep keepO H F p .ret st'=(F=(.ret,canon n0 keepO st')):=rfl
theorem Ux {keepO:List Nat} {F:X × St} {i:Nat} {st':St}:Wc n0 keepO F (.exit i) st'=(F=(.exit i,canon n0 keepO st')):=rfl
theorem Uy {keepO:List Nat} {F:X × St} {st':St}:Wc n0 keepO F .ret st'=(F=(.ret,canon n0 keepO st')):=rfl
end
def slots:Nat→Nat→List (Nat × SV)→List SV
 | 0,_,_=>[]
 | n+1,k,[]=>.any :: slots n (k+1) []
 | n+1,k,(j,x) :: r=>bif j == k then x :: slots n (k+1) r else .any :: slots n (k+1) ((j,x) :: r)
def Sp (res:RM) (n0:Nat) (rs:List RX) (out:SV × List Ob) (x:X) (st:St):Prop:=fin res n0 rs x st=some out
def Yx (res:RM) (n0:Nat) (r:Option (SV × List Ob)):Option (SV × List Ob) :=
 match r with
 | some (r,ob)=>order res n0 r ob
 | none=>none
def MS (res:RM) (n0:Nat) (ob:List Ob) (r:Option SV):Option (SV × List Ob) :=
 match r with
 | some r0=>Yx res n0 (gc n0 r0 ob)
 | none=>none
theorem Yy {res:RM} {n0:Nat} {rs:List RX} {out:SV × List Ob} {sl:List SV} {ob:List Ob}:Sp res n0 rs out .ret ⟨sl,ob⟩=(MS res n0 ob (NO ⟨sl,ob⟩ rs)=some out):=rfl
theorem Yz {res:RM} {n0:Nat} {rs:List RX} {out:SV × List Ob} {sl:List SV} {ob:List Ob}:Sp res n0 rs out .normal ⟨sl,ob⟩=(MS res n0 ob (NO ⟨sl,ob⟩ rs)=some out):=rfl
theorem Uz {res:RM} {n0:Nat} {ob:List Ob} {r:SV}:MS res n0 ob (some r)=Yx res n0 (gc n0 r ob):=rfl
theorem Y0 {n0:Nat} {r:SV} {ob:List Ob} {res:RM}:Yx res n0 (some (r,ob))=order res n0 r ob:=rfl
theorem Af {f:FuncId} {fc:FC} {hand:List Bool} {res:RM} {tr:Bool} {xs:List SV} {ob:List Ob} {out:SV × List Ob} (hc:codeOf Tryz.prog f=some fc) (hr:modes f=⟨hand,res,none,tr⟩) (hn:xs.length≤fc.nt) (h:go ob.length (H0 res fc.sc) ⟨xs++Lw (fc.nt-xs.length),entry tr ob⟩ (Sp res ob.length fc.rs out)):E f xs ob=some out:=by
 obtain ⟨x,st',h1,h2⟩:=h
 unfold E
 rw [Qb4]
 unfold GQ
 rw [hc,hr]
 simp only
 rw [decide_eq_true hn,cond_true]
 have h1:fr Tryz.prog (CY modes (ev Tryz.prog modes)) (Jc ob.length) (H0 res fc.sc) ⟨xs++Lw (fc.nt-xs.length),entry tr ob⟩=some (x,st'):=h1
 rw [h1]
 exact h2
end Wd
namespace Wd
attribute [local go_sem] Fv ST SV.isNil Ob.idsB SV.idsB SV.MA List.getElem?_cons_zero List.getElem?_cons_succ OT.AL OT.Ds OT.full entry toTree VM Td VL Gp GD EU Zi PU X7 OT.erss OT.ers OT.er OT.Cy OT.ES OT.noSh quiet obB Sf G6 meets IT go_skip Um go_ret XZ Un Ya QN Uo Up Uq Yb Yc Yd QbH QbI QbJ Ur Us QO Of Ut QP Og Uu Yg Yh QbK Yi Yj Yk QbL Yl Ym QR Yo Yp Yq Yr Ys Yt Yu Yv Qq SZ CU seen Oh Mj Uv Uw Yw Oi Ei QS QT QU Yy Yz Uz Y0 order opF fOp F3 VB Qbu V9 VA Zh IZ eqK A2 gets Ap Qf EN Dt LX Pr AK VF SV.cellsN SV.one JV splice Et TR JU L4 DO BB Ch B6 JW JX Vn eOp.mkEs eOp.addS D.sv OT.sv D.ot HZ nodupB reach SV.refs SV.Qo SV.ptrs SV.Qp Ob.refs Ob.liveB FY ED SV.back SV.MC Ob.back HY Iv CK Bg Bt Ib FL SV.ren SV.LZ Ob.ren mkU sgp gc MD names Md Zm Zn Zo NS Qao Zq Zr Zs Zt Zu Zv SC.mark Qw FZ slots NO V5 rxV Lw SY SV.noSh SV.M9 Ob.noSh SV.own SV.Si Gn cond_true cond_false yA zX zJ zK List.drop_succ_cons zL List.drop_nil List.take_succ_cons zZ List.take_nil List.append_nil zT yB List.all_cons List.all_nil List.getD_cons_zero List.getD_cons_succ List.any_cons List.any_nil List.contains_cons List.contains_nil List.isEmpty_nil List.isEmpty_cons yZ List.flatten_nil List.replicate_succ List.replicate_zero List.set_cons_zero List.set_cons_succ Nat.add_zero Nat.zero_add zP zG yJ yG Bool.and_self Bool.or_false y4 Bool.true_or Bool.or_true Bool.not_true Bool.not_false yL zM decide_true decide_false beq_self_eq_true if_true if_false Option.map_some Option.map_none zR Option.getD_some y5 yQ true_and and_true and_self eq_self_iff_true zE Bool.false_eq_true Bool.true_eq_false z8 SV.int.injEq SV.bool.injEq SV.str.injEq SV.agg.injEq SV.tup.injEq SV.arr.injEq List.cons.injEq St.mk.injEq Int.zero_add QbM QbN Z3 At A3 QdV svK svD Qac svM MV.sv Vm VD Qn VE GK St.app TZ MK.sv Oj Ok Ol Ux Uy mode
def CB:SC:=(.seq (.reg [⟨some 2,none,.mv (.c (.bool false))⟩]) (.seq (.reg [⟨some 3,none,.mv (.t 0)⟩,⟨some 4,none,.mv (.t 0)⟩,⟨some 5,none,.bin .neq false (.t 3) (.t 4)⟩,⟨some 2,none,.mv (.t 5)⟩]) .ret))
theorem ER:codeOf Tryz.prog 168=some ⟨6,CB,[(.tmp 2)]⟩:=by kernel_rfl
theorem Be:modes 168=⟨[],.asis,none,false⟩:=by unfold modes; rfl
def D7:SC:=(.seq (.reg [⟨some 2,none,.mv (.c (.bool false))⟩]) (.seq (.reg [⟨some 3,none,.mv (.t 0)⟩,⟨some 4,none,.mv (.t 0)⟩,⟨some 5,none,.bin .neq false (.t 3) (.t 4)⟩,⟨some 2,none,.mv (.t 5)⟩]) .ret))
theorem Gr:codeOf Tryz.prog 156=some ⟨6,D7,[(.tmp 2)]⟩:=by kernel_rfl
theorem B7:modes 156=⟨[],.asis,none,false⟩:=by unfold modes; rfl
def AP:SC:=(.seq (.reg [⟨some 4,none,.mv (.c (.int .i64 0))⟩]) (.seq (.reg [⟨some 7,none,.mv (.t 0)⟩,⟨some 8,none,.call 168 [(.t 7)]⟩,⟨some 5,none,.mv (.t 8)⟩]) (.seq (.reg [⟨some 9,none,.mv (.t 1)⟩,⟨some 10,none,.call 168 [(.t 9)]⟩,⟨some 6,none,.mv (.t 10)⟩]) (.seq (.seq (.reg [⟨some 11,none,.mv (.t 5)⟩]) (.cond (.t 11) (.seq (.seq (.reg [⟨some 12,none,.mv (.t 6)⟩]) (.cond (.t 12) (.seq (.reg [⟨some 4,none,.mv (.c (.int .i64 0))⟩]) .ret) .skip)) (.seq (.reg [⟨some 4,none,.mv (.c (.int .i64 (-(0+1))))⟩]) .ret)) .skip)) (.seq (.seq (.reg [⟨some 13,none,.mv (.t 6)⟩]) (.cond (.t 13) (.seq (.reg [⟨some 4,none,.mv (.c (.int .i64 1))⟩]) .ret) .skip)) (.seq (.seq (.reg [⟨some 14,none,.mv (.t 0)⟩,⟨some 15,none,.mv (.t 1)⟩,⟨some 16,none,.bin .lss false (.t 14) (.t 15)⟩]) (.cond (.t 16) (.seq (.reg [⟨some 4,none,.mv (.c (.int .i64 (-(0+1))))⟩]) .ret) .skip)) (.seq (.seq (.reg [⟨some 17,none,.mv (.t 0)⟩,⟨some 18,none,.mv (.t 1)⟩,⟨some 19,none,.bin .gtr false (.t 17) (.t 18)⟩]) (.cond (.t 19) (.seq (.reg [⟨some 4,none,.mv (.c (.int .i64 1))⟩]) .ret) .skip)) (.seq (.reg [⟨some 4,none,.mv (.c (.int .i64 0))⟩]) .ret))))))))
theorem Bv:codeOf Tryz.prog 136=some ⟨20,AP,[(.tmp 4)]⟩:=by kernel_rfl
theorem A8:modes 136=⟨[],.asis,none,false⟩:=by unfold modes; rfl
def Bo:SC:=(.seq (.reg [⟨some 4,none,.mv (.c (.int .i64 0))⟩]) (.seq (.reg [⟨some 7,none,.mv (.t 0)⟩,⟨some 8,none,.call 156 [(.t 7)]⟩,⟨some 5,none,.mv (.t 8)⟩]) (.seq (.reg [⟨some 9,none,.mv (.t 1)⟩,⟨some 10,none,.call 156 [(.t 9)]⟩,⟨some 6,none,.mv (.t 10)⟩]) (.seq (.seq (.reg [⟨some 11,none,.mv (.t 5)⟩]) (.cond (.t 11) (.seq (.seq (.reg [⟨some 12,none,.mv (.t 6)⟩]) (.cond (.t 12) (.seq (.reg [⟨some 4,none,.mv (.c (.int .i64 0))⟩]) .ret) .skip)) (.seq (.reg [⟨some 4,none,.mv (.c (.int .i64 (-(0+1))))⟩]) .ret)) .skip)) (.seq (.seq (.reg [⟨some 13,none,.mv (.t 6)⟩]) (.cond (.t 13) (.seq (.reg [⟨some 4,none,.mv (.c (.int .i64 1))⟩]) .ret) .skip)) (.seq (.seq (.reg [⟨some 14,none,.mv (.t 0)⟩,⟨some 15,none,.mv (.t 1)⟩,⟨some 16,none,.bin .lss false (.t 14) (.t 15)⟩]) (.cond (.t 16) (.seq (.reg [⟨some 4,none,.mv (.c (.int .i64 (-(0+1))))⟩]) .ret) .skip)) (.seq (.seq (.reg [⟨some 17,none,.mv (.t 0)⟩,⟨some 18,none,.mv (.t 1)⟩,⟨some 19,none,.bin .gtr false (.t 17) (.t 18)⟩]) (.cond (.t 19) (.seq (.reg [⟨some 4,none,.mv (.c (.int .i64 1))⟩]) .ret) .skip)) (.seq (.reg [⟨some 4,none,.mv (.c (.int .i64 0))⟩]) .ret))))))))
theorem BK:codeOf Tryz.prog 122=some ⟨20,Bo,[(.tmp 4)]⟩:=by kernel_rfl
theorem AF:modes 122=⟨[],.asis,none,false⟩:=by unfold modes; rfl
def Fc:SC:=(.seq (.reg [⟨some 2,none,.mv (.c (.int .i64 0))⟩]) (.seq (.reg [⟨some 3,none,.mv (.c (.int .i64 0))⟩]) (.seq (.seq (.reg [⟨some 6,none,.mv (.t 0)⟩,⟨some 7,none,.len false (.t 6)⟩,⟨some 8,none,.mv (.c (.int .i64 0))⟩]) (.block 0 (.loop [0,0,0,1,0,0,1,1,1,0,0,0,0,0,0,0,0,0] (.seq (.reg [⟨some 9,none,.bin .lss false (.t 8) (.t 7)⟩]) (.seq (.cond (.t 9) .skip (.exit 0)) (.seq (.block 1 (.seq (.reg [⟨some 10,none,.iaddr 1 (.t 6) (.t 8)⟩,⟨some 11,none,.load false 1 (.t 10)⟩,⟨some 5,none,.mv (.t 11)⟩]) (.seq (.reg [⟨some 12,none,.mv (.t 5)⟩,⟨some 13,none,.mv (.t 3)⟩,⟨some 14,none,.bin .neq false (.t 12) (.t 13)⟩]) (.cond (.t 14) (.seq (.reg [⟨some 15,none,.mv (.t 5)⟩,⟨some 2,none,.mv (.t 15)⟩]) .ret) .skip)))) (.reg [⟨some 16,none,.bin .add false (.t 8) (.c (.int .i64 1))⟩,⟨some 8,none,.mv (.t 16)⟩]))))))) (.seq (.reg [⟨some 17,none,.mv (.t 3)⟩,⟨some 2,none,.mv (.t 17)⟩]) .ret))))
theorem Jk:codeOf Tryz.prog 120=some ⟨18,Fc,[(.tmp 2)]⟩:=by kernel_rfl
theorem C3:modes 120=⟨[],.asis,none,false⟩:=by unfold modes; rfl
theorem Ku (a:ByteArray):E 168 [.str a] []=some (.bool false,[]):=by
 refine Af ER Be (of_decide_eq_true rfl) ?_
 simp (disch:=omega) only [CB,go_sem,Aa]
theorem Kv (a:Int):E 156 [.int .i64 a] []=some (.bool false,[]):=by
 refine Af Gr B7 (of_decide_eq_true rfl) ?_
 simp (disch:=omega) only [D7,go_sem,Aa]
theorem Jl (a b:ByteArray):E 136 [.str a,.str b] []=some (.int .i64 (Ej a b),[]):=by
 have h1:=Ku a
 have h2:=Ku b
 unfold Ej
 cases h3:strLt a b
 ·cases h4:dec (a=b)
  ·refine Af Bv A8 (of_decide_eq_true rfl) ?_
   simp (disch:=omega) only [AP,go_sem,Aa,h1,h2,h3,h4,Be]
  ·refine Af Bv A8 (of_decide_eq_true rfl) ?_
   simp (disch:=omega) only [AP,go_sem,Aa,h1,h2,h3,h4,Be]
 ·refine Af Bv A8 (of_decide_eq_true rfl) ?_
  simp (disch:=omega) only [AP,go_sem,Aa,h1,h2,h3,Be]
theorem Hj (a b:Int):E 122 [.int .i64 a,.int .i64 b] []=some (.int .i64 (G8 a b),[]):=by
 have h1:=Kv a
 have h2:=Kv b
 unfold G8
 cases h3:dec (a<b)
 ·cases h4:dec (b<a)
  ·refine Af BK AF (of_decide_eq_true rfl) ?_
   simp (disch:=omega) only [Bo,go_sem,Aa,h1,h2,h3,h4,B7]
  ·refine Af BK AF (of_decide_eq_true rfl) ?_
   simp (disch:=omega) only [Bo,go_sem,Aa,h1,h2,h3,h4,B7]
 ·refine Af BK AF (of_decide_eq_true rfl) ?_
  simp (disch:=omega) only [Bo,go_sem,Aa,h1,h2,h3,B7]
def orL:List Int→Int
 | []=>0
 | x :: xs=>if x=0 then orL xs else x
theorem Qeb (xs:List Int) (hl:xs.length≤1099511627776):E 120 [.arr (xs.map fun n=>[D.int n])] []=some (.int .i64 (orL xs),[]):=by
 refine Af Jk C3 (of_decide_eq_true rfl) ?_
 simp (disch:=omega) only [Fc,go_sem,Aa]
 refine go_loop (α:=Int) (fun a=>⟨slots 18 0 [(3,.int .i64 0),(6,.arr (xs.map fun n=>[D.int n])),(7,.int .i64 xs.length),(8,.int .i64 a)],[]⟩) (fun a=>∃ k:Nat,a=k∧k≤(xs).length∧orL (xs.drop k)=orL xs) (fun a=>(xs).length-(a).toNat) 0 ⟨0,rfl,zG _,by rw [zL]⟩ (by simp (disch:=omega) only [go_sem,Aa]) ?_
 rintro i ⟨k,hi,hk,hR⟩
 have hni:i.toNat=k:=by omega
 have hni1:(i+1).toNat=k+1:=by omega
 rcases zB k (xs).length with hlt | hge
 ·have hg:=get_at (fun n=>[D.int n]) hlt
  rw [zH hlt,orL] at hR
  by_cases h0:xs[k]=0
  ·rw [if_pos h0] at hR
   simp (disch:=omega) only [go_sem,Aa,hni,hg,h0]
   exact ⟨i+1,⟨k+1,by omega,hlt,hR⟩,by omega,by first | trivial | rfl⟩
  ·rw [if_neg h0] at hR
   simp (disch:=omega) only [go_sem,Aa,hni,hg,h0]
   exact hR
 ·rw [zI hge,orL] at hR
  simp (disch:=omega) only [go_sem,Aa,hni]
  exact hR
theorem Wm (a b:Int):E 120 [.arr [[.int a],[.int b]]] []=some (.int .i64 (orZ a b),[]):=by
 have h:=Qeb [a,b] (by simp)
 have e:orL [a,b]=orZ a b:=by
  simp only [orL,orZ]
  split
  ·split <;> omega
  ·rfl
 rw [e] at h
 exact h
def CC:SC:=(.seq (.reg [⟨some 2,none,.mv (.c (.bool false))⟩]) (.seq (.reg [⟨some 3,none,.mv (.t 0)⟩,⟨some 4,none,.bin .geq false (.t 3) (.c (.int .u8 65))⟩,⟨some 5,none,.mv (.t 4)⟩,⟨(some 6),(some (5,true)),(.mv (.t 0))⟩,⟨(some 7),(some (5,true)),(.bin .leq false (.t 6) (.c (.int .u8 90)))⟩,⟨some 8,none,.pick (.t 5) (.t 7) (.c (.bool false))⟩,⟨some 2,none,.mv (.t 8)⟩]) .ret))
theorem DV:codeOf Tryz.prog 129=some ⟨9,CC,[(.tmp 2)]⟩:=by kernel_rfl
theorem CD:modes 129=⟨[],.asis,none,false⟩:=by unfold modes; rfl
def Fd:SC:=(.seq (.reg [⟨some 1,none,.boxv 71 2 (.t 0)⟩,⟨some 2,none,.mv (.c (.bool false))⟩]) (.seq (.reg [⟨some 3,none,.faddr 0 (.t 1)⟩,⟨some 4,none,.load false 1 (.t 3)⟩,⟨some 5,none,.idx (.t 4) (.c (.int .i64 0))⟩,⟨some 6,none,.call 129 [(.t 5)]⟩,⟨some 2,none,.mv (.t 6)⟩]) .ret))
theorem Jm:codeOf Tryz.prog 89=some ⟨7,Fd,[(.tmp 2)]⟩:=by kernel_rfl
theorem Ak:modes 89=⟨[],.asis,none,false⟩:=by unfold modes; rfl
theorem Oq (n:Int):E 129 [.int .u8 n] []=some (.bool (dec (65≤n)&&dec (n≤90)),[]):=by
 cases h1:dec (65≤n)
 ·refine Af DV CD (of_decide_eq_true rfl) ?_
  simp (disch:=omega) only [CC,go_sem,Aa,h1]
 ·refine Af DV CD (of_decide_eq_true rfl) ?_
  simp (disch:=omega) only [CC,go_sem,Aa,h1]
theorem Dd (x:Tm) (h:x.cok=true):E 89 [x.sv] []=some (.bool (An x.name),[]):=by
 rw [Tm.Kn,zA] at h
 obtain ⟨h1,h2⟩:=Tz h.1
 have h3:=Oq (IV x.name 0)
 rw [h2] at h3
 refine Af Jm Ak (of_decide_eq_true rfl) ?_
 simp (disch:=omega) only [Fd,go_sem,Aa,h3,CD]
def Au:SC:=(.seq (.reg [⟨some 6,none,.mv (.c (.int .i64 0))⟩]) (.seq (.seq (.reg [⟨some 11,none,.mv (.t 0)⟩,⟨some 12,none,.len false (.t 11)⟩,⟨some 13,none,.mv (.c (.int .i64 0))⟩]) (.block 0 (.loop [1,1,1,0,0,0,0,0,0,0,0,1,1,1,0,0,0,0,0,0,0,0,0,0,0,0,0,0,0,0,0,0,0,0,0,0,0,0,0] (.seq (.reg [⟨some 14,none,.bin .lss false (.t 13) (.t 12)⟩]) (.seq (.cond (.t 14) .skip (.exit 0)) (.seq (.block 1 (.seq (.reg [⟨some 15,none,.mv (.t 13)⟩,⟨some 16,none,.iaddr 2 (.t 11) (.t 13)⟩,⟨some 17,none,.load true 2 (.t 16)⟩,⟨(some 8),none,(.alloc 71 [(.str ⟨#[]⟩),.nil])⟩,⟨some 7,none,.mv (.t 15)⟩,⟨none,none,(.store 2 (.t 8) (.t 17))⟩]) (.seq (.seq (.reg [⟨some 18,none,.mv (.t 7)⟩,⟨some 19,none,.mv (.t 1)⟩,⟨some 20,none,.len false (.t 19)⟩,⟨some 21,none,.bin .geq false (.t 18) (.t 20)⟩]) (.cond (.t 21) (.seq (.reg [⟨some 6,none,.mv (.c (.int .i64 1))⟩]) .ret) .skip)) (.seq (.reg [⟨some 22,none,.mv (.t 1)⟩,⟨some 23,none,.mv (.t 7)⟩,⟨some 24,none,.iaddr 2 (.t 22) (.t 23)⟩,⟨some 25,none,.load true 2 (.t 24)⟩,⟨(some 9),none,(.alloc 71 [(.str ⟨#[]⟩),.nil])⟩,⟨none,none,(.store 2 (.t 9) (.t 25))⟩]) (.seq (.reg [⟨some 26,none,.mv (.t 2)⟩,⟨some 27,none,.load true 2 (.t 8)⟩,⟨some 28,none,.load true 2 (.t 9)⟩,⟨some 29,none,.callv (.t 26) [(.t 27),(.t 28)]⟩,⟨some 10,none,.mv (.t 29)⟩]) (.seq (.reg [⟨some 30,none,.mv (.t 10)⟩,⟨some 31,none,.bin .neq false (.t 30) (.c (.int .i64 0))⟩]) (.cond (.t 31) (.seq (.reg [⟨some 32,none,.mv (.t 10)⟩,⟨some 6,none,.mv (.t 32)⟩]) .ret) .skip))))))) (.reg [⟨some 33,none,.bin .add false (.t 13) (.c (.int .i64 1))⟩,⟨some 13,none,.mv (.t 33)⟩]))))))) (.seq (.seq (.reg [⟨some 34,none,.mv (.t 0)⟩,⟨some 35,none,.len false (.t 34)⟩,⟨some 36,none,.mv (.t 1)⟩,⟨some 37,none,.len false (.t 36)⟩,⟨some 38,none,.bin .lss false (.t 35) (.t 37)⟩]) (.cond (.t 38) (.seq (.reg [⟨some 6,none,.mv (.c (.int .i64 (-(0+1))))⟩]) .ret) .skip)) (.seq (.reg [⟨some 6,none,.mv (.c (.int .i64 0))⟩]) .ret))))
theorem A9:codeOf Tryz.prog 155=some ⟨39,Au,[(.tmp 6)]⟩:=by kernel_rfl
theorem Av:modes 155=⟨[],.asis,none,false⟩:=by unfold modes; rfl
def Bz:SC:=(.seq (.reg [⟨some 2,none,.boxv 71 2 (.t 0)⟩,⟨some 3,none,.boxv 71 2 (.t 1)⟩,⟨some 4,none,.mv (.c (.int .i64 0))⟩]) (.seq (.dreg [[],[0],[],[2,1,0],[1,0,3,2],[3,2,1,0,4]] [⟨some 8,none,.load true 2 (.t 2)⟩,⟨some 9,none,.call 89 [(.t 8)]⟩,⟨some 10,none,.load true 2 (.t 3)⟩,⟨some 11,none,.call 89 [(.t 10)]⟩,⟨some 5,none,.mv (.t 9)⟩,⟨some 6,none,.mv (.t 11)⟩]) (.seq (.block 0 (.seq (.reg [⟨some 13,none,.mv (.t 5)⟩,⟨some 14,none,.mv (.t 13)⟩,⟨(some 15),(some (14,true)),(.mv (.t 6))⟩,⟨(some 16),(some (14,true)),(.un .not (.t 15))⟩,⟨some 17,none,.pick (.t 14) (.t 16) (.c (.bool false))⟩,⟨some 12,none,.mv (.t 17)⟩]) (.cond (.t 12) (.seq (.reg [⟨some 4,none,.mv (.c (.int .i64 (-(0+1))))⟩]) .ret) (.seq (.reg [⟨some 19,none,.mv (.t 6)⟩,⟨some 20,none,.mv (.t 19)⟩,⟨(some 21),(some (20,true)),(.mv (.t 5))⟩,⟨(some 22),(some (20,true)),(.un .not (.t 21))⟩,⟨some 23,none,.pick (.t 20) (.t 22) (.c (.bool false))⟩,⟨some 18,none,.mv (.t 23)⟩]) (.cond (.t 18) (.seq (.reg [⟨some 4,none,.mv (.c (.int .i64 1))⟩]) .ret) .skip))))) (.seq (.seq (.dreg [[],[0],[],[2],[1,0,3,2],[],[5],[6,5],[],[8],[9,8],[7,6,5,10,9,8,4,1,0,3,2],[4,1,0,3,2,11,7,6,5,10,9,8],[12,4,1,0,3,2,11,7,6,5,10,9,8],[13,12,4,1,0,3,2,11,7,6,5,10,9,8]] [⟨some 24,none,.faddr 0 (.t 2)⟩,⟨some 25,none,.load false 1 (.t 24)⟩,⟨some 26,none,.faddr 0 (.t 3)⟩,⟨some 27,none,.load false 1 (.t 26)⟩,⟨some 28,none,.call 136 [(.t 25),(.t 27)]⟩,⟨some 29,none,.faddr 1 (.t 2)⟩,⟨some 30,none,.load false 1 (.t 29)⟩,⟨some 31,none,.len false (.t 30)⟩,⟨some 32,none,.faddr 1 (.t 3)⟩,⟨some 33,none,.load false 1 (.t 32)⟩,⟨some 34,none,.len false (.t 33)⟩,⟨some 35,none,.call 122 [(.t 31),(.t 34)]⟩,⟨some 36,none,.mkrow 3 1 [(.int .i64 0)] 2 [(0,(.t 28)),(1,(.t 35))]⟩,⟨some 37,none,.call 120 [(.t 36)]⟩,⟨some 7,none,.mv (.t 37)⟩]) (.seq (.reg [⟨some 38,none,.mv (.t 7)⟩,⟨some 39,none,.bin .neq false (.t 38) (.c (.int .i64 0))⟩]) (.cond (.t 39) (.seq (.reg [⟨some 40,none,.mv (.t 7)⟩,⟨some 4,none,.mv (.t 40)⟩]) .ret) .skip))) (.seq (.reg [⟨some 41,none,.faddr 1 (.t 2)⟩,⟨some 42,none,.load false 1 (.t 41)⟩,⟨some 43,none,.faddr 1 (.t 3)⟩,⟨some 44,none,.load false 1 (.t 43)⟩,⟨some 45,none,.call 155 [(.t 42),(.t 44),(.c (.fn 121 []))]⟩,⟨some 4,none,.mv (.t 45)⟩]) .ret)))))
theorem C0:codeOf Tryz.prog 121=some ⟨46,Bz,[(.tmp 4)]⟩:=by kernel_rfl
theorem AW:modes 121=⟨[],.asis,none,false⟩:=by unfold modes; rfl
theorem Ex:IU Tryz.prog 121=true:=by kernel_rfl
theorem Ih (fid:Nat) (xs ys:List Tm) (hl:xs.length≤1099511627776) (hl':ys.length≤1099511627776) (hg:IU Tryz.prog fid=true) (hm:(modes fid).hand=[]) (hE:∀ x∈xs,∀ y∈ys,E fid [x.sv,y.sv] []=some (.int .i64 (x.cmp y),[])):E 155 [.arr (xs.map Tm.d),.arr (ys.map Tm.d),.fn fid []] []=some (.int .i64 (Tm.cmpL xs ys),[]):=by
  refine Af A9 Av (of_decide_eq_true rfl) ?_
  simp (disch:=omega) only [Au,go_sem,Aa]
  refine go_loop (α:=Int) (fun a=>⟨slots 39 0 [(0,.arr (xs.map Tm.d)),(1,.arr (ys.map Tm.d)),(2,.fn fid []),(11,.arr (xs.map Tm.d)),(12,.int .i64 xs.length),(13,.int .i64 a)],[]⟩) (fun a=>∃ k:Nat,a=k∧k≤(xs).length∧k≤ys.length∧Tm.cmpL (xs.drop k) (ys.drop k)=Tm.cmpL xs ys) (fun a=>(xs).length-(a).toNat) 0 ⟨0,rfl,zG _,zG _,by rw [zL,zL]⟩ (by simp (disch:=omega) only [go_sem,Aa]) ?_
  rintro i ⟨k,hi,hk,hR⟩
  have hni:i.toNat=k:=by omega
  have hni1:(i+1).toNat=k+1:=by omega
  rcases zB k (xs).length with hlt | hge
  · obtain ⟨hk',hR⟩:=hR
    have hgx:=get_at Tm.d hlt
    rw [Tm.d_eq] at hgx
    rcases zB k ys.length with hlt' | hge'
    · have hgy:=get_at Tm.d hlt'
      rw [Tm.d_eq] at hgy
      have hc:=hE xs[k] (zC hlt) ys[k] (zC hlt')
      rw [On hlt hlt'] at hR
      by_cases h0:xs[k].cmp ys[k]=0
      · rw [orZ,if_pos h0] at hR
        rw [h0] at hc
        simp (disch:=omega) only [go_sem,Aa,hni,hgx,hgy,hc,hg,hm]
        exact ⟨i+1,⟨k+1,by omega,hlt,hlt',hR⟩,by omega,by first | trivial | rfl⟩
      · rw [orZ,if_neg h0] at hR
        simp (disch:=omega) only [go_sem,Aa,hni,hgx,hgy,hc,hg,hm,h0]
        exact hR
    · rw [Rb hlt hge'] at hR
      simp (disch:=omega) only [go_sem,Aa,hni,hgx]
      exact hR
  · obtain ⟨hk',hR⟩:=hR
    obtain rfl:k=xs.length:=by omega
    rcases zB xs.length ys.length with hlt' | hge'
    · rw [Wl (zP _) hlt'] at hR
      simp (disch:=omega) only [go_sem,Aa,hni]
      exact hR
    · rw [Oo (zP _) hge'] at hR
      simp (disch:=omega) only [go_sem,Aa,hni]
      exact hR
abbrev Su (f:FuncId) (x y:Tm):Prop:=x.cok=true→y.cok=true→x.nodes≤1099511627776→y.nodes≤1099511627776→E f [x.sv,y.sv] []=some (.int .i64 (x.cmp y),[])
theorem Gs (x:Tm) (ih:∀ x'∈x.args,∀ y,Su 121 x' y) (y:Tm):Su 121 x y:=by
 intro hx hy hnx hny
 have lx:=Tm.length_le x.args
 have ly:=Tm.length_le y.args
 have nx:=Tm.Ao x
 have ny:=Tm.Ao y
 have h1:=Dd x hx
 have h2:=Dd y hy
 have h3:=Jl x.name y.name
 have h4:=Hj x.args.length y.args.length
 have h5:=Wm (Ej x.name y.name) (G8 x.args.length y.args.length)
 rw [Tm.Kn,zA] at hx hy
 have h6:=Ih 121 x.args y.args (by omega) (by omega) Ex (by rw [AW]) fun x' hx' y' hy'=>ih x' hx' y' (Tm.GV hx.2 hx') (Tm.GV hy.2 hy') (by have:=Tm.AT hx'; omega) (by have:=Tm.AT hy'; omega)
 rw [Tm.Uh]
 cases vx:An x.name <;> rw [vx] at h1 <;> cases vy:An y.name <;> rw [vy] at h2
 all_goals
  simp only [Bool.not_true,Bool.not_false,yJ,zM,yG,yL,if_true,if_false,Bool.false_eq_true]
  by_cases h0:orZ (Ej x.name y.name) (G8 x.args.length y.args.length)=0
  ·rw [h0] at h5
   try rw [h0]
   refine Af C0 AW (of_decide_eq_true rfl) ?_
   simp (disch:=omega) only [Bz,go_sem,Aa,h1,h2,h3,h4,h5,h6,Ak,A8,AF,C3,Av]
   try rfl
  ·try rw [orZ.eq_1 (orZ _ _) _,if_neg h0]
   refine Af C0 AW (of_decide_eq_true rfl) ?_
   simp (disch:=omega) only [Bz,go_sem,Aa,h0,h1,h2,h3,h4,h5,Ak,A8,AF,C3]
theorem DW (x y:Tm):Su 121 x y:=Gs x (fun x' hx' y'=>DW x' y') y
termination_by SizeOf.sizeOf x
decreasing_by exact Tm.Ay hx'
def DX:SC:=(.seq (.reg [⟨some 2,none,.mv (.c (.int .i64 0))⟩]) (.seq (.seq (.reg [⟨some 3,none,.mv (.t 0)⟩]) (.cond (.t 3) (.seq (.reg [⟨some 2,none,.mv (.c (.int .i64 1))⟩]) .ret) .skip)) (.seq (.reg [⟨some 2,none,.mv (.c (.int .i64 0))⟩]) .ret)))
theorem Gd:codeOf Tryz.prog 123=some ⟨4,DX,[(.tmp 2)]⟩:=by kernel_rfl
theorem DY:modes 123=⟨[],.asis,none,false⟩:=by unfold modes; rfl
def BL:SC:=(.seq (.reg [⟨some 2,none,.boxv 73 3 (.t 0)⟩,⟨some 3,none,.boxv 73 3 (.t 1)⟩,⟨some 4,none,.mv (.c (.int .i64 0))⟩]) (.seq (.dreg [[],[0],[],[2],[1,0,3,2],[],[5],[6,5,4,1,0,3,2],[],[8],[9,8,7,6,5,4,1,0,3,2],[7,6,5,4,1,0,3,2,10,9,8],[4,1,0,3,2,11,7,6,5,10,9,8],[12,4,1,0,3,2,11,7,6,5,10,9,8],[13,12,4,1,0,3,2,11,7,6,5,10,9,8]] [⟨some 5,none,.faddr 1 (.t 2)⟩,⟨some 6,none,.load true 2 (.t 5)⟩,⟨some 7,none,.faddr 1 (.t 3)⟩,⟨some 8,none,.load true 2 (.t 7)⟩,⟨some 9,none,.call 121 [(.t 6),(.t 8)]⟩,⟨some 10,none,.faddr 0 (.t 2)⟩,⟨some 11,none,.load false 1 (.t 10)⟩,⟨some 12,none,.call 123 [(.t 11)]⟩,⟨some 13,none,.faddr 0 (.t 3)⟩,⟨some 14,none,.load false 1 (.t 13)⟩,⟨some 15,none,.call 123 [(.t 14)]⟩,⟨some 16,none,.call 122 [(.t 12),(.t 15)]⟩,⟨some 17,none,.mkrow 3 1 [(.int .i64 0)] 2 [(0,(.t 9)),(1,(.t 16))]⟩,⟨some 18,none,.call 120 [(.t 17)]⟩,⟨some 4,none,.mv (.t 18)⟩]) .ret))
theorem Dy:codeOf Tryz.prog 83=some ⟨19,BL,[(.tmp 4)]⟩:=by kernel_rfl
theorem Bf:modes 83=⟨[],.asis,none,false⟩:=by unfold modes; rfl
theorem Rc (b:Bool):E 123 [.bool b] []=some (.int .i64 (GW b),[]):=by
 cases b
 ·refine Af Gd DY (of_decide_eq_true rfl) ?_
  simp (disch:=omega) only [DX,go_sem,Aa]
  rfl
 ·refine Af Gd DY (of_decide_eq_true rfl) ?_
  simp (disch:=omega) only [DX,go_sem,Aa]
  rfl
theorem compareLiterals_E (x y:Lt) (hx:x.atom.cok=true) (hy:y.atom.cok=true) (hnx:x.atom.nodes≤1099511627776) (hny:y.atom.nodes≤1099511627776):E 83 [x.sv,y.sv] []=some (.int .i64 (x.cmp y),[]):=by
 have h1:=DW x.atom y.atom hx hy hnx hny
 have h2:=Rc x.pos
 have h3:=Rc y.pos
 have h4:=Hj (GW x.pos) (GW y.pos)
 have h5:=Wm (x.atom.cmp y.atom) (G8 (GW x.pos) (GW y.pos))
 unfold Lt.cmp
 refine Af Dy Bf (of_decide_eq_true rfl) ?_
 simp (disch:=omega) only [BL,go_sem,Aa,h1,h2,h3,h4,h5,AW,DY,AF,C3]
end Wd
theorem Nd (x y:Lt) (hx:x.atom.cok=true) (hy:y.atom.cok=true) (hnx:x.atom.nodes≤1099511627776) (hny:y.atom.nodes≤1099511627776):Qdc Tryz.prog 83 [x.sv,y.sv] [] (.int .i64 (x.cmp y)) []:=Wd.E_told (Wd.compareLiterals_E x y hx hy hnx hny)
def AA:SC:=(.seq (.reg [⟨some 6,none,.mv (.c (.bool false))⟩]) (.seq (.seq (.reg [⟨some 10,none,.mv (.t 0)⟩,⟨some 11,none,.len false (.t 10)⟩,⟨some 12,none,.mv (.t 1)⟩,⟨some 13,none,.len false (.t 12)⟩,⟨some 14,none,.bin .neq false (.t 11) (.t 13)⟩]) (.cond (.t 14) (.seq (.reg [⟨some 6,none,.mv (.c (.bool false))⟩]) .ret) .skip)) (.seq (.seq (.reg [⟨some 15,none,.mv (.t 0)⟩,⟨some 16,none,.len false (.t 15)⟩,⟨some 17,none,.mv (.c (.int .i64 0))⟩]) (.block 0 (.loop [0,1,1,0,0,0,0,0,0,0,0,0,0,0,0,1,1,1,0,0,0,0,0,0,0,0,0,0,0,0,0,0] (.seq (.reg [⟨some 18,none,.bin .lss false (.t 17) (.t 16)⟩]) (.seq (.cond (.t 18) .skip (.exit 0)) (.seq (.block 1 (.seq (.reg [⟨some 19,none,.mv (.t 17)⟩,⟨some 20,none,.iaddr 2 (.t 15) (.t 17)⟩,⟨some 21,none,.load true 2 (.t 20)⟩,⟨(some 8),none,(.alloc 71 [(.str ⟨#[]⟩),.nil])⟩,⟨some 7,none,.mv (.t 19)⟩,⟨none,none,(.store 2 (.t 8) (.t 21))⟩]) (.seq (.reg [⟨some 22,none,.mv (.t 1)⟩,⟨some 23,none,.mv (.t 7)⟩,⟨some 24,none,.iaddr 2 (.t 22) (.t 23)⟩,⟨some 25,none,.load true 2 (.t 24)⟩,⟨(some 9),none,(.alloc 71 [(.str ⟨#[]⟩),.nil])⟩,⟨none,none,(.store 2 (.t 9) (.t 25))⟩]) (.seq (.reg [⟨some 26,none,.mv (.t 2)⟩,⟨some 27,none,.load true 2 (.t 8)⟩,⟨some 28,none,.load true 2 (.t 9)⟩,⟨some 29,none,.callv (.t 26) [(.t 27),(.t 28)]⟩,⟨some 30,none,.un .not (.t 29)⟩]) (.cond (.t 30) (.seq (.reg [⟨some 6,none,.mv (.c (.bool false))⟩]) .ret) .skip))))) (.reg [⟨some 31,none,.bin .add false (.t 17) (.c (.int .i64 1))⟩,⟨some 17,none,.mv (.t 31)⟩]))))))) (.seq (.reg [⟨some 6,none,.mv (.c (.bool true))⟩]) .ret))))
theorem AZ:codeOf Tryz.prog 128=some ⟨32,AA,[(.tmp 6)]⟩:=by kernel_rfl
theorem AB:modes 128=⟨[],.asis,none,false⟩:=by unfold modes; rfl
def Ff:SC:=(.seq (.reg [⟨some 2,none,.boxv 71 2 (.t 0)⟩,⟨some 3,none,.boxv 71 2 (.t 1)⟩,⟨some 4,none,.mv (.c (.bool false))⟩]) (.seq (.reg [⟨some 5,none,.faddr 0 (.t 2)⟩,⟨some 6,none,.load false 1 (.t 5)⟩,⟨some 7,none,.faddr 0 (.t 3)⟩,⟨some 8,none,.load false 1 (.t 7)⟩,⟨some 9,none,.bin .eql false (.t 6) (.t 8)⟩,⟨some 10,none,.mv (.t 9)⟩,⟨(some 11),(some (10,true)),(.faddr 1 (.t 2))⟩,⟨(some 12),(some (10,true)),(.load false 1 (.t 11))⟩,⟨(some 13),(some (10,true)),(.faddr 1 (.t 3))⟩,⟨(some 14),(some (10,true)),(.load false 1 (.t 13))⟩,⟨(some 15),(some (10,true)),(.call 128 [(.t 12),(.t 14),(.c (.fn 88 []))])⟩,⟨some 16,none,.pick (.t 10) (.t 15) (.c (.bool false))⟩,⟨some 4,none,.mv (.t 16)⟩]) .ret))
theorem H9:codeOf Tryz.prog 88=some ⟨17,Ff,[(.tmp 4)]⟩:=by kernel_rfl
theorem Ad:modes 88=⟨[],.asis,none,false⟩:=by unfold modes; rfl
theorem Nf:IU Tryz.prog 88=true:=by kernel_rfl
def FP:SC:=(.seq (.reg [⟨some 2,none,.boxv 71 2 (.t 0)⟩,⟨some 3,none,.boxv 71 2 (.t 1)⟩,⟨some 4,none,.mv (.c (.bool false))⟩]) (.seq (.seq (.reg [⟨some 6,none,.faddr 0 (.t 2)⟩,⟨some 7,none,.load false 1 (.t 6)⟩,⟨some 8,none,.faddr 0 (.t 3)⟩,⟨some 9,none,.load false 1 (.t 8)⟩,⟨some 10,none,.bin .neq false (.t 7) (.t 9)⟩,⟨some 11,none,.mv (.t 10)⟩,⟨(some 12),(some (11,false)),(.faddr 1 (.t 2))⟩,⟨(some 13),(some (11,false)),(.load false 1 (.t 12))⟩,⟨(some 14),(some (11,false)),(.len false (.t 13))⟩,⟨(some 15),(some (11,false)),(.faddr 1 (.t 3))⟩,⟨(some 16),(some (11,false)),(.load false 1 (.t 15))⟩,⟨(some 17),(some (11,false)),(.len false (.t 16))⟩,⟨(some 18),(some (11,false)),(.bin .neq false (.t 14) (.t 17))⟩,⟨some 19,none,.pick (.t 11) (.c (.bool true)) (.t 18)⟩]) (.cond (.t 19) (.seq (.reg [⟨some 4,none,.mv (.c (.bool false))⟩]) .ret) .skip)) (.seq (.seq (.reg [⟨some 5,none,.mv (.c (.int .i64 0))⟩]) (.block 0 (.loop [0,0,1,1,0,1,0,0,0,0,0,0,0,0,0,0,0,0,0,0,0,0,0,0,0,0,0,0,0,0,0,0,0,0,0,0,0,0,0] (.seq (.seq (.reg [⟨some 20,none,.mv (.t 5)⟩,⟨some 21,none,.faddr 1 (.t 2)⟩,⟨some 22,none,.load false 1 (.t 21)⟩,⟨some 23,none,.len false (.t 22)⟩,⟨some 24,none,.bin .lss false (.t 20) (.t 23)⟩]) (.cond (.t 24) .skip (.exit 0))) (.seq (.block 1 (.seq (.dreg [[],[0],[],[1,0,2],[3,1,0,2],[],[5],[],[6,5,7],[8,6,5,7],[4,3,1,0,2,9,8,6,5,7],[10,4,3,1,0,2,9,8,6,5,7]] [⟨some 27,none,.faddr 1 (.t 2)⟩,⟨some 28,none,.load false 1 (.t 27)⟩,⟨some 29,none,.mv (.t 5)⟩,⟨some 30,none,.iaddr 2 (.t 28) (.t 29)⟩,⟨some 31,none,.load true 2 (.t 30)⟩,⟨some 32,none,.faddr 1 (.t 3)⟩,⟨some 33,none,.load false 1 (.t 32)⟩,⟨some 34,none,.mv (.t 5)⟩,⟨some 35,none,.iaddr 2 (.t 33) (.t 34)⟩,⟨some 36,none,.load true 2 (.t 35)⟩,⟨some 37,none,.call 68 [(.t 31),(.t 36)]⟩,⟨some 38,none,.un .not (.t 37)⟩]) (.cond (.t 38) (.seq (.reg [⟨some 4,none,.mv (.c (.bool false))⟩]) .ret) .skip))) (.reg [⟨some 25,none,.mv (.t 5)⟩,⟨some 26,none,.bin .add false (.t 25) (.c (.int .i64 1))⟩,⟨some 5,none,.mv (.t 26)⟩])))))) (.seq (.reg [⟨some 4,none,.mv (.c (.bool true))⟩]) .ret))))
theorem Ik:codeOf Tryz.prog 68=some ⟨39,FP,[(.tmp 4)]⟩:=by kernel_rfl
theorem Ai:modes 68=⟨[],.asis,none,false⟩:=by unfold modes; rfl
theorem Pd {α:Type} {xs ys:List α} {k:Nat} (hx:k<xs.length) (hy:k<ys.length):xs.drop k=ys.drop k ↔ xs[k]=ys[k]∧xs.drop (k+1)=ys.drop (k+1):=by
 rw [zH hx,zH hy,List.cons.injEq]
theorem Wn (fid:Nat) (xs ys:List Tm) (hl:xs.length≤1099511627776) (hl':ys.length≤1099511627776) (hg:IU Tryz.prog fid=true) (hm:(modes fid).hand=[]) (hE:∀ x∈xs,∀ y∈ys,E fid [x.sv,y.sv] []=some (.bool (dec (x=y)),[])):E 128 [.arr (xs.map Tm.d),.arr (ys.map Tm.d),.fn fid []] []=some (.bool (dec (xs=ys)),[]):=by
  by_cases hlen:xs.length=ys.length
  · have hq:((xs.length:Int)=(ys.length:Int))=True:=by first | exact eq_true (by omega) | exact eq_false (by omega)
    refine Af AZ AB (of_decide_eq_true rfl) ?_
    simp (disch:=omega) only [AA,go_sem,Aa,hq]
    refine go_loop (α:=Int) (fun a=>⟨slots 32 0 [(1,.arr (ys.map Tm.d)),(2,.fn fid []),(15,.arr (xs.map Tm.d)),(16,.int .i64 xs.length),(17,.int .i64 a)],[]⟩) (fun a=>∃ k:Nat,a=k∧k≤(xs).length∧dec (xs.drop k=ys.drop k)=dec (xs=ys)) (fun a=>(xs).length-(a).toNat) 0 ⟨0,rfl,zG _,by rw [zL,zL]⟩ (by simp (disch:=omega) only [go_sem,Aa]) ?_
    rintro i ⟨k,hi,hk,hR⟩
    have hni:i.toNat=k:=by omega
    have hni1:(i+1).toNat=k+1:=by omega
    rcases zB k (xs).length with hlt | hge
    · have hgx:=get_at Tm.d hlt
      rw [Tm.d_eq] at hgx
      have hlt':k<ys.length:=by omega
      have hgy:=get_at Tm.d hlt'
      rw [Tm.d_eq] at hgy
      have hc:=hE xs[k] (zC hlt) ys[k] (zC hlt')
      rw [EY (Pd hlt hlt')] at hR
      by_cases h0:xs[k]=ys[k]
      · rw [At h0] at hc
        rw [EY (and_iff_right h0)] at hR
        simp (disch:=omega) only [go_sem,Aa,hni,hgx,hgy,hc,hg,hm]
        exact ⟨i+1,⟨k+1,by omega,hlt,hR⟩,by omega,by first | trivial | rfl⟩
      · rw [A3 h0] at hc
        rw [A3 (fun h=>h0 h.1)] at hR
        simp (disch:=omega) only [go_sem,Aa,hni,hgx,hgy,hc,hg,hm]
        exact hR
    · rw [zI hge,zI (by omega),E5] at hR
      simp (disch:=omega) only [go_sem,Aa,hni]
      exact hR
  · have hq:((xs.length:Int)=(ys.length:Int))=False:=by first | exact eq_true (by omega) | exact eq_false (by omega)
    have he:dec (xs=ys)=false:=A3 fun h=>hlen (by rw [h])
    rw [he]
    refine Af AZ AB (of_decide_eq_true rfl) ?_
    simp (disch:=omega) only [AA,go_sem,Aa,hq]
theorem Tm.eq_iff (x y:Tm):x=y ↔ x.name=y.name∧x.args=y.args:=by
 obtain ⟨n,a⟩:=x
 obtain ⟨m,b⟩:=y
 rw [Tm.mk.injEq]; rfl
theorem Sv (x:Tm) (y:Tm) (hnx:x.nodes≤1099511627776) (hny:y.nodes≤1099511627776) (ih:∀ x'∈x.args,∀ y':Tm,x'.nodes≤1099511627776→y'.nodes≤1099511627776→E 88 [x'.sv,y'.sv] []=some (.bool (dec (x'=y')),[])):E 88 [x.sv,y.sv] []=some (.bool (dec (x=y)),[]):=by
 have lx:=Tm.length_le x.args
 have ly:=Tm.length_le y.args
 have nx:=Tm.Ao x
 have ny:=Tm.Ao y
 have h6:=Wn 88 x.args y.args (by omega) (by omega) Nf (by rw [Ad]) fun x' hx' y' hy'=>ih x' hx' y' (by have:=Tm.AT hx'; omega) (by have:=Tm.AT hy'; omega)
 rw [EY (Tm.eq_iff x y)]
 by_cases h0:x.name=y.name
 ·rw [EY (and_iff_right h0)]
  have hq:(x.name=y.name)=True:=by simp [h0]
  refine Af H9 Ad (of_decide_eq_true rfl) ?_
  simp (disch:=omega) only [Ff,go_sem,Aa,hq,h6,AB]
 ·have hq:(x.name=y.name)=False:=by simp [h0]
  rw [A3 (fun h=>h0 h.1)]
  refine Af H9 Ad (of_decide_eq_true rfl) ?_
  simp (disch:=omega) only [Ff,go_sem,Aa,hq]
theorem Em (x y:Tm) (hnx:x.nodes≤1099511627776) (hny:y.nodes≤1099511627776):E 88 [x.sv,y.sv] []=some (.bool (dec (x=y)),[]) :=
 Sv x y hnx hny fun x' hx' y' h h'=>Em x' y' h h'
termination_by SizeOf.sizeOf x
decreasing_by exact Tm.Ay hx'
theorem Qa9 (x:Tm) (y:Tm) (hnx:x.nodes≤1099511627776) (hny:y.nodes≤1099511627776) (ih:∀ x'∈x.args,∀ y':Tm,x'.nodes≤1099511627776→y'.nodes≤1099511627776→E 68 [x'.sv,y'.sv] []=some (.bool (dec (x'=y')),[])):E 68 [x.sv,y.sv] []=some (.bool (dec (x=y)),[]):=by
  have lx:=Tm.length_le x.args
  have ly:=Tm.length_le y.args
  have nx:=Tm.Ao x
  have ny:=Tm.Ao y
  rw [EY (Tm.eq_iff x y)]
  by_cases h0:x.name=y.name
  · rw [EY (and_iff_right h0)]
    have hq:(x.name=y.name)=True:=by simp [h0]
    by_cases hlen:x.args.length=y.args.length
    · have hq2:((x.args.length:Int)=(y.args.length:Int))=True:=by first | exact eq_true (by omega) | exact eq_false (by omega)
      refine Af Ik Ai (of_decide_eq_true rfl) ?_
      simp (disch:=omega) only [FP,go_sem,Aa,hq,hq2]
      refine go_loop (α:=Int) (fun a=>⟨slots 39 0 [(2,.ptr 0 0),(3,.ptr 1 0),(5,.int .i64 a)],[.box 71 [.str x.name,.arr (x.args.map Tm.d)],.box 71 [.str y.name,.arr (y.args.map Tm.d)]]⟩) (fun a=>∃ k:Nat,a=k∧k≤(x.args).length∧dec (x.args.drop k=y.args.drop k)=dec (x.args=y.args)) (fun a=>(x.args).length-(a).toNat) 0 ⟨0,rfl,zG _,by rw [zL,zL]⟩ (by simp (disch:=omega) only [go_sem,Aa]) ?_
      rintro i ⟨k,hi,hk,hR⟩
      have hni:i.toNat=k:=by omega
      have hni1:(i+1).toNat=k+1:=by omega
      rcases zB k (x.args).length with hlt | hge
      · have hgx:=get_at Tm.d hlt
        rw [Tm.d_eq] at hgx
        have hlt':k<y.args.length:=by omega
        have hgy:=get_at Tm.d hlt'
        rw [Tm.d_eq] at hgy
        have hc:=ih x.args[k] (zC hlt) y.args[k] (by have:=Tm.AT (zC hlt); omega) (by have:=Tm.AT (zC hlt'); omega)
        rw [EY (Pd hlt hlt')] at hR
        by_cases h0:x.args[k]=y.args[k]
        · rw [At h0] at hc
          rw [EY (and_iff_right h0)] at hR
          simp (disch:=omega) only [go_sem,Aa,hni,hgx,hgy,hc,Ai]
          exact ⟨i+1,⟨k+1,by omega,hlt,hR⟩,by omega,by first | trivial | rfl⟩
        · rw [A3 h0] at hc
          rw [A3 (fun h=>h0 h.1)] at hR
          simp (disch:=omega) only [go_sem,Aa,hni,hgx,hgy,hc,Ai]
          exact hR
      · rw [zI hge,zI (by omega),E5] at hR
        simp (disch:=omega) only [go_sem,Aa,hni]
        exact hR
    · have hq2:((x.args.length:Int)=(y.args.length:Int))=False:=by first | exact eq_true (by omega) | exact eq_false (by omega)
      have he:dec (x.args=y.args)=false:=A3 fun h=>hlen (by rw [h])
      rw [he]
      refine Af Ik Ai (of_decide_eq_true rfl) ?_
      simp (disch:=omega) only [FP,go_sem,Aa,hq,hq2]
  · have hq:(x.name=y.name)=False:=by simp [h0]
    rw [A3 (fun h=>h0 h.1)]
    refine Af Ik Ai (of_decide_eq_true rfl) ?_
    simp (disch:=omega) only [FP,go_sem,Aa,hq]
theorem Kx (x y:Tm) (hnx:x.nodes≤1099511627776) (hny:y.nodes≤1099511627776):E 68 [x.sv,y.sv] []=some (.bool (dec (x=y)),[]) :=
 Qa9 x y hnx hny fun x' hx' y' h h'=>Kx x' y' h h'
termination_by SizeOf.sizeOf x
decreasing_by exact Tm.Ay hx'
def FD:SC:=(.seq (.reg [⟨some 2,none,.mv (.c .nil)⟩]) (.seq (.seq (.reg [⟨some 6,none,.mv (.t 0)⟩,⟨some 7,none,.len false (.t 6)⟩,⟨some 8,none,.bin .eql false (.t 7) (.c (.int .i64 0))⟩]) (.cond (.t 8) (.seq (.reg [⟨some 2,none,.mv (.c .nil)⟩]) .ret) .skip)) (.seq (.reg [⟨some 9,none,.mv (.t 0)⟩,⟨some 10,none,.len false (.t 9)⟩,⟨(some 11),none,(.mkslice 71 2 40 [(.str ⟨#[]⟩),.nil] (.t 10))⟩,⟨some 3,none,.mv (.t 11)⟩]) (.seq (.seq (.reg [⟨some 12,none,.mv (.t 0)⟩,⟨some 13,none,.len false (.t 12)⟩,⟨some 14,none,.mv (.c (.int .i64 0))⟩]) (.block 0 (.loop [0,0,0,1,0,0,0,0,0,0,0,0,1,1,1,0,0,0,0,0,0,0,0,0,0,0] (.seq (.reg [⟨some 15,none,.bin .lss false (.t 14) (.t 13)⟩]) (.seq (.cond (.t 15) .skip (.exit 0)) (.seq (.block 1 (.seq (.reg [⟨some 16,none,.mv (.t 14)⟩,⟨some 17,none,.iaddr 2 (.t 12) (.t 14)⟩,⟨some 18,none,.load true 2 (.t 17)⟩,⟨(some 5),none,(.alloc 71 [(.str ⟨#[]⟩),.nil])⟩,⟨some 4,none,.mv (.t 16)⟩,⟨none,none,(.store 2 (.t 5) (.t 18))⟩]) (.reg [⟨some 19,none,.mv (.t 3)⟩,⟨some 20,none,.mv (.t 4)⟩,⟨some 21,none,.load true 2 (.t 5)⟩,⟨some 22,none,.call 133 [(.t 21)]⟩,⟨some 23,none,.iaddr 2 (.t 19) (.t 20)⟩,⟨none,none,(.store 2 (.t 23) (.t 22))⟩]))) (.reg [⟨some 24,none,.bin .add false (.t 14) (.c (.int .i64 1))⟩,⟨some 14,none,.mv (.t 24)⟩]))))))) (.seq (.reg [⟨some 25,none,.mv (.t 3)⟩,⟨some 2,none,.mv (.t 25)⟩]) .ret)))))
theorem IA:codeOf Tryz.prog 165=some ⟨26,FD,[(.tmp 2)]⟩:=by kernel_rfl
theorem FE:modes 165=⟨[],.own [some (71,2)],none,false⟩:=by unfold modes; rfl
def J3:SC:=(.seq (.reg [⟨some 1,none,.boxv 71 2 (.t 0)⟩,⟨(some 2),none,(.alloc 71 [(.str ⟨#[]⟩),.nil])⟩]) (.seq (.dreg [[],[0],[],[2],[3,2],[1,0,4,3,2],[5,1,0,4,3,2]] [⟨some 3,none,.faddr 0 (.t 1)⟩,⟨some 4,none,.load false 1 (.t 3)⟩,⟨some 5,none,.faddr 1 (.t 1)⟩,⟨some 6,none,.load false 1 (.t 5)⟩,⟨some 7,none,.call 165 [(.t 6)]⟩,⟨(some 8),none,(.build [(.str ⟨#[]⟩),.nil] [(0,(1,(.t 4))),(1,(1,(.t 7)))])⟩,⟨none,none,(.store 2 (.t 2) (.t 8))⟩]) .ret))
theorem Pw:codeOf Tryz.prog 133=some ⟨9,J3,[(.cell 2 true 2)]⟩:=by kernel_rfl
theorem AX:modes 133=⟨[],.asis,none,false⟩:=by unfold modes; rfl
def Ng:SC:=(.seq (.reg [⟨some 1,none,.boxv 71 2 (.t 0)⟩,⟨(some 2),none,(.alloc 71 [(.str ⟨#[]⟩),.nil])⟩]) (.seq (.reg [⟨some 5,none,.faddr 0 (.t 1)⟩,⟨some 6,none,.load false 1 (.t 5)⟩,⟨(some 7),none,(.build [(.str ⟨#[]⟩),.nil] [(0,(1,(.t 6)))])⟩,⟨(some 3),none,(.alloc 71 [(.str ⟨#[]⟩),.nil])⟩,⟨none,none,(.store 2 (.t 3) (.t 7))⟩]) (.seq (.seq (.reg [⟨some 4,none,.mv (.c (.int .i64 0))⟩]) (.block 0 (.loop [0,1,1,1,1,0,0,0,0,0,0,0,0,0,0,0,0,0,0,0,0,0,0,0,0,0,0] (.seq (.seq (.reg [⟨some 8,none,.mv (.t 4)⟩,⟨some 9,none,.faddr 1 (.t 1)⟩,⟨some 10,none,.load false 1 (.t 9)⟩,⟨some 11,none,.len false (.t 10)⟩,⟨some 12,none,.bin .lss false (.t 8) (.t 11)⟩]) (.cond (.t 12) .skip (.exit 0))) (.seq (.block 1 (.dreg [[],[0],[],[2],[],[3,2,4],[5,3,2,4],[6,5,3,2,4],[7,6,5,3,2,4],[1,0,8,7,6,5,3,2,4],[0,1,2,3,4,5,6,7,8,9],[10,0,1,2,3,4,5,6,7,8,9]] [⟨some 15,none,.faddr 1 (.t 3)⟩,⟨some 16,none,.load false 1 (.t 15)⟩,⟨some 17,none,.faddr 1 (.t 1)⟩,⟨some 18,none,.load false 1 (.t 17)⟩,⟨some 19,none,.mv (.t 4)⟩,⟨some 20,none,.iaddr 2 (.t 18) (.t 19)⟩,⟨some 21,none,.load true 2 (.t 20)⟩,⟨some 22,none,.call 148 [(.t 21)]⟩,⟨(some 23),none,(.mkrow 71 2 [(.str ⟨#[]⟩),.nil] 1 [(0,(.t 22))])⟩,⟨(some 24),none,(.append 71 2 40 [(.str ⟨#[]⟩),.nil] (.t 16) (.t 23))⟩,⟨some 25,none,.faddr 1 (.t 3)⟩,⟨none,none,(.store 1 (.t 25) (.t 24))⟩])) (.reg [⟨some 13,none,.mv (.t 4)⟩,⟨some 14,none,.bin .add false (.t 13) (.c (.int .i64 1))⟩,⟨some 4,none,.mv (.t 14)⟩])))))) (.seq (.reg [⟨some 26,none,.load true 2 (.t 3)⟩,⟨none,none,(.store 2 (.t 2) (.t 26))⟩]) .ret))))
theorem U2:codeOf Tryz.prog 148=some ⟨27,Ng,[(.cell 2 true 2)]⟩:=by kernel_rfl
theorem CQ:modes 148=⟨[],.frz,none,false⟩:=by unfold modes; rfl
theorem U3 (xs:List Tm) (hl:xs.length≤1099511627776) (h:∀ x∈xs,E 133 [x.sv] []=some (x.osv,x.obs)):E 165 [.arr (xs.map Tm.d)] []=some (.ref 0,[.row 71 2 (xs.map Tm.o)]):=by
 cases xs with
 | nil =>
  refine Af IA FE (of_decide_eq_true rfl) ?_
  simp (disch:=omega) only [FD,go_sem,Aa]
 | cons x0 xs0 =>
 generalize hxs:x0 :: xs0=xs at *
 have hpos:0<xs.length:=by rw [←hxs]; simp
 refine Af IA FE (of_decide_eq_true rfl) ?_
 simp (disch:=omega) only [FD,go_sem,Aa]
 refine go_loop (α:=Int) (fun a=>⟨slots 26 0 [(3,.ref 0),(12,.arr (xs.map Tm.d)),(13,.int .i64 xs.length),(14,.int .i64 a)],[.row 71 2 (Fx Tm.o [.str ⟨#[]⟩,.ow []] xs a.toNat)]⟩) (fun a=>∃ k:Nat,a=k∧k≤(xs).length) (fun a=>(xs).length-(a).toNat) 0 ⟨0,rfl,zG _⟩ (by simp (disch:=omega) only [go_sem,Aa,Hd,yM]) ?_
 rintro i ⟨k,hi,hk⟩
 have hni:i.toNat=k:=by omega
 have hni1:(i+1).toNat=k+1:=by omega
 rcases zB k (xs).length with hlt | hge
 ·have hg:=get_at Tm.d hlt
  rw [Tm.d_eq] at hg
  have hz:=I6 Tm.o [.str ⟨#[]⟩,.ow []] hlt
  have hc:=h xs[k] (zC hlt)
  have hs:=I7 Tm.o [.str ⟨#[]⟩,.ow []] hlt
  rw [Tm.o_eq] at hs
  simp (disch:=omega) only [go_sem,Aa,hni,hg,hc,hz,I4,AX,Tm.osv,Tm.obs]
  refine ⟨i+1,⟨k+1,by omega,hlt⟩,by omega,?_⟩
  simp (disch:=omega) only [go_sem,Aa,hni1,hs]
 ·obtain rfl:k=xs.length:=by omega
  simp (disch:=omega) only [go_sem,Aa,hni,I5]
theorem Wo (x:Tm) (h:E 165 [.arr (x.args.map Tm.d)] []=some (.ref 0,[.row 71 2 (x.args.map Tm.o)])):E 133 [x.sv] []=some (x.osv,x.obs):=by
 refine Af Pw AX (of_decide_eq_true rfl) ?_
 simp (disch:=omega) only [J3,go_sem,Aa,h,FE]
theorem Jn (x:Tm) (hn:x.nodes≤1099511627776):E 133 [x.sv] []=some (x.osv,x.obs) :=
 Wo x (U3 x.args (by have:=Tm.Ao x; have:=Tm.length_le x.args; omega) fun y hy=>Jn y (by have:=Tm.AT hy; have:=Tm.Ao x; omega))
termination_by SizeOf.sizeOf x
decreasing_by exact Tm.Ay hy
def Qe3 (res:RM) (n0:Nat) (rs:List RX) (Q:SV × List Ob→Prop) (x:X) (st:St):Prop:=∃ out,Sp res n0 rs out x st∧Q out
theorem exq {α:Type} {a:α} {Q:α→Prop}:(∃ out,some a=some out∧Q out)=Q a:=propext ⟨fun ⟨o,h,q⟩=>by obtain rfl:=yP h; exact q,fun q=>⟨a,rfl,q⟩⟩
theorem Qec {res:RM} {n0:Nat} {rs:List RX} {Q:SV × List Ob→Prop} {sl:List SV} {ob:List Ob}:Qe3 res n0 rs Q .ret ⟨sl,ob⟩=∃ out,MS res n0 ob (NO ⟨sl,ob⟩ rs)=some out∧Q out:=rfl
theorem Qed {res:RM} {n0:Nat} {rs:List RX} {Q:SV × List Ob→Prop} {sl:List SV} {ob:List Ob}:Qe3 res n0 rs Q .normal ⟨sl,ob⟩=∃ out,MS res n0 ob (NO ⟨sl,ob⟩ rs)=some out∧Q out:=rfl
attribute [go_sem] Qec Qed exq
def Tm.osh (x:Tm):List OT:=[.str x.name,.sh (x.args.map Tm.d)]
theorem Tm.Re (x:Tm):x.osh=[.str x.name,.sh (x.args.map Tm.d)]:=rfl
theorem Tm.Nh:∀ xs:List Tm,OT.AL (xs.map Tm.osh)=true
 | []=>rfl
 | x :: xs=>by rw [zJ,Tm.Re]; simp [OT.AL,OT.Ds,OT.full,Tm.Nh xs]
theorem Tm.U4:∀ xs:List Tm,OT.erss (xs.map Tm.osh)=xs.map Tm.d
 | []=>rfl
 | x :: xs=>by rw [zJ,zJ,Tm.Re,Tm.d_eq]; simp [OT.erss,OT.ers,OT.er,Tm.U4 xs]
theorem D8 {α β:Type} (f:α→β) {xs:List α} {k:Nat} (h:k<xs.length):(xs.take k).map f++[f xs[k]]=(xs.take (k+1)).map f:=by
 rw [yF h,yD]; rfl
theorem QbV (x:Tm) (hn:x.nodes≤1099511627776) (ih:∀ y∈x.args,E 148 [y.sv] []=some (y.sv,[])):E 148 [x.sv] []=some (x.sv,[]):=by
 have hl:=Tm.length_le x.args
 have hne:=Tm.Ao x
 have h10:((1:Int)=0)=False:=by simp
 have hfu:=Tm.Nh x.args
 have her:=Tm.U4 x.args
 refine Af U2 CQ (of_decide_eq_true rfl) ?_
 simp (disch:=omega) only [Ng,go_sem,Aa]
 refine go_loop (α:=Int) (fun a=>⟨slots 27 0 [(1,.ptr 0 0),(2,.ptr 1 0),(3,.ptr 2 0),(4,.int .i64 a)],(if a=0 then [.box 71 [.str x.name,.arr (x.args.map Tm.d)],.box 71 [.str ⟨#[]⟩,.nil],.box 71 [.str x.name,.nil]] else [.box 71 [.str x.name,.arr (x.args.map Tm.d)],.box 71 [.str ⟨#[]⟩,.nil],.box 71 [.str x.name,.ref 3],.row 71 2 ((x.args.take a.toNat).map Tm.osh)])⟩) (fun a=>∃ k:Nat,a=k∧k≤(x.args).length) (fun a=>(x.args).length-(a).toNat) 0 ⟨0,rfl,zG _⟩ (by simp (disch:=omega) only [go_sem,Aa,eq_self,if_true]) ?_
 rintro i ⟨k,hi,hk⟩
 have hni:i.toNat=k:=by omega
 have hni1:(i+1).toNat=k+1:=by omega
 rcases zB k (x.args).length with hlt | hge
 ·have hg:=get_at Tm.d hlt
  rw [Tm.d_eq] at hg
  have hc:=ih x.args[k] (zC hlt)
  have hs:=D8 Tm.osh hlt
  rw [Tm.Re] at hs
  rcases zF k with h0 | h0
  ·subst h0
   obtain rfl:i=0:=hi
   rw [zZ,zK,zT] at hs
   simp (disch:=omega) only [go_sem,Aa,hni,hg,hc,CQ,eq_self,if_true]
   refine ⟨1,⟨1,rfl,hlt⟩,by omega,?_⟩
   simp (disch:=omega) only [go_sem,Aa,h10,if_false,hs]
  ·have hi0:(i=0)=False:=by simp; omega
   have hi1:(i+1=0)=False:=by simp; omega
   have htl:(x.args.take k).length=k:=by rw [zO]; omega
   simp (disch:=omega) only [go_sem,Aa,hni,hg,hc,CQ,hi0,if_false,htl]
   refine ⟨i+1,⟨k+1,by omega,hlt⟩,by omega,?_⟩
   simp (disch:=omega) only [go_sem,Aa,hni1,hi1,if_false,hs]
 ·obtain rfl:k=x.args.length:=by omega
  have ht:x.args.take x.args.length=x.args:=zQ
  rcases zF x.args.length with h0 | h0
  ·have hx:x.args=[]:=zD h0
   obtain rfl:i=0:=by omega
   simp (disch:=omega) only [go_sem,Aa,hni,hx,eq_self,if_true,zK,zX]
  ·have hi0:(i=0)=False:=by simp; omega
   simp (disch:=omega) only [go_sem,Aa,hni,hi0,if_false,ht,hfu,her]
theorem PG (x:Tm) (hn:x.nodes≤1099511627776):E 148 [x.sv] []=some (x.sv,[]) :=
 QbV x hn fun y hy=>PG y (by have:=Tm.AT hy; have:=Tm.Ao x; omega)
termination_by SizeOf.sizeOf x
decreasing_by exact Tm.Ay hy
def Hk:SC:=(.seq (.reg [⟨some 1,none,.boxv 73 3 (.t 0)⟩,⟨(some 2),none,(.alloc 73 [(.bool false),(.str ⟨#[]⟩),.nil])⟩]) (.seq (.dreg [[],[0],[],[2],[3,2],[1,0,4,3,2],[5,1,0,4,3,2]] [⟨some 3,none,.faddr 0 (.t 1)⟩,⟨some 4,none,.load false 1 (.t 3)⟩,⟨some 5,none,.faddr 1 (.t 1)⟩,⟨some 6,none,.load true 2 (.t 5)⟩,⟨some 7,none,.call 133 [(.t 6)]⟩,⟨(some 8),none,(.build [(.bool false),(.str ⟨#[]⟩),.nil] [(0,(1,(.t 4))),(1,(2,(.t 7)))])⟩,⟨none,none,(.store 3 (.t 2) (.t 8))⟩]) .ret))
theorem Mm:codeOf Tryz.prog 169=some ⟨9,Hk,[(.cell 2 true 3)]⟩:=by kernel_rfl
theorem CE:modes 169=⟨[],.own [none,none,some (71,2)],none,false⟩:=by unfold modes; rfl
def Hl:SC:=(.seq (.reg [⟨some 2,none,.boxv 73 3 (.t 0)⟩,⟨some 3,none,.boxv 73 3 (.t 1)⟩,⟨some 4,none,.mv (.c (.bool false))⟩]) (.seq (.reg [⟨some 5,none,.faddr 0 (.t 2)⟩,⟨some 6,none,.load false 1 (.t 5)⟩,⟨some 7,none,.faddr 0 (.t 3)⟩,⟨some 8,none,.load false 1 (.t 7)⟩,⟨some 9,none,.bin .eql true (.t 6) (.t 8)⟩,⟨some 10,none,.mv (.t 9)⟩,⟨(some 11),(some (10,true)),(.faddr 1 (.t 2))⟩,⟨(some 12),(some (10,true)),(.load true 2 (.t 11))⟩,⟨(some 13),(some (10,true)),(.faddr 1 (.t 3))⟩,⟨(some 14),(some (10,true)),(.load true 2 (.t 13))⟩,⟨(some 15),(some (10,true)),(.call 88 [(.t 12),(.t 14)])⟩,⟨some 16,none,.pick (.t 10) (.t 15) (.c (.bool false))⟩,⟨some 4,none,.mv (.t 16)⟩]) .ret))
theorem Mn:codeOf Tryz.prog 101=some ⟨17,Hl,[(.tmp 4)]⟩:=by kernel_rfl
theorem Mo:modes 101=⟨[],.asis,none,false⟩:=by unfold modes; rfl
def J4:SC:=(.seq (.reg [⟨some 2,none,.alloc 28 [.nil]⟩]) (.seq (.reg [⟨some 6,none,.build [.nil] []⟩,⟨some 3,none,.alloc 28 [.nil]⟩,⟨none,none,(.store 1 (.t 3) (.t 6))⟩]) (.seq (.seq (.reg [⟨some 7,none,.mv (.t 0)⟩,⟨some 8,none,.len false (.t 7)⟩,⟨some 9,none,.mv (.c (.int .i64 0))⟩]) (.block 0 (.loop [0,0,1,1,0,0,0,1,1,1,0,0,0,0,0,0,0,0,0,0,0,0,0,0,0,0,0,0,0] (.seq (.reg [⟨some 10,none,.bin .lss false (.t 9) (.t 8)⟩]) (.seq (.cond (.t 10) .skip (.exit 0)) (.seq (.block 1 (.seq (.reg [⟨some 11,none,.iaddr 3 (.t 7) (.t 9)⟩,⟨some 12,none,.load true 3 (.t 11)⟩,⟨(some 5),none,(.alloc 73 [(.bool false),(.str ⟨#[]⟩),.nil])⟩,⟨none,none,(.store 3 (.t 5) (.t 12))⟩]) (.dreg [[],[0],[],[2],[3,2],[1,0,4,3,2],[0,1,2,3,4,5],[6,0,1,2,3,4,5]] [⟨some 13,none,.faddr 0 (.t 3)⟩,⟨some 14,none,.load false 1 (.t 13)⟩,⟨some 15,none,.load true 3 (.t 5)⟩,⟨some 16,none,.call 169 [(.t 15)]⟩,⟨(some 17),none,(.mkrow 73 3 [(.bool false),(.str ⟨#[]⟩),.nil] 1 [(0,(.t 16))])⟩,⟨(some 18),none,(.append 73 3 48 [(.bool false),(.str ⟨#[]⟩),.nil] (.t 14) (.t 17))⟩,⟨some 19,none,.faddr 0 (.t 3)⟩,⟨none,none,(.store 1 (.t 19) (.t 18))⟩]))) (.reg [⟨some 20,none,.bin .add false (.t 9) (.c (.int .i64 1))⟩,⟨some 9,none,.mv (.t 20)⟩]))))))) (.seq (.reg [⟨some 21,none,.faddr 0 (.t 3)⟩,⟨some 22,none,.load false 1 (.t 21)⟩,⟨some 23,none,.call 170 [(.t 22),(.c (.fn 83 []))]⟩]) (.seq (.reg [⟨some 24,none,.faddr 0 (.t 3)⟩,⟨some 25,none,.load false 1 (.t 24)⟩,⟨some 26,none,.call 171 [(.t 25),(.c (.fn 101 []))]⟩,⟨some 27,none,.faddr 0 (.t 3)⟩,⟨none,none,(.store 1 (.t 27) (.t 26))⟩]) (.seq (.reg [⟨some 28,none,.load true 1 (.t 3)⟩,⟨none,none,(.store 1 (.t 2) (.t 28))⟩]) .ret))))))
theorem Px:codeOf Tryz.prog 138=some ⟨29,J4,[(.cell 2 true 1)]⟩:=by kernel_rfl
theorem CM:modes 138=⟨[],.own [some (73,3)],none,false⟩:=by unfold modes; rfl
def LF:SC:=(.seq (.reg [⟨some 2,none,.alloc 28 [.nil]⟩]) (.seq (.reg [⟨(some 7),none,(.mkrow 73 3 [(.bool false),(.str ⟨#[]⟩),.nil] 0 [])⟩,⟨some 3,none,.mv (.t 7)⟩]) (.seq (.seq (.reg [⟨some 4,none,.mv (.c (.int .i64 0))⟩]) (.block 0 (.loop [1,0,1,1,1,0,0,0,0,0,0,0,0,0,0,0,0,0,0,0,0,0,0,0,0,0,0,0,0,0,0,0,0,0,0,0,0,0,0,0,0,0,0,0,0,0,0,0,0,0,0,0,0,0,0,0,0,0,0,0,0,0,0,0,0,0,0,0,0,0,0,0,0,0] (.seq (.seq (.reg [⟨some 8,none,.mv (.t 4)⟩,⟨some 9,none,.mv (.t 0)⟩,⟨some 10,none,.len false (.t 9)⟩,⟨some 11,none,.bin .lss false (.t 8) (.t 10)⟩]) (.cond (.t 11) .skip (.exit 0))) (.seq (.block 1 (.seq (.reg [⟨some 5,none,.mv (.c (.int .i64 0))⟩]) (.seq (.block 2 (.loop [1,0,1,1,1,1,0,0,0,0,0,0,0,0,0,0,0,0,0,0,0,0,0,0,0,0,0,0,0,0,0,0,0,0,0,0,0,0,0,0,0,0,0,0,0,0,0,0,0,0,0,0,0,0,0,0,0,0,0,0,0,0,0,0,0,0,0,0,0,0,0,0,0,0] (.seq (.seq (.dreg [[],[],[1],[0,2,1],[3,0,2,1],[4,3,0,2,1],[4,3,0,2,1],[5,4,3,0,2,1,6],[7,5,4,3,0,2,1,6],[4,3,0,2,1],[4,3,0,2,1],[9,4,3,0,2,1,10],[11,9,4,3,0,2,1,10],[8,7,5,4,3,0,2,1,6,12,11,9,10],[13,8,7,5,4,3,0,2,1,6,12,11,9,10],[4,3,0,2,1,14,13,8,7,5,6,12,11,9,10]] [⟨some 14,none,.mv (.t 5)⟩,⟨some 15,none,.mv (.t 3)⟩,⟨some 16,none,.len false (.t 15)⟩,⟨some 17,none,.bin .lss false (.t 14) (.t 16)⟩,⟨some 18,none,.mv (.t 17)⟩,⟨(some 19),(some (18,true)),(.mv (.t 3))⟩,⟨(some 20),(some (18,true)),(.mv (.t 5))⟩,⟨(some 21),(some (18,true)),(.iaddr 3 (.t 19) (.t 20))⟩,⟨(some 22),(some (18,true)),(.load true 3 (.t 21))⟩,⟨(some 23),(some (18,true)),(.mv (.t 0))⟩,⟨(some 24),(some (18,true)),(.mv (.t 4))⟩,⟨(some 25),(some (18,true)),(.iaddr 3 (.t 23) (.t 24))⟩,⟨(some 26),(some (18,true)),(.load true 3 (.t 25))⟩,⟨(some 27),(some (18,true)),(.call 73 [(.t 22),(.t 26)])⟩,⟨(some 28),(some (18,true)),(.bin .lss false (.t 27) (.c (.int .i64 0)))⟩,⟨some 29,none,.pick (.t 18) (.t 28) (.c (.bool false))⟩]) (.cond (.t 29) .skip (.exit 2))) (.block 3 (.reg [⟨some 30,none,.mv (.t 5)⟩,⟨some 31,none,.bin .add false (.t 30) (.c (.int .i64 1))⟩,⟨some 5,none,.mv (.t 31)⟩]))))) (.seq (.seq (.dreg [[],[],[1],[0,2,1],[3,0,2,1],[4,3,0,2,1],[4,3,0,2,1],[5,4,3,0,2,1,6],[7,5,4,3,0,2,1,6],[4,3,0,2,1],[4,3,0,2,1],[9,4,3,0,2,1,10],[11,9,4,3,0,2,1,10],[8,7,5,4,3,0,2,1,6,12,11,9,10],[13,8,7,5,4,3,0,2,1,6,12,11,9,10],[4,3,0,2,1,14,13,8,7,5,6,12,11,9,10]] [⟨some 32,none,.mv (.t 5)⟩,⟨some 33,none,.mv (.t 3)⟩,⟨some 34,none,.len false (.t 33)⟩,⟨some 35,none,.bin .lss false (.t 32) (.t 34)⟩,⟨some 36,none,.mv (.t 35)⟩,⟨(some 37),(some (36,true)),(.mv (.t 3))⟩,⟨(some 38),(some (36,true)),(.mv (.t 5))⟩,⟨(some 39),(some (36,true)),(.iaddr 3 (.t 37) (.t 38))⟩,⟨(some 40),(some (36,true)),(.load true 3 (.t 39))⟩,⟨(some 41),(some (36,true)),(.mv (.t 0))⟩,⟨(some 42),(some (36,true)),(.mv (.t 4))⟩,⟨(some 43),(some (36,true)),(.iaddr 3 (.t 41) (.t 42))⟩,⟨(some 44),(some (36,true)),(.load true 3 (.t 43))⟩,⟨(some 45),(some (36,true)),(.call 73 [(.t 40),(.t 44)])⟩,⟨(some 46),(some (36,true)),(.bin .eql false (.t 45) (.c (.int .i64 0)))⟩,⟨some 47,none,.pick (.t 36) (.t 46) (.c (.bool false))⟩]) (.cond (.t 47) (.exit 1) .skip)) (.seq (.dreg [[],[],[0,1],[2,0,1],[3,2,0,1],[],[],[5,6],[7,5,6],[8,7,5,6],[9,8,7,5,6],[4,3,2,0,1,10,9,8,7,5,6],[],[12,11,4,3,2,0,1,10,9,8,7,5,6]] [⟨some 48,none,.mv (.t 0)⟩,⟨some 49,none,.mv (.t 4)⟩,⟨some 50,none,.iaddr 3 (.t 48) (.t 49)⟩,⟨some 51,none,.faddr 0 (.t 50)⟩,⟨some 52,none,.load false 1 (.t 51)⟩,⟨some 53,none,.mv (.t 0)⟩,⟨some 54,none,.mv (.t 4)⟩,⟨some 55,none,.iaddr 3 (.t 53) (.t 54)⟩,⟨some 56,none,.faddr 1 (.t 55)⟩,⟨some 57,none,.load true 2 (.t 56)⟩,⟨some 58,none,.call 148 [(.t 57)]⟩,⟨(some 59),none,(.build [(.bool false),(.str ⟨#[]⟩),.nil] [(0,(1,(.t 52))),(1,(2,(.t 58)))])⟩,⟨(some 6),none,(.alloc 73 [(.bool false),(.str ⟨#[]⟩),.nil])⟩,⟨none,none,(.store 3 (.t 6) (.t 59))⟩]) (.dreg [[],[],[],[1,2],[0,3,1,2],[],[5],[4,0,3,1,2,6,5],[],[],[8,9],[7,4,0,3,1,2,6,5,10,8,9],[11,7,4,0,3,1,2,6,5,10,8,9]] [⟨(some 60),none,(.mkrow 73 3 [(.bool false),(.str ⟨#[]⟩),.nil] 0 [])⟩,⟨some 61,none,.mv (.t 3)⟩,⟨some 62,none,.mv (.t 5)⟩,⟨some 63,none,.slice false 3 (.t 61) none (some (.t 62))⟩,⟨(some 64),none,(.append 73 3 48 [(.bool false),(.str ⟨#[]⟩),.nil] (.t 60) (.t 63))⟩,⟨some 65,none,.load true 3 (.t 6)⟩,⟨(some 66),none,(.mkrow 73 3 [(.bool false),(.str ⟨#[]⟩),.nil] 1 [(0,(.t 65))])⟩,⟨(some 67),none,(.append 73 3 48 [(.bool false),(.str ⟨#[]⟩),.nil] (.t 64) (.t 66))⟩,⟨some 68,none,.mv (.t 3)⟩,⟨some 69,none,.mv (.t 5)⟩,⟨some 70,none,.slice false 3 (.t 68) (some (.t 69)) none⟩,⟨(some 71),none,(.append 73 3 48 [(.bool false),(.str ⟨#[]⟩),.nil] (.t 67) (.t 70))⟩,⟨some 3,none,.mv (.t 71)⟩])))))) (.reg [⟨some 12,none,.mv (.t 4)⟩,⟨some 13,none,.bin .add false (.t 12) (.c (.int .i64 1))⟩,⟨some 4,none,.mv (.t 13)⟩])))))) (.seq (.reg [⟨some 72,none,.mv (.t 3)⟩,⟨some 73,none,.build [.nil] [(0,(1,(.t 72)))]⟩,⟨none,none,(.store 1 (.t 2) (.t 73))⟩]) .ret))))
theorem Sw:codeOf Tryz.prog 117=some ⟨74,LF,[(.cell 2 true 1)]⟩:=by kernel_rfl
theorem CW:modes 117=⟨[],.frl [10],none,false⟩:=by unfold modes; rfl
theorem LG (x:Lt) (hn:x.atom.nodes≤1099511627776):E 169 [x.sv] []=some (x.osv,x.obs):=by
 have h:=Jn x.atom hn
 refine Af Mm CE (of_decide_eq_true rfl) ?_
 simp (disch:=omega) only [Hk,go_sem,Aa,h,AX,Tm.osv,Tm.obs]
theorem Lt.Qee (x y:Lt):dec (x=y)=(bif Sh x.pos y.pos then dec (x.atom=y.atom) else false):=by
 obtain ⟨p,a⟩:=x
 obtain ⟨q,b⟩:=y
 have e:((⟨p,a⟩:Lt)=⟨q,b⟩) ↔ (p=q∧a=b):=by rw [Lt.mk.injEq]
 rw [EY e]
 cases p <;> cases q
 ·show _=dec (a=b)
  exact EY (and_iff_right rfl)
 ·exact A3 fun h=>by cases h.1
 ·exact A3 fun h=>by cases h.1
 ·show _=dec (a=b)
  exact EY (and_iff_right rfl)
theorem Sx (x y:Lt) (hnx:x.atom.nodes≤1099511627776) (hny:y.atom.nodes≤1099511627776):E 101 [x.sv,y.sv] []=some (.bool (dec (x=y)),[]):=by
 have h:=Em x.atom y.atom hnx hny
 have b1:(false == true)=false:=rfl
 have b2:(true == false)=false:=rfl
 rw [Lt.Qee]
 cases hp:x.pos <;> cases hq:y.pos
 all_goals
  refine Af Mn Mo (of_decide_eq_true rfl) ?_
  simp (disch:=omega) only [Hl,go_sem,Aa,h,hp,hq,b1,b2,Sh,Ad]
def Lt.fine (x:Lt):Prop:=x.atom.cok=true∧x.atom.nodes≤1099511627776
theorem AH:modes 170=⟨[true],.asis,some H3,false⟩:=by unfold modes; rfl
theorem Qds (t:TypeId) (l:List Lt) (hl:l.length≤1099511627776) (hc:∀ x∈l,x.fine):E 170 [.ref 0,.fn 83 []] [.row t 3 (l.map Lt.o)]=some (.tup [],[.row t 3 ((MO l).map Lt.o)]):=by
 rw [Ha (g:=H3) (congrArg FM.ext AH)]
 unfold H3
 simp only
 rw [At ⟨by first | trivial | rfl,by first | trivial | rfl,by simpa using hl,l,rfl,fun x hx y hy=>Nd x y (hc x hx).1 (hc y hy).1 (hc x hx).2 (hc y hy).2⟩,cond_true,PF]
theorem QaA:E 170 [.nil,.fn 83 []] []=some (.tup [],[]):=by
 rw [Ha (g:=H3) (congrArg FM.ext AH)]
 unfold H3
 simp only
 rw [At (by first | trivial | rfl),cond_true]
theorem AD:modes 171=⟨[true],.asis,some DQ,false⟩:=by unfold modes; rfl
theorem Y3 (t:TypeId) (l:List Lt) (hl:l.length≤1099511627776) (hc:∀ x∈l,x.fine):E 171 [.ref 0,.fn 101 []] [.row t 3 (l.map Lt.o)]=some (.ref 1,[.gone,.row t 3 ((GY l).map Lt.o)]):=by
 rw [Ha (g:=DQ) (congrArg FM.ext AD)]
 unfold DQ
 simp only
 rw [At ⟨by first | trivial | rfl,by first | trivial | rfl,by simpa using hl,l,rfl,fun x hx y hy=>E_told (Sx x y (hc x hx).2 (hc y hy).2)⟩,cond_true,PF]
theorem U5:E 171 [.nil,.fn 101 []] []=some (.nil,[]):=by
 rw [Ha (g:=DQ) (congrArg FM.ext AD)]
 unfold DQ
 simp only
 rw [At (by first | trivial | rfl),cond_true]
noncomputable def mkC (l:List Lt):Cl:=⟨GY (MO l)⟩
theorem Z9:(mkC []).lits=[]:=by
 have e0:MO []=[]:=List.mergeSort_nil
 unfold mkC
 rw [e0]; rfl
theorem Mp (l:List Lt):CP (mkC l).lits:=Uk (OY l)
theorem PH (l:List Lt) (z:Lt):z∈(mkC l).lits ↔ z∈l:=by
 show z∈GY (MO l) ↔ _
 rw [Qax]
 exact (GF l).mem_iff
theorem ZA (l:List Lt):(mkC l).lits.length≤l.length:=by
 show (GY (MO l)).length≤_
 rw [Oa]
 have:=Z1 (GX (MO l)) (MO l).length
 rw [(GF l).length_eq] at this
 exact Nat.le_trans (by rw [(GF l).length_eq]; exact zP _) this
theorem Rf (l:List Lt) (hl:l.length≤1048576) (hf:∀ x∈l,x.fine):E 138 [.arr (l.map Lt.d)] []=some ((mkC l).osv,(mkC l).obs):=by
 have h10:((1:Int)=0)=False:=by simp
 have hsn:=QaA
 have hcn:=U5
 have hs1:=Qds 73 l (by omega) hf
 have hs2:=Y3 73 (MO l) (by rw [(GF l).length_eq]; omega) (fun x hx=>hf x ((GF l).mem_iff.1 hx))
 refine Af Px CM (of_decide_eq_true rfl) ?_
 simp (disch:=omega) only [J4,go_sem,Aa]
 refine go_loop (α:=Int) (fun a=>⟨slots 29 0 [(2,.ptr 0 0),(3,.ptr 1 0),(7,.arr (l.map Lt.d)),(8,.int .i64 l.length),(9,.int .i64 a)],(if a=0 then [.box 28 [.nil],.box 28 [.nil]] else [.box 28 [.nil],.box 28 [.ref 2],.row 73 3 ((l.take a.toNat).map Lt.o)])⟩) (fun a=>∃ k:Nat,a=k∧k≤(l).length) (fun a=>(l).length-(a).toNat) 0 ⟨0,rfl,zG _⟩ (by simp (disch:=omega) only [go_sem,Aa,eq_self,if_true]) ?_
 rintro i ⟨k,hi,hk⟩
 have hni:i.toNat=k:=by omega
 have hni1:(i+1).toNat=k+1:=by omega
 rcases zB k (l).length with hlt | hge
 ·have hg:=get_at Lt.d hlt
  rw [Lt.d_eq] at hg
  have hc:=LG l[k] (hf _ (zC hlt)).2
  have hs:=D8 Lt.o hlt
  rw [Lt.o_eq] at hs
  rcases zF k with h0 | h0
  ·subst h0
   obtain rfl:i=0:=hi
   rw [zZ,zK,zT] at hs
   simp (disch:=omega) only [go_sem,Aa,hni,hg,hc,CE,eq_self,if_true]
   refine ⟨1,⟨1,rfl,hlt⟩,by omega,?_⟩
   simp (disch:=omega) only [go_sem,Aa,h10,if_false,hs]
  ·have hi0:(i=0)=False:=by simp; omega
   have hi1:(i+1=0)=False:=by simp; omega
   have htl:(l.take k).length=k:=by rw [zO]; omega
   simp (disch:=omega) only [go_sem,Aa,hni,hg,hc,CE,hi0,if_false,htl]
   refine ⟨i+1,⟨k+1,by omega,hlt⟩,by omega,?_⟩
   simp (disch:=omega) only [go_sem,Aa,hni1,hi1,if_false,hs]
 ·obtain rfl:k=l.length:=by omega
  have ht:l.take l.length=l:=zQ
  rcases zF l.length with h0 | h0
  ·have hx:l=[]:=zD h0
   obtain rfl:i=0:=by omega
   have hm:(mkC l).lits=[]:=by rw [hx]; exact Z9
   simp (disch:=omega) only [go_sem,Aa,hni,eq_self,if_true,hsn,hcn,hm,zK,AH,AD]
  ·have hi0:(i=0)=False:=by simp; omega
   have hm:(GY (MO l))=(mkC l).lits:=rfl
   simp (disch:=omega) only [go_sem,Aa,hni,hi0,if_false,ht,hs1,hs2,hm,AH,AD]
noncomputable def Db:List Lt→Lt→Nat
 | [],_=>0
 | y :: r,x=>if y.cmp x < 0 then Db r x+1 else 0
noncomputable def Hv:List Lt→Lt→List Lt
 | [],x=>[x]
 | y :: r,x=>if y.cmp x < 0 then y :: Hv r x else if y.cmp x=0 then y :: r else x :: y :: r
theorem ZB (x:Lt):∀ xs:List Lt,Db xs x≤xs.length
 | []=>zP _
 | y :: r=>by
  rw [Db]
  have:=ZB x r
  split <;> simp <;> omega
theorem QaB {xs:List Lt} {x:Lt} {k:Nat} (h:k+Db (xs.drop k) x=Db xs x) (hk:k<xs.length):(xs[k].cmp x<0∧k+1+Db (xs.drop (k+1)) x=Db xs x)∨(¬ xs[k].cmp x<0∧k=Db xs x):=by
 rw [zH hk,Db] at h
 by_cases hq:xs[k].cmp x<0
 ·rw [if_pos hq] at h; exact .inl ⟨hq,by omega⟩
 ·rw [if_neg hq] at h; exact .inr ⟨hq,by omega⟩
theorem Rg {x:Lt}:∀ {xs:List Lt} (hlt:Db xs x<xs.length),xs[Db xs x].cmp x=0→Hv xs x=xs
  | [],hlt,_=>by simp at hlt
  | y :: r,hlt,h=>by
    rw [Hv]
    by_cases hq:y.cmp x<0
    · have e:Db (y :: r) x=Db r x+1:=by rw [Db,if_pos hq]
      rw [if_pos hq]
      simp only [e,yA,yR] at hlt h
      rw [Rg (by omega) h]
    · have e:Db (y :: r) x=0:=by rw [Db,if_neg hq]
      simp only [e,yS] at h
      rw [if_neg hq,if_pos h]
theorem Rh {x:Lt}:∀ {xs:List Lt},(∀ hlt:Db xs x<xs.length,xs[Db xs x].cmp x≠0)→Hv xs x=xs.take (Db xs x)++[x]++xs.drop (Db xs x)
  | [],_=>rfl
  | y :: r,h=>by
    rw [Hv]
    by_cases hq:y.cmp x<0
    · have e:Db (y :: r) x=Db r x+1:=by rw [Db,if_pos hq]
      rw [if_pos hq,e,List.take_succ_cons,List.drop_succ_cons,yB,yB]
      rw [Rh fun hlt=>?_]
      have:=h (by rw [e]; simpa using hlt)
      simp only [e,yR] at this
      exact this
    · have e:Db (y :: r) x=0:=by rw [Db,if_neg hq]
      have:=h (by rw [e]; simp)
      simp only [e,yS] at this
      rw [if_neg hq,if_neg this,e]
      rfl
theorem Ni (x z:Lt):∀ xs:List Lt,z∈Hv xs x ↔ z=x∨z∈xs
  | []=>by simp [Hv]
  | y :: r=>by
    rw [Hv]
    split
    · rw [yK,Ni x z r,yK]
      constructor
      · rintro (h | h | h) <;> simp [h]
      · rintro (h | h | h) <;> simp [h]
    · split
      · rename_i h0
        have e:y=x:=(Lt.cmp_ord y x x).zero.1 h0
        subst e
        simp
      · simp
theorem Pe (x:Lt):∀ {xs:List Lt},CP xs→CP (Hv xs x)
  | [],_=>List.pairwise_singleton _ _
  | y :: r,h=>by
    obtain ⟨h1,h2⟩:=zY.1 h
    rw [Hv]
    split
    · rename_i hq
      refine zY.2 ⟨fun z hz=>?_,Pe x h2⟩
      rcases (Ni x z r).1 hz with rfl | hz
      · exact hq
      · exact h1 z hz
    · split
      · exact h
      · rename_i hq h0
        have ha:=(Lt.cmp_ord y x x).anti
        have hxy:x.cmp y<0:=by omega
        refine zY.2 ⟨fun z hz=>?_,h⟩
        rcases yK.1 hz with rfl | hz
        · exact hxy
        · exact (Lt.cmp_ord x y z).trans hxy (h1 z hz)
theorem Wp (x:Lt):∀ xs:List Lt,(Hv xs x).length≤xs.length+1
 | []=>zP _
 | y :: r=>by
  rw [Hv]
  have:=Wp x r
  split
  ·simpa using this
  ·split <;> simp
noncomputable def Ky (out l:List Lt):List Lt:=l.foldl Hv out
theorem T0 (z:Lt):∀ (l out:List Lt),z∈Ky out l ↔ z∈out∨z∈l
 | [],out=>by simp [Ky]
 | x :: l,out=>by
  show z∈Ky (Hv out x) l ↔ _
  rw [T0 z l,Ni,yK]
  constructor
  ·rintro ((h | h) | h) <;> simp [h]
  ·rintro (h | h | h) <;> simp [h]
theorem Nj:∀ (l:List Lt) {out:List Lt},CP out→CP (Ky out l)
 | [],_,h=>h
 | x :: l,_,h=>Nj l (Pe x h)
theorem QaC (l:List Lt):Ky [] l=(mkC l).lits:=Jg (Nj l y8) (Mp l) fun z=>by
 rw [T0,PH]; simp
theorem Lt.ot_take (xs:List Lt) (k:Nat):((xs.map Lt.d).take k).map (fun x=>x.map D.ot)=(xs.take k).map fun b=>b.d.map D.ot:=by
 rw [←List.map_take,yN]; rfl
theorem Lt.ot_drop (xs:List Lt) (k:Nat):((xs.map Lt.d).drop k).map (fun x=>x.map D.ot)=(xs.drop k).map fun b=>b.d.map D.ot:=by
 rw [←List.map_drop,yN]; rfl
theorem Lt.al3 (xs:List Lt):((xs.map fun b=>b.d.map D.ot).all fun l=>l.length == 3)=true:=by
 rw [List.all_map,zN]
 intro x _
 show ((x.d.map D.ot).length == 3)=true
 rw [Lt.d_eq]; rfl
theorem Lt.ald3 (xs:List Lt):((xs.map Lt.d).all fun l=>l.length == 3)=true:=by
 rw [List.all_map,zN]
 intro x _
 show (x.d.length == 3)=true
 rw [Lt.d_eq]; rfl
theorem Lt.dfu:∀ xs:List Lt,OT.AL (xs.map fun b=>b.d.map D.ot)=true
 | []=>rfl
 | x :: xs=>by rw [zJ,Lt.d_eq]; simp [OT.AL,OT.Ds,OT.full,D.ot,Lt.dfu xs]
theorem Lt.der:∀ xs:List Lt,OT.erss (xs.map fun b=>b.d.map D.ot)=xs.map Lt.d
 | []=>rfl
 | x :: xs=>by rw [zJ,zJ,Lt.d_eq]; simp [OT.erss,OT.ers,OT.er,D.ot,Lt.der xs]
theorem Ri (l:List Lt) (hl:l.length≤1048576) (hf:∀ x∈l,x.fine):E 117 [.arr (l.map Lt.d)] []=some ((mkC l).sv,[]):=by
  have hsv:(mkC l).sv=.agg [.arr ((Ky [] l).map Lt.d)]:=by rw [QaC]
  rw [hsv]
  refine Af Sw CW (of_decide_eq_true rfl) ?_
  simp (disch:=omega) only [LF,go_sem,Aa]
  refine go_loop (α:=Int × List Lt) (fun a=>⟨slots 74 0 [(0,.arr (l.map Lt.d)),(2,.ptr 0 0),(3,.arr (a.2.map Lt.d)),(4,.int .i64 a.1)],[.box 28 [.nil]]⟩) (fun a=>∃ k:Nat,a.1=k∧k≤l.length∧Ky a.2 (l.drop k)=Ky [] l∧a.2.length≤k∧∀ y∈a.2,y.fine) (fun a=>l.length-a.1.toNat) (0,[]) ⟨0,rfl,zG _,by rw [zL],zP _,fun y hy=>by cases hy⟩ (by simp (disch:=omega) only [go_sem,Aa]) ?_
  rintro ⟨i,out⟩ ⟨k,hi,hk,hR,hol,hof⟩
  dsimp only at hi hR hol hof
  have hni:i.toNat=k:=by omega
  rcases zB k l.length with hlt | hge
  · have hg := get_at Lt.d hlt
    rw [Lt.d_eq] at hg
    have hxf:=hf l[k] (zC hlt)
    have hxn:∀ out2:List Lt,Hv out l[k]=out2→Ky out2 (l.drop (k+1))=Ky [] l:=fun out2 h=>by
      rw [zH hlt] at hR
      rw [←h]
      exact hR
    simp (disch:=omega) only [go_sem,Aa,hni,hg]
    refine go_loop (α:=Int) (fun a=>⟨slots 74 0 [(0,.arr (l.map Lt.d)),(2,.ptr 0 0),(3,.arr (out.map Lt.d)),(4,.int .i64 i),(5,.int .i64 a)],[.box 28 [.nil]]⟩) (fun a=>∃ m:Nat,a=m∧m≤out.length∧m+Db (out.drop m) l[k]=Db out l[k]) (fun a=>out.length-a.toNat) 0 ⟨0,rfl,zG _,by rw [zL,Nat.zero_add]⟩ (by simp (disch:=omega) only [go_sem,Aa]) ?_
    rintro j ⟨m,hj,hm,hR2⟩
    have hnj:j.toNat=m:=by omega
    have ho:=PG l[k].atom hxf.2
    have e1:=Lt.ot_take out (Db out l[k])
    have e2:=Lt.ot_drop out (Db out l[k])
    have e3:=Lt.al3 (out.take (Db out l[k]))
    have e4:=Lt.al3 (out.drop (Db out l[k]))
    have e5:=Lt.ald3 out
    have l1:=ZB l[k] out
    have e6:(out.map Lt.d).take out.length=out.map Lt.d:=yH (by simp)
    have e7:(out.take (Db out l[k])).length=Db out l[k]:=by rw [zO]; omega
    have e8:(out.drop (Db out l[k])).length=out.length-Db out l[k]:=List.length_drop
    have hfu:=Lt.dfu (Hv out l[k])
    have her:=Lt.der (Hv out l[k])
    have hpl:=Wp l[k] out
    have hpf:∀ y∈Hv out l[k],y.fine:=fun y hy=>by
      rcases (Ni l[k] y out).1 hy with rfl | hy
      · exact hxf
      · exact hof y hy
    rcases zB m out.length with hltm | hgem
    · have hgm:=get_at Lt.d hltm
      rw [Lt.d_eq] at hgm
      have hof2:=hof out[m] (zC hltm)
      have hc:=Nc out[m] l[k] hof2.1 hxf.1 hof2.2 hxf.2
      rcases QaB hR2 hltm with ⟨q,hR'⟩ | ⟨q,hm'⟩
      · simp (disch:=omega) only [go_sem,Aa,hni,hg,hnj,hgm,hc,Bp,q]
        exact ⟨j+1,⟨m+1,by omega,hltm,hR'⟩,by omega,by first | trivial | rfl⟩
      · subst hm'
        by_cases h0:out[Db out l[k]].cmp l[k]=0
        · have hp:=Rg hltm h0
          rw [h0] at hc
          simp (disch:=omega) only [go_sem,Aa,hni,hg,hnj,hgm,hc,Bp,q,h0]
          exact ⟨(i+1,out),⟨k+1,by dsimp only; omega,hlt,hxn _ hp,by dsimp only; omega,hof⟩,by dsimp only; omega,by first | trivial | rfl⟩
        · have hp:=Rh (fun _=>h0)
          have hx2:(out.take (Db out l[k])).map (fun b=>b.d.map D.ot)++[[OT.bool l[k].pos,.str l[k].atom.name,.sh (l[k].atom.args.map Tm.d)]]++(out.drop (Db out l[k])).map (fun b=>b.d.map D.ot)=(Hv out l[k]).map fun b=>b.d.map D.ot:=by
            rw [hp]
            simp only [yD,zJ,y2,yB,zT]
            rw [Lt.d_eq]; rfl
          simp (disch:=omega) only [go_sem,Aa,hni,hg,hnj,hgm,hc,Bp,q,h0,e1,e2,e3,e4,e5,e6,e7,e8,hx2,hfu,her,ho,zU,yM,CQ]
          exact ⟨(i+1,Hv out l[k]),⟨k+1,by dsimp only; omega,hlt,hxn _ rfl,by dsimp only; omega,hpf⟩,by dsimp only; omega,by first | trivial | rfl⟩
    · obtain rfl:m=out.length:=by omega
      have hk':out.length=Db out l[k]:=by rw [←hR2,zI (zP _)]; simp [Db]
      have hp:=Rh (x:=l[k]) (xs:=out) (fun hlt=>by omega)
      have hx2:(out.take (Db out l[k])).map (fun b=>b.d.map D.ot)++[[OT.bool l[k].pos,.str l[k].atom.name,.sh (l[k].atom.args.map Tm.d)]]++(out.drop (Db out l[k])).map (fun b=>b.d.map D.ot)=(Hv out l[k]).map fun b=>b.d.map D.ot:=by
        rw [hp]
        simp only [yD,zJ,y2,yB,zT]
        rw [Lt.d_eq]; rfl
      rw [hk'] at hnj
      simp (disch:=omega) only [go_sem,Aa,hni,hg,hnj,e1,e2,e3,e4,e5,e6,e7,e8,hx2,hfu,her,ho,zU,yM,CQ]
      exact ⟨(i+1,Hv out l[k]),⟨k+1,by dsimp only; omega,hlt,hxn _ rfl,by dsimp only; omega,hpf⟩,by dsimp only; omega,by first | trivial | rfl⟩
  · rw [zI hge] at hR
    have hR:out=Ky [] l:=hR
    rw [←hR]
    simp (disch:=omega) only [go_sem,Aa,hni]
theorem Rj:∀ x y:List UInt8,Op.bytesLess x y=true→Op.bytesLess y x=false
  | [],[],h=>by simp [Op.bytesLess] at h
  | [],_ :: _,_=>rfl
  | _ :: _,[],h=>by simp [Op.bytesLess] at h
  | a :: x,b :: y,h=>by
    simp only [Op.bytesLess,Bool.or_eq_true,decide_eq_true_eq,zA,beq_iff_eq] at h
    simp only [Op.bytesLess,Bool.or_eq_false_iff,decide_eq_false_iff_not]
    rcases h with h | ⟨rfl,h⟩
    · have h2:¬ b<a:=by intro h3; exact absurd (UInt8.lt_trans h h3) (UInt8.lt_irrefl _)
      have h3:(b == a)=false:=by
        rw [beq_eq_false_iff_ne]; rintro rfl; exact UInt8.lt_irrefl _ h
      exact ⟨h2,by rw [h3]; rfl⟩
    · exact ⟨UInt8.lt_irrefl _,by rw [Rj x y h]; simp⟩
theorem Rk:∀ x y:List UInt8,Op.bytesLess x y=false→Op.bytesLess y x=false→x=y
  | [],[],_,_=>rfl
  | [],_ :: _,h,_=>by simp [Op.bytesLess] at h
  | _ :: _,[],_,h=>by simp [Op.bytesLess] at h
  | a :: x,b :: y,h,k=>by
    simp only [Op.bytesLess,Bool.or_eq_false_iff,decide_eq_false_iff_not] at h k
    have hab:a=b:=by
      have h1:=h.1; have h2:=k.1
      rw [UInt8.lt_iff_toNat_lt] at h1 h2
      exact UInt8.toNat_inj.1 (by omega)
    subst hab
    have h1:Op.bytesLess x y=false:=by simpa using h.2
    have h2:Op.bytesLess y x=false:=by simpa using k.2
    rw [Rk x y h1 h2]
theorem Kz {a b:ByteArray} (h:strLt a b=true):strLt b a=false:=Rj _ _ h
theorem K0 {a b:ByteArray} (h:strLt a b=false) (h':strLt b a=false):a=b:=NP (Rk _ _ h h')
theorem IB (a b:ByteArray):(strLt a b || dec (a=b))=!strLt b a:=by
 cases h:strLt b a with
 | false =>
  cases h2:strLt a b with
  | false=>rw [At (K0 h2 h)]; rfl
  | true=>rfl
 | true =>
  rw [Kz h,A3 (by rintro rfl; rw [Hi] at h; cases h)]
  rfl
theorem Rl:∀ x y z:List UInt8,Op.bytesLess x y=true→Op.bytesLess y z=true→Op.bytesLess x z=true
  | _,_,[],_,h=>by simp [Op.bytesLess] at h
  | [],[],_ :: _,h,_=>by simp [Op.bytesLess] at h
  | [],_ :: _,_ :: _,_,_=>rfl
  | _ :: _,[],_ :: _,h,_=>by simp [Op.bytesLess] at h
  | a :: x,b :: y,c :: z,h,k=>by
    simp only [Op.bytesLess,Bool.or_eq_true,decide_eq_true_eq,zA,beq_iff_eq] at h k ⊢
    rcases h with h | ⟨rfl,h⟩
    · rcases k with k | ⟨rfl,k⟩
      · exact .inl (UInt8.lt_trans h k)
      · exact .inl h
    · rcases k with k | ⟨rfl,k⟩
      · exact .inl k
      · exact .inr ⟨rfl,Rl x y z h k⟩
theorem K1 {a b c:ByteArray} (h:strLt a b=true) (k:strLt b c=true):strLt a c=true:=Rl _ _ _ h k
theorem Wq {a b:ByteArray} (h:strLt a b=true):¬ a=b:=by rintro rfl; rw [Hi] at h; cases h
theorem Wr (a b:ByteArray):dec (Ej a b<0)=strLt a b:=by
 unfold Ej
 cases strLt a b
 ·cases dec (a=b)
  ·exact A3 (by simp)
  ·exact A3 (by simp)
 ·exact At (by simp)
theorem QaD (a b:ByteArray):dec (Ej a b=0)=dec (a=b):=by
 unfold Ej
 cases h:strLt a b
 ·cases h2:dec (a=b)
  ·exact A3 (by simp)
  ·exact At (by simp)
 ·rw [A3 (Wq h)]
  exact A3 (by simp)
theorem wrap_u64 {n:Int} (h0:0≤n) (h1:n≤18446744073709551615):IntKind.u64.wrap n=n:=Vp (by
 have e1:IntKind.u64.min=0:=by decide
 have e2:IntKind.u64.max=18446744073709551615:=by decide
 unfold inK
 rw [e1,e2]
 exact ⟨h0,h1⟩)
noncomputable def Hw (x:Bd):Bool:=An x.var&&(x.term.valid&&!dec (x.term.name=x.var))
noncomputable def Ws (xs:List Bd) (k:Nat):Bool:=match xs[k]? with
 | none=>true
 | some x=>Hw x&&(match k with
  | 0=>true
  | j+1=>match xs[j]? with
   | none=>true
   | some y=>strLt y.var x.var)
noncomputable def IC (xs:List Bd):Nat→Bool
 | 0=>true
 | k+1=>IC xs k&&Ws xs k
theorem QaE {xs:List Bd} {k n:Nat} (h:IC xs k=false) (hn:k≤n):IC xs n=false:=by
  induction n with
  | zero =>
            obtain rfl:k=0:=by omega
            exact h
  | succ n ih =>
    rcases zB n k with h1 | h1
    · obtain rfl:k=n+1:=by omega
      exact h
    · rw [IC,ih h1]; rfl
theorem ID {xs:List Bd} (h:0<xs.length):Ws xs 0=Hw xs[0]:=by
 unfold Ws
 rw [zS h]
 simp
theorem GH {xs:List Bd} {j:Nat} (h:j+1<xs.length):Ws xs (j+1)=(Hw xs[j+1]&&strLt xs[j].var xs[j+1].var):=by
 unfold Ws
 rw [zS h]
 simp only [zS (show j<xs.length by omega)]
theorem ZC {xs:List Bd} {k j:Nat} (h:IC xs k=true) (hj:j<k):Ws xs j=true:=by
 induction k with
 | zero=>omega
 | succ k ih =>
  rw [IC,zA] at h
  rcases zB j k with h1 | h1
  ·exact ih h.1 h1
  ·obtain rfl:j=k:=by omega
   exact h.2
theorem Qdt {xs:List Bd} {j:Nat} (hl:j<xs.length) (h:Ws xs j=true):Hw xs[j]=true:=by
 cases j with
 | zero=>rw [←ID hl]; exact h
 | succ j=>rw [GH hl,zA] at h; exact h.1
noncomputable def Sb.ok (x:Sb):Bool:=decide (x.binds.length≤12)&&IC x.binds x.binds.length
theorem Sb.not_ok {x:Sb} {k:Nat} (h:IC x.binds k=true) (h':Ws x.binds k=false) (hk:k<x.binds.length):x.ok=false:=by
 have:IC x.binds x.binds.length=false:=QaE (k:=k+1) (by rw [IC,h,h']; rfl) (by omega)
 unfold Sb.ok
 rw [this,zM]
def Sb.tame (x:Sb):Prop:=x.binds.length≤1099511627776∧∀ y∈x.binds,y.term.nodes≤1099511627776
theorem Sb.tame_at {x:Sb} (h:x.tame) {k:Nat} (hk:k<x.binds.length):x.binds[k].term.nodes≤1099511627776:=h.2 _ (zC hk)
def DZ:SC:=(.seq (.reg [⟨some 1,none,.boxv 76 1 (.t 0)⟩,⟨some 2,none,.mv (.c (.bool false))⟩]) (.seq (.seq (.reg [⟨some 5,none,.faddr 0 (.t 1)⟩,⟨some 6,none,.load false 1 (.t 5)⟩,⟨some 7,none,.len false (.t 6)⟩,⟨some 8,none,.mv (.c (.int .i64 0))⟩]) (.block 0 (.loop [0,1,0,0,0,0,1,1,1,0,0,0,0,0,0,0,0,0,0,0,0,0,0,0,0,0,0,0,0,0,0,0,0,0,0,0,0,0,0,0,0,0,0,0,0,0,0,0,0,0,0,0] (.seq (.reg [⟨some 9,none,.bin .lss false (.t 8) (.t 7)⟩]) (.seq (.cond (.t 9) .skip (.exit 0)) (.seq (.block 1 (.seq (.reg [⟨some 10,none,.mv (.t 8)⟩,⟨some 11,none,.iaddr 3 (.t 6) (.t 8)⟩,⟨some 12,none,.load true 3 (.t 11)⟩,⟨(some 4),none,(.alloc 139 [(.str ⟨#[]⟩),(.str ⟨#[]⟩),.nil])⟩,⟨some 3,none,.mv (.t 10)⟩,⟨none,none,(.store 3 (.t 4) (.t 12))⟩]) (.seq (.dreg [[],[0],[1,0],[2,1,0],[3,2,1,0],[4,3,2,1,0],[5,4,3,2,1,0],[6,5,4,3,2,1,0],[7,6,5,4,3,2,1,0],[8,7,6,5,4,3,2,1,0],[7,6,5,4,3,2,1,0],[10,7,6,5,4,3,2,1,0],[7,6,5,4,3,2,1,0],[12,7,6,5,4,3,2,1,0],[11,10,7,6,5,4,3,2,1,0,13,12],[14,11,10,7,6,5,4,3,2,1,0,13,12],[15,14,11,10,7,6,5,4,3,2,1,0,13,12],[9,8,7,6,5,4,3,2,1,0,16,15,14,11,10,13,12],[7,6,5,4,3,2,1,0,17,9,8,16,15,14,11,10,13,12],[4,3,2,1,0,18,7,6,5,17,9,8,16,15,14,11,10,13,12],[19,4,3,2,1,0,18,7,6,5,17,9,8,16,15,14,11,10,13,12],[20,19,4,3,2,1,0,18,7,6,5,17,9,8,16,15,14,11,10,13,12],[21,20,19,4,3,2,1,0,18,7,6,5,17,9,8,16,15,14,11,10,13,12],[22,21,20,19,4,3,2,1,0,18,7,6,5,17,9,8,16,15,14,11,10,13,12],[23,22,21,20,19,4,3,2,1,0,18,7,6,5,17,9,8,16,15,14,11,10,13,12],[20,19,4,3,2,1,0,18,7,6,5,17,9,8,16,15,14,11,10,13,12,24,23,22,21],[25,20,19,4,3,2,1,0,18,7,6,5,17,9,8,16,15,14,11,10,13,12,24,23,22,21],[26,25,20,19,4,3,2,1,0,18,7,6,5,17,9,8,16,15,14,11,10,13,12,24,23,22,21],[27,26,25,20,19,4,3,2,1,0,18,7,6,5,17,9,8,16,15,14,11,10,13,12,24,23,22,21],[28,27,26,25,20,19,4,3,2,1,0,18,7,6,5,17,9,8,16,15,14,11,10,13,12,24,23,22,21],[26,25,20,19,4,3,2,1,0,18,7,6,5,17,9,8,16,15,14,11,10,13,12,24,23,22,21],[30,26,25,20,19,4,3,2,1,0,18,7,6,5,17,9,8,16,15,14,11,10,13,12,24,23,22,21],[29,28,27,26,25,20,19,4,3,2,1,0,18,7,6,5,17,9,8,16,15,14,11,10,13,12,24,23,22,21,31,30],[26,25,20,19,4,3,2,1,0,18,7,6,5,17,9,8,16,15,14,11,10,13,12,24,23,22,21,32,29,28,27,31,30]] [⟨some 13,none,.faddr 0 (.t 4)⟩,⟨some 14,none,.load false 1 (.t 13)⟩,⟨some 15,none,.call 162 [(.t 14)]⟩,⟨some 16,none,.un .not (.t 15)⟩,⟨some 17,none,.mv (.t 16)⟩,⟨(some 18),(some (17,false)),(.mv (.t 3))⟩,⟨(some 19),(some (17,false)),(.bin .gtr false (.t 18) (.c (.int .i64 0)))⟩,⟨(some 20),(some (17,false)),(.mv (.t 19))⟩,⟨(some 21),(some (20,true)),(.faddr 0 (.t 4))⟩,⟨(some 22),(some (20,true)),(.load false 1 (.t 21))⟩,⟨(some 23),(some (20,true)),(.faddr 0 (.t 1))⟩,⟨(some 24),(some (20,true)),(.load false 1 (.t 23))⟩,⟨(some 25),(some (20,true)),(.mv (.t 3))⟩,⟨(some 26),(some (20,true)),(.bin .sub false (.t 25) (.c (.int .i64 1)))⟩,⟨(some 27),(some (20,true)),(.iaddr 3 (.t 24) (.t 26))⟩,⟨(some 28),(some (20,true)),(.faddr 0 (.t 27))⟩,⟨(some 29),(some (20,true)),(.load false 1 (.t 28))⟩,⟨(some 30),(some (20,true)),(.bin .leq false (.t 22) (.t 29))⟩,⟨(some 31),(some (17,false)),(.pick (.t 20) (.t 30) (.c (.bool false)))⟩,⟨some 32,none,.pick (.t 17) (.c (.bool true)) (.t 31)⟩,⟨some 33,none,.mv (.t 32)⟩,⟨(some 34),(some (33,false)),(.faddr 1 (.t 4))⟩,⟨(some 35),(some (33,false)),(.load true 2 (.t 34))⟩,⟨(some 36),(some (33,false)),(.call 154 [(.t 35)])⟩,⟨(some 37),(some (33,false)),(.un .not (.t 36))⟩,⟨some 38,none,.pick (.t 33) (.c (.bool true)) (.t 37)⟩,⟨some 39,none,.mv (.t 38)⟩,⟨(some 40),(some (39,false)),(.faddr 1 (.t 4))⟩,⟨(some 41),(some (39,false)),(.faddr 0 (.t 40))⟩,⟨(some 42),(some (39,false)),(.load false 1 (.t 41))⟩,⟨(some 43),(some (39,false)),(.faddr 0 (.t 4))⟩,⟨(some 44),(some (39,false)),(.load false 1 (.t 43))⟩,⟨(some 45),(some (39,false)),(.bin .eql false (.t 42) (.t 44))⟩,⟨some 46,none,.pick (.t 39) (.c (.bool true)) (.t 45)⟩]) (.cond (.t 46) (.seq (.reg [⟨some 2,none,.mv (.c (.bool false))⟩]) .ret) .skip)))) (.reg [⟨some 47,none,.bin .add false (.t 8) (.c (.int .i64 1))⟩,⟨some 8,none,.mv (.t 47)⟩]))))))) (.seq (.reg [⟨some 48,none,.faddr 0 (.t 1)⟩,⟨some 49,none,.load false 1 (.t 48)⟩,⟨some 50,none,.len false (.t 49)⟩,⟨some 51,none,.bin .leq false (.t 50) (.c (.int .i64 12))⟩,⟨some 2,none,.mv (.t 51)⟩]) .ret)))
theorem Hm:codeOf Tryz.prog 131=some ⟨52,DZ,[(.tmp 2)]⟩:=by kernel_rfl
theorem Ax:modes 131=⟨[],.asis,none,false⟩:=by unfold modes; rfl
def LH:SC:=(.seq (.reg [⟨some 1,none,.boxv 76 1 (.t 0)⟩,⟨some 2,none,.mv (.c (.bool false))⟩]) (.seq (.seq (.reg [⟨some 3,none,.mv (.c (.int .i64 0))⟩]) (.block 0 (.loop [0,1,0,1,0,0,0,0,0,0,0,0,0,0,0,0,0,0,0,0,0,0,0,0,0,0,0,0,0,0,0,0,0,0,0,0,0,0,0,0,0,0,0,0,0,0,0,0,0,0,0,0,0,0,0] (.seq (.seq (.reg [⟨some 5,none,.mv (.t 3)⟩,⟨some 6,none,.faddr 0 (.t 1)⟩,⟨some 7,none,.load false 1 (.t 6)⟩,⟨some 8,none,.len false (.t 7)⟩,⟨some 9,none,.bin .lss false (.t 5) (.t 8)⟩]) (.cond (.t 9) .skip (.exit 0))) (.seq (.block 1 (.seq (.reg [⟨some 12,none,.faddr 0 (.t 1)⟩,⟨some 13,none,.load false 1 (.t 12)⟩,⟨some 14,none,.mv (.t 3)⟩,⟨some 15,none,.iaddr 3 (.t 13) (.t 14)⟩,⟨some 16,none,.load true 3 (.t 15)⟩,⟨(some 4),none,(.alloc 139 [(.str ⟨#[]⟩),(.str ⟨#[]⟩),.nil])⟩,⟨none,none,(.store 3 (.t 4) (.t 16))⟩]) (.seq (.dreg [[],[0],[1,0],[2,1,0],[3,2,1,0],[4,3,2,1,0],[5,4,3,2,1,0],[6,5,4,3,2,1,0],[7,6,5,4,3,2,1,0],[4,3,2,1,0,8,7,6,5],[9,4,3,2,1,0,8,7,6,5],[10,9,4,3,2,1,0,8,7,6,5],[11,10,9,4,3,2,1,0,8,7,6,5],[12,11,10,9,4,3,2,1,0,8,7,6,5],[10,9,4,3,2,1,0,8,7,6,5],[14,10,9,4,3,2,1,0,8,7,6,5],[13,12,11,10,9,4,3,2,1,0,8,7,6,5,15,14],[10,9,4,3,2,1,0,8,7,6,5,16,13,12,11,15,14],[17,10,9,4,3,2,1,0,8,7,6,5,16,13,12,11,15,14],[18,17,10,9,4,3,2,1,0,8,7,6,5,16,13,12,11,15,14],[19,18,17,10,9,4,3,2,1,0,8,7,6,5,16,13,12,11,15,14],[20,19,18,17,10,9,4,3,2,1,0,8,7,6,5,16,13,12,11,15,14],[21,20,19,18,17,10,9,4,3,2,1,0,8,7,6,5,16,13,12,11,15,14],[22,21,20,19,18,17,10,9,4,3,2,1,0,8,7,6,5,16,13,12,11,15,14],[21,20,19,18,17,10,9,4,3,2,1,0,8,7,6,5,16,13,12,11,15,14],[24,21,20,19,18,17,10,9,4,3,2,1,0,8,7,6,5,16,13,12,11,15,14],[23,22,21,20,19,18,17,10,9,4,3,2,1,0,8,7,6,5,16,13,12,11,15,14,25,24],[26,23,22,21,20,19,18,17,10,9,4,3,2,1,0,8,7,6,5,16,13,12,11,15,14,25,24],[27,26,23,22,21,20,19,18,17,10,9,4,3,2,1,0,8,7,6,5,16,13,12,11,15,14,25,24],[21,20,19,18,17,10,9,4,3,2,1,0,8,7,6,5,16,13,12,11,15,14],[29,21,20,19,18,17,10,9,4,3,2,1,0,8,7,6,5,16,13,12,11,15,14],[28,27,26,23,22,21,20,19,18,17,10,9,4,3,2,1,0,8,7,6,5,16,13,12,11,15,14,25,24,30,29],[21,20,19,18,17,10,9,4,3,2,1,0,8,7,6,5,16,13,12,11,15,14,31,28,27,26,23,22,25,24,30,29],[18,17,10,9,4,3,2,1,0,8,7,6,5,16,13,12,11,15,14,32,21,20,19,31,28,27,26,23,22,25,24,30,29]] [⟨some 17,none,.faddr 0 (.t 4)⟩,⟨some 18,none,.load false 1 (.t 17)⟩,⟨some 19,none,.call 77 [(.t 18)]⟩,⟨some 20,none,.un .not (.t 19)⟩,⟨some 21,none,.mv (.t 20)⟩,⟨(some 22),(some (21,false)),(.faddr 1 (.t 4))⟩,⟨(some 23),(some (21,false)),(.load true 2 (.t 22))⟩,⟨(some 24),(some (21,false)),(.call 106 [(.t 23)])⟩,⟨(some 25),(some (21,false)),(.un .not (.t 24))⟩,⟨some 26,none,.pick (.t 21) (.c (.bool true)) (.t 25)⟩,⟨some 27,none,.mv (.t 26)⟩,⟨(some 28),(some (27,false)),(.faddr 1 (.t 4))⟩,⟨(some 29),(some (27,false)),(.faddr 0 (.t 28))⟩,⟨(some 30),(some (27,false)),(.load false 1 (.t 29))⟩,⟨(some 31),(some (27,false)),(.faddr 0 (.t 4))⟩,⟨(some 32),(some (27,false)),(.load false 1 (.t 31))⟩,⟨(some 33),(some (27,false)),(.bin .eql false (.t 30) (.t 32))⟩,⟨some 34,none,.pick (.t 27) (.c (.bool true)) (.t 33)⟩,⟨some 35,none,.mv (.t 34)⟩,⟨(some 36),(some (35,false)),(.mv (.t 3))⟩,⟨(some 37),(some (35,false)),(.bin .gtr false (.t 36) (.c (.int .i64 0)))⟩,⟨(some 38),(some (35,false)),(.mv (.t 37))⟩,⟨(some 39),(some (38,true)),(.faddr 0 (.t 1))⟩,⟨(some 40),(some (38,true)),(.load false 1 (.t 39))⟩,⟨(some 41),(some (38,true)),(.mv (.t 3))⟩,⟨(some 42),(some (38,true)),(.bin .sub false (.t 41) (.c (.int .i64 1)))⟩,⟨(some 43),(some (38,true)),(.iaddr 3 (.t 40) (.t 42))⟩,⟨(some 44),(some (38,true)),(.faddr 0 (.t 43))⟩,⟨(some 45),(some (38,true)),(.load false 1 (.t 44))⟩,⟨(some 46),(some (38,true)),(.faddr 0 (.t 4))⟩,⟨(some 47),(some (38,true)),(.load false 1 (.t 46))⟩,⟨(some 48),(some (38,true)),(.bin .geq false (.t 45) (.t 47))⟩,⟨(some 49),(some (35,false)),(.pick (.t 38) (.t 48) (.c (.bool false)))⟩,⟨some 50,none,.pick (.t 35) (.c (.bool true)) (.t 49)⟩]) (.cond (.t 50) (.seq (.reg [⟨some 2,none,.mv (.c (.bool false))⟩]) .ret) .skip)))) (.reg [⟨some 10,none,.mv (.t 3)⟩,⟨some 11,none,.bin .add false (.t 10) (.c (.int .i64 1))⟩,⟨some 3,none,.mv (.t 11)⟩])))))) (.seq (.reg [⟨some 51,none,.faddr 0 (.t 1)⟩,⟨some 52,none,.load false 1 (.t 51)⟩,⟨some 53,none,.len false (.t 52)⟩,⟨some 54,none,.bin .leq false (.t 53) (.c (.int .i64 12))⟩,⟨some 2,none,.mv (.t 54)⟩]) .ret)))
theorem Sy:codeOf Tryz.prog 109=some ⟨55,LH,[(.tmp 2)]⟩:=by kernel_rfl
theorem Ci:modes 109=⟨[],.asis,none,false⟩:=by unfold modes; rfl
def LI:SC:=(.seq (.reg [⟨some 2,none,.boxv 76 1 (.t 0)⟩,⟨some 4,none,.mv (.c (.int .i64 0))⟩]) (.seq (.seq (.reg [⟨some 5,none,.mv (.c (.int .i64 0))⟩]) (.block 0 (.loop [0,1,1,0,0,1,0,0,0,0,0,0,0,0,0,0,0,0,0,0,0,0] (.seq (.seq (.reg [⟨some 6,none,.mv (.t 5)⟩,⟨some 7,none,.faddr 0 (.t 2)⟩,⟨some 8,none,.load false 1 (.t 7)⟩,⟨some 9,none,.len false (.t 8)⟩,⟨some 10,none,.bin .lss false (.t 6) (.t 9)⟩]) (.cond (.t 10) .skip (.exit 0))) (.seq (.block 1 (.seq (.reg [⟨some 13,none,.faddr 0 (.t 2)⟩,⟨some 14,none,.load false 1 (.t 13)⟩,⟨some 15,none,.mv (.t 5)⟩,⟨some 16,none,.iaddr 3 (.t 14) (.t 15)⟩,⟨some 17,none,.faddr 0 (.t 16)⟩,⟨some 18,none,.load false 1 (.t 17)⟩,⟨some 19,none,.mv (.t 1)⟩,⟨some 20,none,.bin .eql false (.t 18) (.t 19)⟩]) (.cond (.t 20) (.seq (.reg [⟨some 21,none,.mv (.t 5)⟩,⟨some 4,none,.mv (.t 21)⟩]) .ret) .skip))) (.reg [⟨some 11,none,.mv (.t 5)⟩,⟨some 12,none,.bin .add false (.t 11) (.c (.int .i64 1))⟩,⟨some 5,none,.mv (.t 12)⟩])))))) (.seq (.reg [⟨some 4,none,.mv (.c (.int .i64 (-(0+1))))⟩]) .ret)))
theorem Sz:codeOf Tryz.prog 147=some ⟨22,LI,[(.tmp 4)]⟩:=by kernel_rfl
theorem BI:modes 147=⟨[],.asis,none,false⟩:=by unfold modes; rfl
theorem DI (x:Sb) (hn:x.tame):E 131 [x.sv] []=some (.bool x.ok,[]):=by
  have hl:=hn.1
  refine Af Hm Ax (of_decide_eq_true rfl) ?_
  simp (disch:=omega) only [DZ,go_sem,Aa]
  refine go_loop (α:=Int) (fun a=>⟨slots 52 0 [(1,.ptr 0 0),(6,.arr (x.binds.map Bd.d)),(7,.int .i64 x.binds.length),(8,.int .i64 a)],[.box 76 [.arr (x.binds.map Bd.d)]]⟩) (fun a=>∃ k:Nat,a=k∧k≤(x.binds).length∧IC x.binds k=true) (fun a=>(x.binds).length-(a).toNat) 0 ⟨0,rfl,zG _,by rw [IC]⟩ (by simp (disch:=omega) only [go_sem,Aa]) ?_
  rintro i ⟨k,hi,hk,hR⟩
  have hni:i.toNat=k:=by omega
  have hni1:(i+1).toNat=k+1:=by omega
  rcases zB k (x.binds).length with hlt | hge
  · have hg:=get_at Bd.d hlt
    rw [Bd.d_eq] at hg
    have hv:=LC x.binds[k].term (Sb.tame_at hn hlt)
    cases k with
    | zero =>
      obtain rfl:i=0:=hi
      cases hA:An x.binds[0].var <;> cases hV:x.binds[0].term.valid <;> cases hD:dec (x.binds[0].term.name=x.binds[0].var)
      all_goals
        first
        | (have e:x.ok=false:=Sb.not_ok hR (by rw [ID hlt,Hw,hA,hV,hD]; rfl) hlt
           rw [e]
           simp (disch:=omega) only [go_sem,Aa,hni,hg,hv,hA,hV,hD,AG,Bn,Ek]
           done)
        | (simp (disch:=omega) only [go_sem,Aa,hni,hg,hv,hA,hV,hD,AG,Bn,Ek]
           exact ⟨1,⟨1,rfl,hlt,by rw [IC,hR,ID hlt,Hw,hA,hV,hD]; rfl⟩,by omega,by first | trivial | rfl⟩)
    | succ j =>
      have hj:j<x.binds.length:=by omega
      have hg2:=get_at Bd.d hj
      rw [Bd.d_eq] at hg2
      have hni2:(i-1).toNat=j:=by omega
      have hLe:=IB x.binds[j+1].var x.binds[j].var
      cases hS:strLt x.binds[j].var x.binds[j+1].var <;> cases hA:An x.binds[j+1].var <;> cases hV:x.binds[j+1].term.valid <;> cases hD:dec (x.binds[j+1].term.name=x.binds[j+1].var)
      all_goals
        first
        | (have e:x.ok=false:=Sb.not_ok hR (by rw [GH hlt,Hw,hA,hV,hD,hS]; rfl) hlt
           rw [e]
           simp (disch:=omega) only [go_sem,Aa,hni,hg,hv,hA,hV,hD,AG,Bn,Ek,hS,hni2,hg2,hLe]
           done)
        | (simp (disch:=omega) only [go_sem,Aa,hni,hg,hv,hA,hV,hD,AG,Bn,Ek,hS,hni2,hg2,hLe]
           exact ⟨i+1,⟨j+1+1,by omega,hlt,by rw [IC,hR,GH hlt,Hw,hA,hV,hD,hS]; rfl⟩,by omega,by first | trivial | rfl⟩)
  · obtain rfl:k=x.binds.length:=by omega
    simp (disch:=omega) only [go_sem,Aa,hni]
    unfold Sb.ok
    rw [hR,yJ,Kc]
    exact decide_eq_decide.2 (by omega)
theorem Nk (x:Sb) (hn:x.tame):E 109 [x.sv] []=some (.bool x.ok,[]):=by
  have hl:=hn.1
  refine Af Sy Ci (of_decide_eq_true rfl) ?_
  simp (disch:=omega) only [LH,go_sem,Aa]
  refine go_loop (α:=Int) (fun a=>⟨slots 55 0 [(1,.ptr 0 0),(3,.int .i64 a)],[.box 76 [.arr (x.binds.map Bd.d)]]⟩) (fun a=>∃ k:Nat,a=k∧k≤(x.binds).length∧IC x.binds k=true) (fun a=>(x.binds).length-(a).toNat) 0 ⟨0,rfl,zG _,by rw [IC]⟩ (by simp (disch:=omega) only [go_sem,Aa]) ?_
  rintro i ⟨k,hi,hk,hR⟩
  have hni:i.toNat=k:=by omega
  have hni1:(i+1).toNat=k+1:=by omega
  rcases zB k (x.binds).length with hlt | hge
  · have hg:=get_at Bd.d hlt
    rw [Bd.d_eq] at hg
    have hv:=QZ x.binds[k].term (Sb.tame_at hn hlt)
    cases k with
    | zero =>
      obtain rfl:i=0:=hi
      cases hA:An x.binds[0].var <;> cases hV:x.binds[0].term.valid <;> cases hD:dec (x.binds[0].term.name=x.binds[0].var)
      all_goals
        first
        | (have e:x.ok=false:=Sb.not_ok hR (by rw [ID hlt,Hw,hA,hV,hD]; rfl) hlt
           rw [e]
           simp (disch:=omega) only [go_sem,Aa,hni,hg,hv,hA,hV,hD,Bb,Ah,Am]
           done)
        | (simp (disch:=omega) only [go_sem,Aa,hni,hg,hv,hA,hV,hD,Bb,Ah,Am]
           exact ⟨1,⟨1,rfl,hlt,by rw [IC,hR,ID hlt,Hw,hA,hV,hD]; rfl⟩,by omega,by first | trivial | rfl⟩)
    | succ j =>
      have hj:j<x.binds.length:=by omega
      have hg2:=get_at Bd.d hj
      rw [Bd.d_eq] at hg2
      have hni2:(i-1).toNat=j:=by omega
      have hLe:=IB x.binds[j+1].var x.binds[j].var
      cases hS:strLt x.binds[j].var x.binds[j+1].var <;> cases hA:An x.binds[j+1].var <;> cases hV:x.binds[j+1].term.valid <;> cases hD:dec (x.binds[j+1].term.name=x.binds[j+1].var)
      all_goals
        first
        | (have e:x.ok=false:=Sb.not_ok hR (by rw [GH hlt,Hw,hA,hV,hD,hS]; rfl) hlt
           rw [e]
           simp (disch:=omega) only [go_sem,Aa,hni,hg,hv,hA,hV,hD,Bb,Ah,Am,hS,hni2,hg2,hLe]
           done)
        | (simp (disch:=omega) only [go_sem,Aa,hni,hg,hv,hA,hV,hD,Bb,Ah,Am,hS,hni2,hg2,hLe]
           exact ⟨i+1,⟨j+1+1,by omega,hlt,by rw [IC,hR,GH hlt,Hw,hA,hV,hD,hS]; rfl⟩,by omega,by first | trivial | rfl⟩)
  · obtain rfl:k=x.binds.length:=by omega
    simp (disch:=omega) only [go_sem,Aa,hni]
    unfold Sb.ok
    rw [hR,yJ,Kc]
    exact decide_eq_decide.2 (by omega)
theorem Wt (x:Sb) (n:ByteArray) (hl:x.binds.length≤1099511627776):E 147 [x.sv,.str n] []=some (.int .i64 (Ew (fun b=>dec (b.var=n)) x.binds 0),[]):=by
 refine Af Sz BI (of_decide_eq_true rfl) ?_
 simp (disch:=omega) only [LI,go_sem,Aa]
 refine go_loop (α:=Int) (fun a=>⟨slots 22 0 [(1,.str n),(2,.ptr 0 0),(5,.int .i64 a)],[.box 76 [.arr (x.binds.map Bd.d)]]⟩) (fun a=>∃ k:Nat,a=k∧k≤(x.binds).length∧Ew (fun b=>dec (b.var=n)) (x.binds.drop k) a=Ew (fun b=>dec (b.var=n)) x.binds 0) (fun a=>(x.binds).length-(a).toNat) 0 ⟨0,rfl,zG _,by rw [zL]⟩ (by simp (disch:=omega) only [go_sem,Aa]) ?_
 rintro i ⟨k,hi,hk,hR⟩
 have hni:i.toNat=k:=by omega
 have hni1:(i+1).toNat=k+1:=by omega
 rcases zB k (x.binds).length with hlt | hge
 ·have hg:=get_at Bd.d hlt
  rw [Bd.d_eq] at hg
  rw [zH hlt,Ew] at hR
  cases hp:dec (x.binds[k].var=n) with
  | true =>
   rw [hp] at hR
   simp (disch:=omega) only [go_sem,Aa,hni,hg,hp]
   simpa using hR
  | false =>
   rw [hp] at hR
   simp (disch:=omega) only [go_sem,Aa,hni,hg,hp]
   exact ⟨i+1,⟨k+1,by omega,hlt,by simpa using hR⟩,by omega,by first | trivial | rfl⟩
 ·rw [zI hge,Ew] at hR
  simp (disch:=omega) only [go_sem,Aa,hni]
  exact hR
def Nl (xs:List Bd):Prop:=∀ j k (h:j<k) (hk:k<xs.length),strLt xs[j].var xs[k].var=true
theorem Qdu {xs:List Bd} (h:IC xs xs.length=true):Nl xs:=by
 intro j k hjk hk
 induction k with
 | zero=>omega
 | succ k ih =>
  have h1:=ZC h hk
  rw [GH hk,zA] at h1
  rcases zB j k with h2 | h2
  ·exact K1 (ih h2 (by omega)) h1.2
  ·obtain rfl:j=k:=by omega
   exact h1.2
theorem Sb.J5 {x:Sb} (h:x.ok=true):Nl x.binds:=by
 unfold Sb.ok at h
 rw [zA] at h
 exact Qdu h.2
def Bm:List Bd→ByteArray→Nat
 | [],_=>0
 | x :: xs,n=>if strLt x.var n then Bm xs n+1 else 0
theorem U6 (n:ByteArray):∀ xs:List Bd,Bm xs n≤xs.length
 | []=>zP _
 | x :: xs=>by
  have:=U6 n xs
  rw [Bm]; simp only [yA]; split <;> omega
theorem K2 (n:ByteArray):∀ (xs:List Bd) (j:Nat) (h:j<xs.length),j<Bm xs n→strLt xs[j].var n=true
  | [],j,h,_=>absurd h (by simp)
  | x :: xs,j,h,hj=>by
    rw [Bm] at hj
    split at hj
    · rename_i hx
      cases j with
      | zero=>exact hx
      | succ j=>exact K2 n xs j (by simpa using h) (by omega)
    · omega
theorem U7 (n:ByteArray):∀ (xs:List Bd) (h:Bm xs n<xs.length),strLt (xs[Bm xs n]).var n=false
  | [],h=>absurd h (by simp)
  | x :: xs,h=>by
    cases hx:strLt x.var n with
    | false =>
      have e:Bm (x :: xs) n=0:=by rw [Bm,if_neg (by rw [hx]; simp)]
      simp only [e,yS]; exact hx
    | true =>
      have e:Bm (x :: xs) n=Bm xs n+1:=by rw [Bm,if_pos hx]
      have h2:Bm xs n<xs.length:=by rw [e] at h; simpa using h
      simp only [e,yR]; exact U7 n xs h2
theorem QbW {xs:List Bd} (hs:Nl xs) (n:ByteArray) {m:Nat} (h:m<xs.length):strLt xs[m].var n=true ↔ m<Bm xs n:=by
  constructor
  · intro h1
    rcases zB m (Bm xs n) with h2 | h2
    · exact h2
    · have h3:=U7 n xs (by omega)
      rcases zB (Bm xs n) m with h4 | h4
      · rw [K1 (hs _ _ h4 h) h1] at h3; cases h3
      · have e:Bm xs n=m:=by omega
        simp only [e] at h3
        rw [h1] at h3; cases h3
  · exact K2 n xs m h
noncomputable def DJ (xs:List Bd) (n:ByteArray):Bool:=match xs[Bm xs n]? with
 | none=>false
 | some b=>dec (b.var=n)
def Ea:SC:=(.seq (.reg [⟨some 2,none,.boxv 139 3 (.t 0)⟩,⟨some 4,none,.mv (.c (.int .i64 0))⟩]) (.seq (.reg [⟨some 5,none,.faddr 0 (.t 2)⟩,⟨some 6,none,.load false 1 (.t 5)⟩,⟨some 7,none,.mv (.t 1)⟩,⟨some 8,none,.call 136 [(.t 6),(.t 7)]⟩,⟨some 4,none,.mv (.t 8)⟩]) .ret))
theorem Hn:codeOf Tryz.prog 164=some ⟨9,Ea,[(.tmp 4)]⟩:=by kernel_rfl
theorem BM:modes 164=⟨[],.asis,none,false⟩:=by unfold modes; rfl
theorem CF:IU Tryz.prog 164=true:=by kernel_rfl
def Ba:SC:=(.seq (.reg [⟨some 6,none,.mv (.c (.int .i64 0))⟩,⟨some 7,none,.mv (.c (.bool false))⟩]) (.seq (.reg [⟨some 12,none,.mv (.t 0)⟩,⟨some 13,none,.len false (.t 12)⟩,⟨some 8,none,.mv (.t 13)⟩]) (.seq (.reg [⟨some 14,none,.mv (.t 8)⟩,⟨some 9,none,.mv (.c (.int .i64 0))⟩,⟨some 10,none,.mv (.t 14)⟩]) (.seq (.block 0 (.loop [1,1,1,0,0,0,0,0,1,1,1,0,0,0,0,0,0,0,0,0,0,0,0,0,0,0,0,0,0,0,0,0,0,0,0,0,0,0,0,0,0,0,0,0,0,0,0,0,0] (.seq (.seq (.reg [⟨some 15,none,.mv (.t 9)⟩,⟨some 16,none,.mv (.t 10)⟩,⟨some 17,none,.bin .lss false (.t 15) (.t 16)⟩]) (.cond (.t 17) .skip (.exit 0))) (.block 1 (.seq (.reg [⟨some 18,none,.mv (.t 9)⟩,⟨some 19,none,.mv (.t 10)⟩,⟨some 20,none,.bin .add false (.t 18) (.t 19)⟩,⟨some 21,none,.conv .u64 (.t 20)⟩,⟨some 22,none,.bin .shr false (.t 21) (.c (.int .u64 1))⟩,⟨some 23,none,.conv .i64 (.t 22)⟩,⟨some 11,none,.mv (.t 23)⟩]) (.seq (.reg [⟨some 24,none,.mv (.t 2)⟩,⟨some 25,none,.mv (.t 0)⟩,⟨some 26,none,.mv (.t 11)⟩,⟨some 27,none,.iaddr 3 (.t 25) (.t 26)⟩,⟨some 28,none,.load true 3 (.t 27)⟩,⟨some 29,none,.mv (.t 1)⟩,⟨some 30,none,.callv (.t 24) [(.t 28),(.t 29)]⟩,⟨some 31,none,.bin .lss false (.t 30) (.c (.int .i64 0))⟩]) (.cond (.t 31) (.reg [⟨some 32,none,.mv (.t 11)⟩,⟨some 33,none,.bin .add false (.t 32) (.c (.int .i64 1))⟩,⟨some 9,none,.mv (.t 33)⟩]) (.reg [⟨some 34,none,.mv (.t 11)⟩,⟨some 10,none,.mv (.t 34)⟩])))))))) (.seq (.reg [⟨some 35,none,.mv (.t 9)⟩,⟨some 36,none,.mv (.t 9)⟩,⟨some 37,none,.mv (.t 8)⟩,⟨some 38,none,.bin .lss false (.t 36) (.t 37)⟩,⟨some 39,none,.mv (.t 38)⟩,⟨(some 40),(some (39,true)),(.mv (.t 2))⟩,⟨(some 41),(some (39,true)),(.mv (.t 0))⟩,⟨(some 42),(some (39,true)),(.mv (.t 9))⟩,⟨(some 43),(some (39,true)),(.iaddr 3 (.t 41) (.t 42))⟩,⟨(some 44),(some (39,true)),(.load true 3 (.t 43))⟩,⟨(some 45),(some (39,true)),(.mv (.t 1))⟩,⟨(some 46),(some (39,true)),(.callv (.t 40) [(.t 44),(.t 45)])⟩,⟨(some 47),(some (39,true)),(.bin .eql false (.t 46) (.c (.int .i64 0)))⟩,⟨some 48,none,.pick (.t 39) (.t 47) (.c (.bool false))⟩,⟨some 6,none,.mv (.t 35)⟩,⟨some 7,none,.mv (.t 48)⟩]) .ret)))))
theorem Cf:codeOf Tryz.prog 163=some ⟨49,Ba,[(.tmp 6),(.tmp 7)]⟩:=by kernel_rfl
theorem AC:modes 163=⟨[],.asis,none,false⟩:=by unfold modes; rfl
def CX:SC:=(.seq (.reg [⟨some 2,none,.boxv 76 1 (.t 0)⟩,⟨(some 4),none,(.alloc 71 [(.str ⟨#[]⟩),.nil])⟩,⟨some 5,none,.mv (.c (.bool false))⟩]) (.seq (.reg [⟨some 9,none,.faddr 0 (.t 2)⟩,⟨some 10,none,.load false 1 (.t 9)⟩,⟨some 11,none,.mv (.t 1)⟩,⟨some 12,none,.call 163 [(.t 10),(.t 11),(.c (.fn 164 []))]⟩,⟨some 8,none,.mv (.t 12)⟩,⟨some 13,none,.ext (.t 8) 0⟩,⟨some 14,none,.ext (.t 8) 1⟩,⟨some 6,none,.mv (.t 13)⟩,⟨some 7,none,.mv (.t 14)⟩]) (.seq (.seq (.reg [⟨some 15,none,.mv (.t 7)⟩,⟨some 16,none,.un .not (.t 15)⟩]) (.cond (.t 16) (.seq (.reg [⟨(some 17),none,(.build [(.str ⟨#[]⟩),.nil] [])⟩,⟨none,none,(.store 2 (.t 4) (.t 17))⟩,⟨some 5,none,.mv (.c (.bool false))⟩]) .ret) .skip)) (.seq (.reg [⟨some 18,none,.faddr 0 (.t 2)⟩,⟨some 19,none,.load false 1 (.t 18)⟩,⟨some 20,none,.mv (.t 6)⟩,⟨some 21,none,.iaddr 3 (.t 19) (.t 20)⟩,⟨some 22,none,.faddr 1 (.t 21)⟩,⟨some 23,none,.load true 2 (.t 22)⟩,⟨none,none,(.store 2 (.t 4) (.t 23))⟩,⟨some 5,none,.mv (.c (.bool true))⟩]) .ret))))
theorem E7:codeOf Tryz.prog 132=some ⟨24,CX,[(.cell 4 true 2),(.tmp 5)]⟩:=by kernel_rfl
theorem A5:modes 132=⟨[],.frz,none,false⟩:=by unfold modes; rfl
theorem ZD (b:Bd) (n:ByteArray):E 164 [b.sv,.str n] []=some (.int .i64 (Ej b.var n),[]):=by
 have h:=Jl b.var n
 refine Af Hn BM (of_decide_eq_true rfl) ?_
 simp (disch:=omega) only [Ea,go_sem,Aa,h,A8]
theorem T1 (xs:List Bd) (n:ByteArray) (hl:xs.length≤1099511627776) (hs:Nl xs):E 163 [.arr (xs.map Bd.d),.str n,.fn 164 []] []=some (.tup [.int .i64 (Bm xs n:Nat),.bool (DJ xs n)],[]):=by
 have hlow:=U6 n xs
 obtain ⟨L,hL⟩:∃ L:Int,L=(Bm xs n:Nat):=⟨_,rfl⟩
 rw [←hL]
 refine Af Cf AC (of_decide_eq_true rfl) ?_
 simp (disch:=omega) only [Ba,go_sem,Aa]
 refine go_loop (α:=Int × Int) (fun a=>⟨slots 49 0 [(0,.arr (xs.map Bd.d)),(1,.str n),(2,.fn 164 []),(8,.int .i64 xs.length),(9,.int .i64 a.1),(10,.int .i64 a.2)],[]⟩) (fun a=>0≤a.1∧a.1≤L∧L≤a.2∧a.2≤xs.length) (fun a=>(a.2-a.1).toNat) (0,xs.length) ⟨by simp,by dsimp only; omega,by dsimp only; omega,by dsimp only; omega⟩ (by simp (disch:=omega) only [go_sem,Aa]) ?_
 rintro ⟨i,j⟩ ⟨h0,h1,h2,h3⟩
 dsimp only at h0 h1 h2 h3
 rcases Int.lt_or_le i j with hij | hij
 ·obtain ⟨m,hm⟩:∃ m:Nat,(i+j) / 2=(m:Int):=⟨((i+j) / 2).toNat,by omega⟩
  have hlt:m<xs.length:=by omega
  have hni:(m:Int).toNat=m:=yQ m
  have hg:=get_at Bd.d hlt
  rw [Bd.d_eq] at hg
  have hc:=ZD xs[m] n
  have hw:IntKind.u64.wrap (i+j)=i+j:=wrap_u64 (by omega) (by omega)
  have hi:=QbW hs n hlt
  obtain ⟨M,hM⟩:∃ M:Int,(i+j) / 2=M:=⟨_,rfl⟩
  have hni:M.toNat=m:=by omega
  cases hq:strLt xs[m].var n with
  | true =>
   have hi2:=hi.1 hq
   simp (disch:=omega) only [go_sem,Aa,hw,hni,hg,hc,CF,BM,Wr,hq,hM]
   exact ⟨(M+1,j),⟨by dsimp only; omega,by dsimp only; omega,by dsimp only; omega,by dsimp only; omega⟩,by dsimp only; omega,by first | trivial | rfl⟩
  | false =>
   have hi2:¬ m<Bm xs n:=by rw [←hi,hq]; simp
   simp (disch:=omega) only [go_sem,Aa,hw,hni,hg,hc,CF,BM,Wr,hq,hM]
   exact ⟨(i,M),⟨by dsimp only; omega,by dsimp only; omega,by dsimp only; omega,by dsimp only; omega⟩,by dsimp only; omega,by first | trivial | rfl⟩
 ·obtain rfl:i=L:=by omega
  rcases zB (Bm xs n) xs.length with hlt | hge
  ·have hg:=get_at Bd.d hlt
   rw [Bd.d_eq] at hg
   have hni:i.toNat=Bm xs n:=by omega
   have hc:=ZD xs[Bm xs n] n
   have hh:DJ xs n=dec (xs[Bm xs n].var=n):=by unfold DJ; rw [zS hlt]
   rw [hh]
   simp (disch:=omega) only [go_sem,Aa,hni,hg,hc,CF,BM,QaD]
  ·have hh:DJ xs n=false:=by unfold DJ; rw [yT hge]
   rw [hh]
   simp (disch:=omega) only [go_sem,Aa]
theorem Wu {α:Type} (p:α→Bool):∀ (xs:List α) (k:Nat) (i:Int) (h:k<xs.length),(∀ j (hj:j<k),p xs[j]=false)→p xs[k]=true→Ew p xs i=i+k
 | [],k,i,h,_,_=>absurd h (by simp)
 | x :: xs,0,i,h,_,hp=>by rw [Ew,if_pos (show p x=true from hp)]; simp
 | x :: xs,k+1,i,h,hb,hp=>by
  have h0:p x=false:=hb 0 (by omega)
  have:=Wu p xs k (i+1) (by simpa using h) (fun j hj=>hb (j+1) (by omega)) hp
  rw [Ew,if_neg (by rw [h0]; simp),this]; omega
theorem U8 {α:Type} (p:α→Bool):∀ (xs:List α) (i:Int),(∀ j (hj:j<xs.length),p xs[j]=false)→Ew p xs i=-1
 | [],i,_=>by rw [Ew]
 | x :: xs,i,h=>by
  have h0:p x=false:=h 0 (by simp)
  rw [Ew,if_neg (by rw [h0]; simp)]
  exact U8 p xs (i+1) fun j hj=>h (j+1) (by simpa using hj)
theorem Rm {xs:List Bd} (hs:Nl xs) (n:ByteArray):Ew (fun b=>dec (b.var=n)) xs 0=if DJ xs n then ((Bm xs n:Nat):Int) else -1:=by
  have before:∀ j (hj:j<xs.length),j<Bm xs n→dec (xs[j].var=n)=false:=fun j hj hL=>A3 (Wq (K2 n xs j hj hL))
  rcases zB (Bm xs n) xs.length with hlt | hge
  · have hh:DJ xs n=dec (xs[Bm xs n].var=n):=by unfold DJ; rw [zS hlt]
    cases hq:dec (xs[Bm xs n].var=n) with
    | true =>
      rw [hh,hq,if_pos rfl,Wu _ xs (Bm xs n) 0 hlt (fun j hj=>before j (by omega) hj) hq]; omega
    | false =>
      rw [hh,hq,if_neg (by simp)]
      refine U8 _ xs 0 fun j hj=>?_
      rcases Nat.lt_trichotomy j (Bm xs n) with h | h | h
      · exact before j hj h
      · subst h; exact hq
      · refine A3 fun e=>?_
        have h1:=hs _ _ h hj
        rw [e,U7 n xs hlt] at h1
        cases h1
  · have hh:DJ xs n=false:=by unfold DJ; rw [yT hge]
    rw [hh,if_neg (by simp)]
    exact U8 _ xs 0 fun j hj=>before j hj (by omega)
theorem HD {xs:List Bd} {n:ByteArray} (h:DJ xs n=true):Bm xs n<xs.length:=by
 rcases zB (Bm xs n) xs.length with h1 | h1
 ·exact h1
 ·unfold DJ at h; rw [yT h1] at h; cases h
noncomputable def Sb.look (x:Sb) (n:ByteArray):Option Tm:=if h:DJ x.binds n=true then some (x.binds[Bm x.binds n]'(HD h)).term else none
theorem Rn (x:Sb) (hx:Nl x.binds) (n:ByteArray) (hl:x.binds.length≤1099511627776) (hh:DJ x.binds n=true) (hlt:Bm x.binds n<x.binds.length):E 132 [x.sv,.str n] []=some (.tup [(x.binds[Bm x.binds n]).term.sv,.bool true],[]):=by
 have hb:=T1 x.binds n hl hx
 have hg:=get_at Bd.d hlt
 rw [Bd.d_eq] at hg
 have hni:((Bm x.binds n:Nat):Int).toNat=Bm x.binds n:=yQ _
 refine Af E7 A5 (of_decide_eq_true rfl) ?_
 simp (disch:=omega) only [CX,go_sem,Aa,hb,hni,hg,hh,AC]
theorem T2 (x:Sb) (hx:Nl x.binds) (n:ByteArray) (hl:x.binds.length≤1099511627776) (hh:DJ x.binds n=false):E 132 [x.sv,.str n] []=some (.tup [.agg [.str ⟨#[]⟩,.arr []],.bool false],[]):=by
 have hb:=T1 x.binds n hl hx
 refine Af E7 A5 (of_decide_eq_true rfl) ?_
 simp (disch:=omega) only [CX,go_sem,Aa,hb,hh,AC]
theorem Y4 (x:Sb) (hx:x.ok=true) (n:ByteArray) (hl:x.binds.length≤1099511627776) (hh:DJ x.binds n=true) (hlt:Bm x.binds n<x.binds.length):E 132 [x.sv,.str n] []=some (.tup [(x.binds[Bm x.binds n]).term.sv,.bool true],[]):=Rn x (Sb.J5 hx) n hl hh hlt
theorem QaF (x:Sb) (hx:x.ok=true) (n:ByteArray) (hl:x.binds.length≤1099511627776) (hh:DJ x.binds n=false):E 132 [x.sv,.str n] []=some (.tup [.agg [.str ⟨#[]⟩,.arr []],.bool false],[]):=T2 x (Sb.J5 hx) n hl hh
mutual
noncomputable def Tm.ap (f:ByteArray→Option Tm):Tm→Tm
 | .mk name args=>if An name then (f name).getD (.mk name []) else .mk name (Tm.apL f args)
noncomputable def Tm.apL (f:ByteArray→Option Tm):List Tm→List Tm
 | []=>[]
 | x :: xs=>Tm.ap f x :: Tm.apL f xs
end
theorem Tm.HF (f:ByteArray→Option Tm) (x:Tm):x.ap f=if An x.name then (f x.name).getD (.mk x.name []) else .mk x.name (Tm.apL f x.args):=by
 obtain ⟨name,args⟩:=x
 rw [Tm.ap]; rfl
theorem Tm.PI (f:ByteArray→Option Tm):∀ xs:List Tm,(Tm.apL f xs).length=xs.length
 | []=>by rw [Tm.apL]
 | x :: xs=>by rw [Tm.apL]; simp only [yA,Tm.PI f xs]
theorem Tm.Nm (f:ByteArray→Option Tm):∀ xs:List Tm,Tm.apL f xs=xs.map (Tm.ap f)
 | []=>by rw [Tm.apL]; rfl
 | x :: xs=>by rw [Tm.apL,Tm.Nm f xs]; rfl
def okF (f:ByteArray→Option Tm):Prop:=∀ n t,f n=some t→t.names=true∧t.nodes≤30
theorem Tm.Nn (f:ByteArray→Option Tm):∀ xs:List Tm,(∀ y∈xs,(y.ap f).names=true)→Tm.DS (Tm.apL f xs)=true
 | [],_=>by rw [Tm.apL,Tm.DS]
 | x :: xs,h=>by rw [Tm.apL,Tm.DS,h x (by simp),Tm.Nn f xs fun y hy=>h y (by simp [hy])]; rfl
theorem Tm.K3 {f:ByteArray→Option Tm} (hf:okF f) (x:Tm) (hx:x.names=true):(x.ap f).names=true:=by
 rw [Tm.HF]
 rw [Tm.Gb] at hx
 split
 ·rename_i hv
  cases hq:f x.name with
  | none =>
   rw [y5,Tm.Gb]
   show (if An x.name then _ else _)=true
   rw [if_pos hv]; rfl
  | some t=>exact (hf _ _ hq).1
 ·rename_i hv
  rw [if_neg hv,zA,zA] at hx
  rw [Tm.Gb]
  show (if An x.name then _ else Fs x.name&&decide ((Tm.apL f x.args).length≤4)&&Tm.DS (Tm.apL f x.args))=true
  rw [if_neg hv,Tm.PI,hx.1.1,hx.1.2,Tm.Nn f x.args fun y hy=>Tm.K3 hf y (by
   have:=hx.2
   rw [Tm.Di,zN] at this
   exact this y hy)]
  rfl
termination_by SizeOf.sizeOf x
decreasing_by exact Tm.Ay hy
theorem Tm.Wv {f:ByteArray→Option Tm}:∀ xs:List Tm,(∀ y∈xs,(y.ap f).nodes≤30*y.nodes)→Tm.Bi (Tm.apL f xs)≤30*Tm.Bi xs
 | [],_=>by rw [Tm.apL,Tm.Bi]; omega
 | x :: xs,h=>by
  have h1:=h x (by simp)
  have h2:=Tm.Wv xs fun y hy=>h y (by simp [hy])
  rw [Tm.apL,Tm.Bi,Tm.Bi]; omega
theorem Tm.IE {f:ByteArray→Option Tm} (hf:okF f) (x:Tm):(x.ap f).nodes≤30*x.nodes:=by
 have hp:=Tm.Lk x
 rw [Tm.HF]
 split
 ·cases hq:f x.name with
  | none =>
   have:(Tm.mk x.name []).nodes=1+Tm.Bi []:=Tm.Ao (Tm.mk x.name [])
   rw [Tm.Bi] at this
   rw [y5]; omega
  | some t=>have:=(hf _ _ hq).2; rw [Option.getD_some]; omega
 ·have h1:(Tm.mk x.name (Tm.apL f x.args)).nodes=1+Tm.Bi (Tm.apL f x.args):=Tm.Ao (Tm.mk x.name (Tm.apL f x.args))
  have h2:=Tm.Wv (f:=f) x.args fun y hy=>Tm.IE hf y
  have h3:=Tm.Ao x
  omega
termination_by SizeOf.sizeOf x
decreasing_by exact Tm.Ay hy
theorem Tm.QbX {f:ByteArray→Option Tm} (hf:okF f) (x:Tm) (hx:(x.valid || x.atom)=true):((x.ap f).valid || (x.ap f).atom)=(x.ap f).small:=by
  cases hs:(x.ap f).small with
  | false =>
    have h1:(x.ap f).valid=false:=by unfold Tm.valid; rw [hs]; rfl
    have h2:(x.ap f).atom=false:=by
      unfold Tm.atom; split
      · rw [hs,zM,yL]
      · rw [h1,zM]
    rw [h1,h2]; rfl
  | true =>
    cases hn:x.names with
    | true =>
      have:(x.ap f).valid=true:=by unfold Tm.valid; rw [hs,Tm.K3 hf x hn]; rfl
      rw [this]; rfl
    | false =>
      have hv:x.valid=false:=by unfold Tm.valid; rw [hn,zM]
      rw [hv,y4] at hx
      unfold Tm.atom at hx
      split at hx
      · rename_i he
        rw [zA,zA] at hx
        have hname:x.name=⟨#[61]⟩:=by unfold Tm.eqn at he; exact Ar.1 he
        have hnv0:An ⟨#[61]⟩=false:=by kernel_rfl
        have hnv:¬ (An x.name=true):=by rw [hname,hnv0]; simp
        have e:x.ap f=.mk x.name (Tm.apL f x.args):=by rw [Tm.HF,if_neg hnv]
        have:(x.ap f).atom=true:=by
          have he2:(x.ap f).eqn=true:=by rw [e]; exact he
          unfold Tm.atom
          rw [if_pos he2,hs]
          rw [e]
          show ((Tm.apL f x.args).length == 2&&true&&Tm.DS (Tm.apL f x.args))=true
          rw [Tm.PI,hx.1.1,Tm.Nn f x.args fun y hy=>Tm.K3 hf y (by
            have:=hx.2
            rw [Tm.Di,zN] at this
            exact this y hy)]
          rfl
        rw [this,Bool.or_true]
      · rw [hv,zM] at hx; cases hx
theorem Tm.En {x:Tm} (h:x.names=true) (hv:An x.name=true):x.args=[]:=by
 rw [Tm.Gb,if_pos hv] at h
 exact zD (by simpa using h)
theorem Tm.Eo {x:Tm} (h:x.names=true) {y:Tm} (hy:y∈x.args):y.names=true:=by
 rw [Tm.Gb] at h
 split at h
 ·have:x.args=[]:=zD (by simpa using h)
  rw [this] at hy; cases hy
 ·rw [zA,Tm.Di,zN] at h
  exact h.2 y hy
theorem Sb.J6 {x:Sb} (h:x.ok=true) {k:Nat} (hk:k<x.binds.length):Hw x.binds[k]=true:=by
 unfold Sb.ok at h
 rw [zA] at h
 exact Qdt hk (ZC h.2 hk)
theorem Ww {x:Bd} (h:Hw x=true):An x.var=true:=by unfold Hw at h; rw [zA] at h; exact h.1
theorem Dz {x:Bd} (h:Hw x=true):x.term.valid=true:=by unfold Hw at h; rw [zA,zA] at h; exact h.2.1
theorem U9 {xs:List Bd} {n:ByteArray} (h:DJ xs n=true) (hlt:Bm xs n<xs.length):(xs[Bm xs n]).var=n:=by
 have hh:DJ xs n=dec (xs[Bm xs n].var=n):=by unfold DJ; rw [zS hlt]
 rw [hh] at h
 exact Ar.1 h
theorem Sb.Fg {x:Sb} (h:x.ok=true):okF x.look:=by
 intro n t ht
 unfold Sb.look at ht
 split at ht
 ·rename_i hh
  have hv:=Dz (Sb.J6 h (HD hh))
  obtain rfl:=yP ht
  unfold Tm.valid Tm.small at hv
  rw [zA,zA,decide_eq_true_eq] at hv
  exact ⟨hv.2,hv.1.1⟩
 ·cases ht
theorem Sb.K4 {x:Sb} {n:ByteArray} (h:DJ x.binds n=true) (hlt:Bm x.binds n<x.binds.length):x.look n=some (x.binds[Bm x.binds n]).term:=by
 unfold Sb.look; rw [dif_pos h]
theorem Sb.PJ {x:Sb} {n:ByteArray} (h:DJ x.binds n=false):x.look n=none:=by
 unfold Sb.look; rw [dif_neg (by rw [h]; simp)]
def Sb.fine (s:Sb):Prop:=Nl s.binds∧∀ b∈s.binds,An b.var=true
theorem Sb.UA {s:Sb} (h:s.ok=true):s.fine:=⟨Sb.J5 h,fun b hb=>by
 obtain ⟨k,hk,rfl⟩:=zW hb
 exact Ww (Sb.J6 h hk)⟩
def Ca:SC:=(.seq (.reg [⟨some 2,none,.boxv 76 1 (.t 0)⟩,⟨some 3,none,.boxv 71 2 (.t 1)⟩,⟨(some 4),none,(.alloc 71 [(.str ⟨#[]⟩),.nil])⟩]) (.seq (.seq (.reg [⟨some 10,none,.faddr 1 (.t 3)⟩,⟨some 11,none,.load false 1 (.t 10)⟩,⟨some 12,none,.len false (.t 11)⟩,⟨some 13,none,.bin .eql false (.t 12) (.c (.int .i64 0))⟩]) (.cond (.t 13) (.seq (.seq (.reg [⟨some 15,none,.load true 1 (.t 2)⟩,⟨some 16,none,.faddr 0 (.t 3)⟩,⟨some 17,none,.load false 1 (.t 16)⟩,⟨some 18,none,.call 132 [(.t 15),(.t 17)]⟩,⟨some 14,none,.mv (.t 18)⟩,⟨some 19,none,.ext (.t 14) 0⟩,⟨some 20,none,.ext (.t 14) 1⟩,⟨(some 5),none,(.alloc 71 [(.str ⟨#[]⟩),.nil])⟩,⟨none,none,(.store 2 (.t 5) (.t 19))⟩,⟨some 6,none,.mv (.t 20)⟩]) (.seq (.reg [⟨some 21,none,.mv (.t 6)⟩]) (.cond (.t 21) (.seq (.reg [⟨some 22,none,.load true 2 (.t 5)⟩,⟨some 23,none,.call 133 [(.t 22)]⟩,⟨none,none,(.store 2 (.t 4) (.t 23))⟩]) .ret) .skip))) (.seq (.reg [⟨some 24,none,.faddr 0 (.t 3)⟩,⟨some 25,none,.load false 1 (.t 24)⟩,⟨(some 26),none,(.build [(.str ⟨#[]⟩),.nil] [(0,(1,(.t 25)))])⟩,⟨none,none,(.store 2 (.t 4) (.t 26))⟩]) .ret)) .skip)) (.seq (.dreg [[],[0],[],[2],[3,2],[4,3,2],[1,0,5,4,3,2],[],[7,6,1,0,5,4,3,2]] [⟨some 27,none,.faddr 0 (.t 3)⟩,⟨some 28,none,.load false 1 (.t 27)⟩,⟨some 29,none,.faddr 1 (.t 3)⟩,⟨some 30,none,.load false 1 (.t 29)⟩,⟨some 31,none,.len false (.t 30)⟩,⟨(some 32),none,(.mkslice 71 2 40 [(.str ⟨#[]⟩),.nil] (.t 31))⟩,⟨(some 33),none,(.build [(.str ⟨#[]⟩),.nil] [(0,(1,(.t 28))),(1,(1,(.t 32)))])⟩,⟨(some 7),none,(.alloc 71 [(.str ⟨#[]⟩),.nil])⟩,⟨none,none,(.store 2 (.t 7) (.t 33))⟩]) (.seq (.seq (.reg [⟨some 34,none,.faddr 1 (.t 3)⟩,⟨some 35,none,.load false 1 (.t 34)⟩,⟨some 36,none,.len false (.t 35)⟩,⟨some 37,none,.mv (.c (.int .i64 0))⟩]) (.block 0 (.loop [0,0,1,0,1,0,0,1,0,0,0,0,0,0,0,0,0,0,0,0,0,0,0,0,0,0,0,0,0,0,0,0,0,0,0,1,1,1,0,0,0,0,0,0,0,0,0,0,0,0,0] (.seq (.reg [⟨some 38,none,.bin .lss false (.t 37) (.t 36)⟩]) (.seq (.cond (.t 38) .skip (.exit 0)) (.seq (.block 1 (.seq (.reg [⟨some 39,none,.mv (.t 37)⟩,⟨some 40,none,.iaddr 2 (.t 35) (.t 37)⟩,⟨some 41,none,.load true 2 (.t 40)⟩,⟨(some 9),none,(.alloc 71 [(.str ⟨#[]⟩),.nil])⟩,⟨some 8,none,.mv (.t 39)⟩,⟨none,none,(.store 2 (.t 9) (.t 41))⟩]) (.dreg [[],[0],[],[],[],[3,4],[1,0,2,3,4,5],[6,1,0,2,3,4,5]] [⟨some 42,none,.faddr 1 (.t 7)⟩,⟨some 43,none,.load false 1 (.t 42)⟩,⟨some 44,none,.mv (.t 8)⟩,⟨some 45,none,.load true 1 (.t 2)⟩,⟨some 46,none,.load true 2 (.t 9)⟩,⟨some 47,none,.call 126 [(.t 45),(.t 46)]⟩,⟨some 48,none,.iaddr 2 (.t 43) (.t 44)⟩,⟨none,none,(.store 2 (.t 48) (.t 47))⟩]))) (.reg [⟨some 49,none,.bin .add false (.t 37) (.c (.int .i64 1))⟩,⟨some 37,none,.mv (.t 49)⟩]))))))) (.seq (.reg [⟨some 50,none,.load true 2 (.t 7)⟩,⟨none,none,(.store 2 (.t 4) (.t 50))⟩]) .ret)))))
theorem CL:codeOf Tryz.prog 126=some ⟨51,Ca,[(.cell 4 true 2)]⟩:=by kernel_rfl
theorem Aw:modes 126=⟨[],.own [none,some (71,2)],none,false⟩:=by unfold modes; rfl
def Fh:SC:=(.seq (.reg [⟨some 2,none,.boxv 76 1 (.t 0)⟩,⟨some 3,none,.boxv 71 2 (.t 1)⟩,⟨(some 4),none,(.alloc 71 [(.str ⟨#[]⟩),.nil])⟩]) (.seq (.seq (.reg [⟨some 8,none,.faddr 0 (.t 3)⟩,⟨some 9,none,.load false 1 (.t 8)⟩,⟨some 10,none,.call 77 [(.t 9)]⟩]) (.cond (.t 10) (.seq (.seq (.reg [⟨some 11,none,.load true 1 (.t 2)⟩,⟨some 12,none,.faddr 0 (.t 3)⟩,⟨some 13,none,.load false 1 (.t 12)⟩,⟨some 14,none,.call 147 [(.t 11),(.t 13)]⟩,⟨some 5,none,.mv (.t 14)⟩]) (.seq (.reg [⟨some 15,none,.mv (.t 5)⟩,⟨some 16,none,.bin .geq false (.t 15) (.c (.int .i64 0))⟩]) (.cond (.t 16) (.seq (.reg [⟨some 17,none,.faddr 0 (.t 2)⟩,⟨some 18,none,.load false 1 (.t 17)⟩,⟨some 19,none,.mv (.t 5)⟩,⟨some 20,none,.iaddr 3 (.t 18) (.t 19)⟩,⟨some 21,none,.faddr 1 (.t 20)⟩,⟨some 22,none,.load true 2 (.t 21)⟩,⟨some 23,none,.call 148 [(.t 22)]⟩,⟨none,none,(.store 2 (.t 4) (.t 23))⟩]) .ret) .skip))) (.seq (.reg [⟨some 24,none,.faddr 0 (.t 3)⟩,⟨some 25,none,.load false 1 (.t 24)⟩,⟨(some 26),none,(.build [(.str ⟨#[]⟩),.nil] [(0,(1,(.t 25)))])⟩,⟨none,none,(.store 2 (.t 4) (.t 26))⟩]) .ret)) .skip)) (.seq (.reg [⟨some 27,none,.faddr 0 (.t 3)⟩,⟨some 28,none,.load false 1 (.t 27)⟩,⟨(some 29),none,(.build [(.str ⟨#[]⟩),.nil] [(0,(1,(.t 28)))])⟩,⟨(some 6),none,(.alloc 71 [(.str ⟨#[]⟩),.nil])⟩,⟨none,none,(.store 2 (.t 6) (.t 29))⟩]) (.seq (.seq (.reg [⟨some 7,none,.mv (.c (.int .i64 0))⟩]) (.block 0 (.loop [0,0,1,1,1,0,1,1,0,0,0,0,0,0,0,0,0,0,0,0,0,0,0,0,0,0,0,0,0,0,0,0,0,0,0,0,0,0,0,0,0,0,0,0,0,0,0,0,0,0] (.seq (.seq (.reg [⟨some 30,none,.mv (.t 7)⟩,⟨some 31,none,.faddr 1 (.t 3)⟩,⟨some 32,none,.load false 1 (.t 31)⟩,⟨some 33,none,.len false (.t 32)⟩,⟨some 34,none,.bin .lss false (.t 30) (.t 33)⟩]) (.cond (.t 34) .skip (.exit 0))) (.seq (.block 1 (.dreg [[],[0],[],[],[3],[],[4,3,5],[6,4,3,5],[2,7,6,4,3,5],[8,2,7,6,4,3,5],[1,0,9,8,2,7,6,4,3,5],[0,1,2,3,4,5,6,7,8,9,10],[11,0,1,2,3,4,5,6,7,8,9,10]] [⟨some 37,none,.faddr 1 (.t 6)⟩,⟨some 38,none,.load false 1 (.t 37)⟩,⟨some 39,none,.load true 1 (.t 2)⟩,⟨some 40,none,.faddr 1 (.t 3)⟩,⟨some 41,none,.load false 1 (.t 40)⟩,⟨some 42,none,.mv (.t 7)⟩,⟨some 43,none,.iaddr 2 (.t 41) (.t 42)⟩,⟨some 44,none,.load true 2 (.t 43)⟩,⟨some 45,none,.call 111 [(.t 39),(.t 44)]⟩,⟨(some 46),none,(.mkrow 71 2 [(.str ⟨#[]⟩),.nil] 1 [(0,(.t 45))])⟩,⟨(some 47),none,(.append 71 2 40 [(.str ⟨#[]⟩),.nil] (.t 38) (.t 46))⟩,⟨some 48,none,.faddr 1 (.t 6)⟩,⟨none,none,(.store 1 (.t 48) (.t 47))⟩])) (.reg [⟨some 35,none,.mv (.t 7)⟩,⟨some 36,none,.bin .add false (.t 35) (.c (.int .i64 1))⟩,⟨some 7,none,.mv (.t 36)⟩])))))) (.seq (.reg [⟨some 49,none,.load true 2 (.t 6)⟩,⟨none,none,(.store 2 (.t 4) (.t 49))⟩]) .ret)))))
theorem Ho:codeOf Tryz.prog 111=some ⟨50,Fh,[(.cell 4 true 2)]⟩:=by kernel_rfl
theorem AE:modes 111=⟨[],.frz,none,false⟩:=by unfold modes; rfl
theorem Wx (s:Sb) (hs:s.fine) (ht:s.tame) (x:Tm) (hx:An x.name=true→x.args=[]) (hn:x.nodes≤1099511627776) (ih:∀ y∈x.args,E 126 [s.sv,y.sv] []=some ((y.ap s.look).osv,(y.ap s.look).obs)):E 126 [s.sv,x.sv] []=some ((x.ap s.look).osv,(x.ap s.look).obs):=by
  have hsl:=ht.1
  have hl:=Tm.length_le x.args
  have hne:=Tm.Ao x
  rcases zF x.args.length with h0 | h0
  · have hx0:x.args=[]:=zD h0
    cases hh:DJ s.binds x.name with
    | true =>
      have hlt:=HD hh
      have hc:=Rn s hs.1 x.name hsl hh hlt
      have hd:=Jn (s.binds[Bm s.binds x.name]).term (Sb.tame_at ht hlt)
      have hv:An x.name=true:=by rw [←U9 hh hlt]; exact hs.2 _ (zC hlt)
      have e:x.ap s.look=(s.binds[Bm s.binds x.name]).term:=by rw [Tm.HF,if_pos hv,Sb.K4 hh hlt]; rfl
      rw [e]
      refine Af CL Aw (of_decide_eq_true rfl) ?_
      simp (disch:=omega) only [Ca,go_sem,Aa,hx0,hc,hd,zK,zX,A5,AX,Tm.osv,Tm.obs]
    | false =>
      have hc:=T2 s hs.1 x.name hsl hh
      have e:x.ap s.look=.mk x.name []:=by
        rw [Tm.HF,Sb.PJ hh,hx0]
        split
        · rfl
        · rw [Tm.apL]
      rw [e]
      have e1:(Tm.mk x.name []).osv=.agg [.str x.name,.ref 0]:=rfl
      have e2:(Tm.mk x.name []).obs=[.row 71 2 []]:=rfl
      rw [e1,e2]
      refine Af CL Aw (of_decide_eq_true rfl) ?_
      simp (disch:=omega) only [Ca,go_sem,Aa,hx0,hc,zK,zX,A5]
  · have hv:¬ An x.name=true:=fun h=>by rw [hx h] at h0; simp at h0
    have e:x.ap s.look=.mk x.name (x.args.map (Tm.ap s.look)):=by rw [Tm.HF,if_neg hv,Tm.Nm]
    rw [e]
    have e1:(Tm.mk x.name (x.args.map (Tm.ap s.look))).osv=.agg [.str x.name,.ref 0]:=rfl
    have e2:(Tm.mk x.name (x.args.map (Tm.ap s.look))).obs=[.row 71 2 ((x.args.map (Tm.ap s.look)).map Tm.o)]:=rfl
    rw [e1,e2]
    have hrl:List.replicate x.args.length ([.str ⟨#[]⟩,.ow []]:List OT)=Fx Tm.o [.str ⟨#[]⟩,.ow []] (x.args.map (Tm.ap s.look)) 0:=by rw [Hd,zE]
    refine Af CL Aw (of_decide_eq_true rfl) ?_
    simp (disch:=omega) only [Ca,go_sem,Aa]
    refine go_loop (α:=Int) (fun a=>⟨slots 51 0 [(2,.ptr 0 0),(4,.ptr 1 0),(7,.ptr 2 0),(35,.arr (x.args.map Tm.d)),(36,.int .i64 x.args.length),(37,.int .i64 a)],[.box 76 [.arr (s.binds.map Bd.d)],.box 71 [.str ⟨#[]⟩,.nil],.box 71 [.str x.name,.ref 3],.row 71 2 (Fx Tm.o [.str ⟨#[]⟩,.ow []] (x.args.map (Tm.ap s.look)) a.toNat)]⟩) (fun a=>∃ k:Nat,a=k∧k≤(x.args).length) (fun a=>(x.args).length-(a).toNat) 0 ⟨0,rfl,zG _⟩ (by simp (disch:=omega) only [go_sem,Aa,hrl,yM]) ?_
    rintro i ⟨k,hi,hk⟩
    have hni:i.toNat=k:=by omega
    have hni1:(i+1).toNat=k+1:=by omega
    rcases zB k (x.args).length with hlt | hge
    · have hg:=get_at Tm.d hlt
      rw [Tm.d_eq] at hg
      have hltm:k<(x.args.map (Tm.ap s.look)).length:=by rw [zE]; exact hlt
      have hz:=I6 Tm.o [.str ⟨#[]⟩,.ow []] hltm
      have hc:=ih x.args[k] (zC hlt)
      have hse:=I7 Tm.o [.str ⟨#[]⟩,.ow []] hltm
      rw [Tm.o_eq,yC] at hse
      simp (disch:=omega) only [go_sem,Aa,hni,hg,hc,hz,I4,zE,Aw,Tm.osv,Tm.obs]
      refine ⟨i+1,⟨k+1,by omega,hlt⟩,by omega,?_⟩
      simp (disch:=omega) only [go_sem,Aa,hni1,hse]
    · obtain rfl:k=x.args.length:=by omega
      have hend:Fx Tm.o [.str ⟨#[]⟩,.ow []] (x.args.map (Tm.ap s.look)) x.args.length=(x.args.map (Tm.ap s.look)).map Tm.o:=by
        have:=I5 Tm.o [.str ⟨#[]⟩,.ow []] (xs:=x.args.map (Tm.ap s.look))
        rwa [zE] at this
      simp (disch:=omega) only [go_sem,Aa,hni,hend]
theorem ZE (s:Sb) (hs:s.fine) (ht:s.tame) (x:Tm) (hx:x.names=true) (hn:x.nodes≤1099511627776):E 126 [s.sv,x.sv] []=some ((x.ap s.look).osv,(x.ap s.look).obs) :=
 Wx s hs ht x (Tm.En hx) hn fun y hy=>ZE s hs ht y (Tm.Eo hx hy) (by have:=Tm.AT hy; have:=Tm.Ao x; omega)
termination_by SizeOf.sizeOf x
decreasing_by exact Tm.Ay hy
theorem ZF (s:Sb) (hs:s.ok=true) (ht:s.tame) (x:Tm) (hx:x.names=true) (hn:x.nodes≤1099511627776):E 126 [s.sv,x.sv] []=some ((x.ap s.look).osv,(x.ap s.look).obs):=ZE s (Sb.UA hs) ht x hx hn
theorem Y5 (s:Sb) (hs:s.fine) (ht:s.tame) (x:Tm) (hn:x.nodes≤1099511627776) (ih:∀ y∈x.args,E 111 [s.sv,y.sv] []=some ((y.ap s.look).sv,[])):E 111 [s.sv,x.sv] []=some ((x.ap s.look).sv,[]):=by
  have hsl:=ht.1
  have hl:=Tm.length_le x.args
  have hne:=Tm.Ao x
  have hf:=Wt s x.name hsl
  rw [Rm hs.1] at hf
  cases hv:An x.name with
  | true =>
    cases hh:DJ s.binds x.name with
    | true =>
      have hlt:=HD hh
      have hg:=get_at Bd.d hlt
      rw [Bd.d_eq] at hg
      have hni:((Bm s.binds x.name:Nat):Int).toNat=Bm s.binds x.name:=yQ _
      have hd:=PG (s.binds[Bm s.binds x.name]).term (Sb.tame_at ht hlt)
      have e:x.ap s.look=(s.binds[Bm s.binds x.name]).term:=by rw [Tm.HF,if_pos hv,Sb.K4 hh hlt]; rfl
      rw [hh,if_pos rfl] at hf
      rw [e]
      refine Af Ho AE (of_decide_eq_true rfl) ?_
      simp (disch:=omega) only [Fh,go_sem,Aa,hv,hf,hg,hni,hd,BI,Ah,Am,CQ]
    | false =>
      have e:x.ap s.look=.mk x.name []:=by rw [Tm.HF,if_pos hv,Sb.PJ hh]; rfl
      rw [hh,if_neg (by simp)] at hf
      rw [e]
      have e1:(Tm.mk x.name []).sv=.agg [.str x.name,.arr []]:=rfl
      rw [e1]
      refine Af Ho AE (of_decide_eq_true rfl) ?_
      simp (disch:=omega) only [Fh,go_sem,Aa,hv,hf,BI,Ah,Am]
  | false =>
    have e:x.ap s.look=.mk x.name (x.args.map (Tm.ap s.look)):=by rw [Tm.HF,if_neg (by rw [hv]; simp),Tm.Nm]
    rw [e]
    have e1:(Tm.mk x.name (x.args.map (Tm.ap s.look))).sv=.agg [.str x.name,.arr ((x.args.map (Tm.ap s.look)).map Tm.d)]:=rfl
    rw [e1]
    have h10:((1:Int)=0)=False:=by simp
    have hfu:=Tm.Nh (x.args.map (Tm.ap s.look))
    have her:=Tm.U4 (x.args.map (Tm.ap s.look))
    refine Af Ho AE (of_decide_eq_true rfl) ?_
    simp (disch:=omega) only [Fh,go_sem,Aa,hv,BI,Ah,Am]
    refine go_loop (α:=Int) (fun a=>⟨slots 50 0 [(2,.ptr 0 0),(3,.ptr 1 0),(4,.ptr 2 0),(6,.ptr 3 0),(7,.int .i64 a)],(if a=0 then [.box 76 [.arr (s.binds.map Bd.d)],.box 71 [.str x.name,.arr (x.args.map Tm.d)],.box 71 [.str ⟨#[]⟩,.nil],.box 71 [.str x.name,.nil]] else [.box 76 [.arr (s.binds.map Bd.d)],.box 71 [.str x.name,.arr (x.args.map Tm.d)],.box 71 [.str ⟨#[]⟩,.nil],.box 71 [.str x.name,.ref 4],.row 71 2 (((x.args.map (Tm.ap s.look)).take a.toNat).map Tm.osh)])⟩) (fun a=>∃ k:Nat,a=k∧k≤(x.args).length) (fun a=>(x.args).length-(a).toNat) 0 ⟨0,rfl,zG _⟩ (by simp (disch:=omega) only [go_sem,Aa,eq_self,if_true]) ?_
    rintro i ⟨k,hi,hk⟩
    have hni:i.toNat=k:=by omega
    have hni1:(i+1).toNat=k+1:=by omega
    rcases zB k (x.args).length with hlt | hge
    · have hg:=get_at Tm.d hlt
      rw [Tm.d_eq] at hg
      have hltm:k<(x.args.map (Tm.ap s.look)).length:=by rw [zE]; exact hlt
      have hc:=ih x.args[k] (zC hlt)
      have hse:=D8 Tm.osh hltm
      rw [Tm.Re,yC] at hse
      rcases zF k with h0 | h0
      · subst h0
        obtain rfl:i=0:=hi
        rw [zZ,zK,zT] at hse
        simp (disch:=omega) only [go_sem,Aa,hni,hg,hc,AE,eq_self,if_true]
        refine ⟨1,⟨1,rfl,hlt⟩,by omega,?_⟩
        simp (disch:=omega) only [go_sem,Aa,h10,if_false,hse]
      · have hi0:(i=0)=False:=by simp; omega
        have hi1:(i+1=0)=False:=by simp; omega
        have htl:((x.args.map (Tm.ap s.look)).take k).length=k:=by rw [zO]; omega
        simp (disch:=omega) only [go_sem,Aa,hni,hg,hc,AE,hi0,if_false,htl]
        refine ⟨i+1,⟨k+1,by omega,hlt⟩,by omega,?_⟩
        simp (disch:=omega) only [go_sem,Aa,hni1,hi1,if_false,hse]
    · obtain rfl:k=x.args.length:=by omega
      have hta:(x.args.map (Tm.ap s.look)).take x.args.length=x.args.map (Tm.ap s.look):=by
        have:=zQ (l:=x.args.map (Tm.ap s.look))
        rwa [zE] at this
      rcases zF x.args.length with h0 | h0
      · have hx:x.args=[]:=zD h0
        obtain rfl:i=0:=by omega
        simp (disch:=omega) only [go_sem,Aa,hni,hx,eq_self,if_true,zK,zX]
      · have hi0:(i=0)=False:=by simp; omega
        simp (disch:=omega) only [go_sem,Aa,hni,hi0,if_false,hta,hfu,her]
theorem T3 (s:Sb) (hs:s.fine) (ht:s.tame) (x:Tm) (hn:x.nodes≤1099511627776):E 111 [s.sv,x.sv] []=some ((x.ap s.look).sv,[]) :=
 Y5 s hs ht x hn fun y hy=>T3 s hs ht y (by have:=Tm.AT hy; have:=Tm.Ao x; omega)
termination_by SizeOf.sizeOf x
decreasing_by exact Tm.Ay hy
theorem Ou (s:Sb) (hs:s.ok=true) (ht:s.tame) (x:Tm) (hn:x.nodes≤1099511627776):E 111 [s.sv,x.sv] []=some ((x.ap s.look).sv,[]):=T3 s (Sb.UA hs) ht x hn
noncomputable def Tm.expr (x:Tm):Bool:=x.valid || x.atom
theorem Tm.Ro {x:Tm} (h:x.expr=true):x.small=true:=by
 unfold Tm.expr Tm.atom Tm.valid at h
 cases hs:x.small with
 | true=>rfl
 | false =>
  rw [hs] at h
  split at h <;> simp at h
theorem Tm.As {x:Tm} (h:x.expr=true):x.nodes≤30:=by
 have:=Tm.Ro h
 unfold Tm.small at this
 rw [zA,decide_eq_true_eq] at this
 exact this.1
theorem Tm.ZG {x:Tm} (h:x.eqn=true):An x.name=false:=by
 unfold Tm.eqn at h
 rw [Ar.1 h]
 kernel_rfl
theorem Tm.Mq {x:Tm} (h:x.expr=true):x.names=true∨(x.eqn=true∧Tm.DS x.args=true):=by
 unfold Tm.expr Tm.valid at h
 cases hn:x.names with
 | true=>exact .inl rfl
 | false =>
  rw [hn,zM,y4] at h
  unfold Tm.atom at h
  split at h
  ·rename_i he
   rw [zA] at h
   exact .inr ⟨he,h.2⟩
  ·unfold Tm.valid at h; rw [hn,zM,zM] at h; cases h
theorem Tm.Wy {x:Tm} (h:x.expr=true):An x.name=true→x.args=[]:=by
 intro hv
 rcases Tm.Mq h with h1 | ⟨h1,h2⟩
 ·exact Tm.En h1 hv
 ·rw [Tm.ZG h1] at hv; cases hv
theorem Tm.K5 {x:Tm} (h:x.expr=true) {y:Tm} (hy:y∈x.args):y.names=true:=by
 rcases Tm.Mq h with h1 | ⟨h1,h2⟩
 ·exact Tm.Eo h1 hy
 ·rw [Tm.Di,zN] at h2; exact h2 y hy
theorem Tm.Rp:∀ xs:List Tm,(∀ x∈xs,x.nodes≤1+x.bulk)→Tm.Bi xs≤xs.length+Tm.sumB xs
 | [],_=>by simp [Tm.Bi]
 | x :: xs,h=>by
  have h1:=h x (by simp)
  have h2:=Tm.Rp xs fun y hy=>h y (by simp [hy])
  rw [Tm.Bi,Tm.sumB]; simp only [yA]; omega
theorem Tm.Rq (x:Tm):x.nodes≤1+x.bulk:=by
 rw [Tm.Ao,Tm.bulk_eq]
 have:=Tm.Rp x.args fun y hy=>Tm.Rq y
 omega
termination_by SizeOf.sizeOf x
decreasing_by exact Tm.Ay hy
theorem ZH (x:Tm) (hn:x.nodes≤1099511627776):E 110 [x.sv] []=some (.bool x.expr,[]):=by
 have h1:=QZ x hn
 have h3:=Ra x hn
 unfold Tm.expr
 cases hv:x.valid with
 | true =>
  rw [hv] at h1
  rw [Bool.true_or]
  refine Af Na Fb (of_decide_eq_true rfl) ?_
  simp (disch:=omega) only [Jj,go_sem,Aa,h1,Bb]
 | false =>
  rw [hv] at h1
  rw [y4]
  refine Af Na Fb (of_decide_eq_true rfl) ?_
  simp (disch:=omega) only [Jj,go_sem,Aa,h1,h3,Bb,AR]
def C4:SC:=(.seq (.reg [⟨some 2,none,.boxv 76 1 (.t 0)⟩,⟨some 3,none,.boxv 71 2 (.t 1)⟩,⟨(some 4),none,(.alloc 71 [(.str ⟨#[]⟩),.nil])⟩,⟨some 5,none,.mv (.c (.bool false))⟩]) (.seq (.reg [⟨some 7,none,.load true 1 (.t 2)⟩,⟨some 8,none,.load true 2 (.t 3)⟩,⟨some 9,none,.call 126 [(.t 7),(.t 8)]⟩,⟨(some 6),none,(.alloc 71 [(.str ⟨#[]⟩),.nil])⟩,⟨none,none,(.store 2 (.t 6) (.t 9))⟩]) (.seq (.seq (.reg [⟨some 10,none,.load true 2 (.t 6)⟩,⟨some 11,none,.call 127 [(.t 10)]⟩,⟨some 12,none,.un .not (.t 11)⟩]) (.cond (.t 12) (.seq (.reg [⟨(some 13),none,(.build [(.str ⟨#[]⟩),.nil] [])⟩,⟨none,none,(.store 2 (.t 4) (.t 13))⟩,⟨some 5,none,.mv (.c (.bool false))⟩]) .ret) .skip)) (.seq (.reg [⟨some 14,none,.load true 2 (.t 6)⟩,⟨none,none,(.store 2 (.t 4) (.t 14))⟩,⟨some 5,none,.mv (.c (.bool true))⟩]) .ret))))
theorem DL:codeOf Tryz.prog 87=some ⟨15,C4,[(.cell 4 true 2),(.tmp 5)]⟩:=by kernel_rfl
theorem Ab:modes 87=⟨[],.late,none,false⟩:=by unfold modes; rfl
def B4:SC:=(.seq (.reg [⟨some 2,none,.boxv 76 1 (.t 0)⟩,⟨some 3,none,.boxv 71 2 (.t 1)⟩,⟨(some 4),none,(.alloc 71 [(.str ⟨#[]⟩),.nil])⟩,⟨some 5,none,.mv (.c (.bool false))⟩]) (.seq (.seq (.reg [⟨some 7,none,.load true 1 (.t 2)⟩,⟨some 8,none,.call 109 [(.t 7)]⟩,⟨some 9,none,.un .not (.t 8)⟩,⟨some 10,none,.mv (.t 9)⟩,⟨(some 11),(some (10,false)),(.load true 2 (.t 3))⟩,⟨(some 12),(some (10,false)),(.call 110 [(.t 11)])⟩,⟨(some 13),(some (10,false)),(.un .not (.t 12))⟩,⟨some 14,none,.pick (.t 10) (.c (.bool true)) (.t 13)⟩]) (.cond (.t 14) (.seq (.reg [⟨(some 15),none,(.build [(.str ⟨#[]⟩),.nil] [])⟩,⟨none,none,(.store 2 (.t 4) (.t 15))⟩,⟨some 5,none,.mv (.c (.bool false))⟩]) .ret) .skip)) (.seq (.reg [⟨some 16,none,.load true 1 (.t 2)⟩,⟨some 17,none,.load true 2 (.t 3)⟩,⟨some 18,none,.call 111 [(.t 16),(.t 17)]⟩,⟨(some 6),none,(.alloc 71 [(.str ⟨#[]⟩),.nil])⟩,⟨none,none,(.store 2 (.t 6) (.t 18))⟩]) (.seq (.seq (.reg [⟨some 19,none,.load true 2 (.t 6)⟩,⟨some 20,none,.call 110 [(.t 19)]⟩,⟨some 21,none,.un .not (.t 20)⟩]) (.cond (.t 21) (.seq (.reg [⟨(some 22),none,(.build [(.str ⟨#[]⟩),.nil] [])⟩,⟨none,none,(.store 2 (.t 4) (.t 22))⟩,⟨some 5,none,.mv (.c (.bool false))⟩]) .ret) .skip)) (.seq (.reg [⟨some 23,none,.load true 2 (.t 6)⟩,⟨none,none,(.store 2 (.t 4) (.t 23))⟩,⟨some 5,none,.mv (.c (.bool true))⟩]) .ret)))))
theorem Cj:codeOf Tryz.prog 76=some ⟨24,B4,[(.cell 4 true 2),(.tmp 5)]⟩:=by kernel_rfl
theorem Ac:modes 76=⟨[],.frz,none,false⟩:=by unfold modes; rfl
noncomputable def BT (s:Sb) (x:Tm):Bool:=s.ok&&(x.expr&&(x.ap s.look).small)
noncomputable def AI (s:Sb) (x:Tm):Tm:=if BT s x then x.ap s.look else .mk ⟨#[]⟩ []
theorem UC {s:Sb} {x:Tm} (h:BT s x=false):AI s x=.mk ⟨#[]⟩ []:=by unfold AI; rw [if_neg (by rw [h]; simp)]
theorem Eb {s:Sb} {x:Tm} (h:BT s x=true):AI s x=x.ap s.look:=by unfold AI; rw [if_pos h]
theorem UD:(Tm.mk ⟨#[]⟩ []).sv=.agg [.str ⟨#[]⟩,.arr []]:=rfl
theorem T4 (s:Sb) (hs:s.ok=true) (ht:s.tame) (x:Tm) (hx:x.expr=true):E 126 [s.sv,x.sv] []=some ((x.ap s.look).osv,(x.ap s.look).obs):=by
 have hn:=Tm.As hx
 exact Wx s (Sb.UA hs) ht x (Tm.Wy hx) (by omega) fun y hy=>ZF s hs ht y (Tm.K5 hx hy) (by have:=Tm.AT hy; have:=Tm.Ao x; omega)
theorem BD (s:Sb) (hs:s.ok=true) (ht:s.tame) (x:Tm) (hx:x.expr=true) (ho:BT s x=true):E 87 [s.sv,x.sv] []=some (.tup [(AI s x).osv,.bool true],(AI s x).obs):=by
 have hn:=Tm.As hx
 have hk:=Tm.IE (Sb.Fg hs) x
 have h1:=T4 s hs ht x hx
 have h2:=Lo (x.ap s.look) (by omega)
 have hq:(x.ap s.look).small=true:=by unfold BT at ho; rw [zA,zA] at ho; exact ho.2.2
 rw [hq] at h2
 rw [Eb ho]
 refine Af DL Ab (of_decide_eq_true rfl) ?_
 simp (disch:=omega) only [C4,go_sem,Aa,h1,h2,Tm.osv,Tm.obs,Bj,Aw]
theorem Cg (s:Sb) (hs:s.ok=true) (ht:s.tame) (x:Tm) (hx:x.expr=true) (ho:BT s x=false):E 87 [s.sv,x.sv] []=some (.tup [.agg [.str ⟨#[]⟩,.nil],.bool false],[]):=by
 have hn:=Tm.As hx
 have hk:=Tm.IE (Sb.Fg hs) x
 have h1:=T4 s hs ht x hx
 have h2:=Lo (x.ap s.look) (by omega)
 have hq:(x.ap s.look).small=false:=by unfold BT at ho; rw [hs,hx,yG,yG] at ho; exact ho
 rw [hq] at h2
 refine Af DL Ab (of_decide_eq_true rfl) ?_
 simp (disch:=omega) only [C4,go_sem,Aa,h1,h2,Tm.osv,Tm.obs,Bj,Aw]
theorem AV (s:Sb) (ht:s.tame) (x:Tm) (hn:x.nodes≤1099511627776):E 76 [s.sv,x.sv] []=some (.tup [(AI s x).sv,.bool (BT s x)],[]):=by
  have h1:=Nk s ht
  have h2:=ZH x hn
  cases hs:s.ok with
  | false =>
    have ho:BT s x=false:=by unfold BT; rw [hs]; rfl
    rw [hs] at h1
    rw [UC ho,ho,UD]
    refine Af Cj Ac (of_decide_eq_true rfl) ?_
    simp (disch:=omega) only [B4,go_sem,Aa,h1,Ci]
  | true =>
    rw [hs] at h1
    cases hx:x.expr with
    | false =>
      have ho:BT s x=false:=by unfold BT; rw [hx,yL,zM]
      rw [hx] at h2
      rw [UC ho,ho,UD]
      refine Af Cj Ac (of_decide_eq_true rfl) ?_
      simp (disch:=omega) only [B4,go_sem,Aa,h1,h2,Ci,Fb]
    | true =>
      rw [hx] at h2
      have hn:=Tm.As hx
      have hk:=Tm.IE (Sb.Fg hs) x
      have h3:=Ou s hs ht x (by omega)
      have h4:=ZH (x.ap s.look) (by omega)
      have h5:(x.ap s.look).expr=(x.ap s.look).small:=Tm.QbX (Sb.Fg hs) x hx
      rw [h5] at h4
      cases hq:(x.ap s.look).small with
      | true =>
        have ho:BT s x=true:=by unfold BT; rw [hs,hx,hq]; rfl
        rw [hq] at h4
        rw [Eb ho,ho]
        refine Af Cj Ac (of_decide_eq_true rfl) ?_
        simp (disch:=omega) only [B4,go_sem,Aa,h1,h2,h3,h4,Ci,Fb,AE]
      | false =>
        have ho:BT s x=false:=by unfold BT; rw [hq,zM,zM]
        rw [hq] at h4
        rw [UC ho,ho,UD]
        refine Af Cj Ac (of_decide_eq_true rfl) ?_
        simp (disch:=omega) only [B4,go_sem,Aa,h1,h2,h3,h4,Ci,Fb,AE]
theorem Tm.Cv {x:Tm} (h:x.atom=true):x.expr=true:=by unfold Tm.expr; rw [h,Bool.or_true]
theorem Tm.CG {x:Tm} (h:x.atom=true):x.nodes≤30:=Tm.As (Tm.Cv h)
def Gu:SC:=(.seq (.reg [⟨some 1,none,.boxv 28 1 (.t 0)⟩,⟨some 2,none,.alloc 28 [.nil]⟩,⟨some 3,none,.mv (.c (.bool false))⟩]) (.seq (.seq (.reg [⟨some 4,none,.load true 1 (.t 1)⟩,⟨some 5,none,.call 54 [(.t 4)]⟩,⟨some 6,none,.un .not (.t 5)⟩]) (.cond (.t 6) (.seq (.reg [⟨some 7,none,.build [.nil] []⟩,⟨none,none,(.store 1 (.t 2) (.t 7))⟩,⟨some 3,none,.mv (.c (.bool false))⟩]) .ret) .skip)) (.seq (.reg [⟨some 8,none,.load true 1 (.t 1)⟩,⟨none,none,(.store 1 (.t 2) (.t 8))⟩,⟨some 3,none,.mv (.c (.bool true))⟩]) .ret)))
theorem J7:codeOf Tryz.prog 137=some ⟨9,Gu,[(.cell 2 true 1),(.tmp 3)]⟩:=by kernel_rfl
theorem CN:modes 137=⟨[true],.own [some (73,3),none],none,false⟩:=by unfold modes; rfl
def CZ:SC:=(.seq (.reg [⟨some 2,none,.boxv 76 1 (.t 0)⟩,⟨some 4,none,.alloc 28 [.nil]⟩,⟨some 5,none,.mv (.c (.bool false))⟩]) (.seq (.reg [⟨(some 11),none,(.mkrow 73 3 [(.bool false),(.str ⟨#[]⟩),.nil] 0 [])⟩,⟨some 6,none,.mv (.t 11)⟩]) (.seq (.seq (.reg [⟨some 12,none,.mv (.t 1)⟩,⟨some 13,none,.len false (.t 12)⟩,⟨some 14,none,.mv (.c (.int .i64 0))⟩]) (.block 0 (.loop [0,0,1,0,1,0,1,0,0,0,0,0,1,1,1,0,0,0,0,0,0,0,0,0,0,0,0,0,0,0,0,0,0,0,0,0,0,0,0,0,0] (.seq (.reg [⟨some 15,none,.bin .lss false (.t 14) (.t 13)⟩]) (.seq (.cond (.t 15) .skip (.exit 0)) (.seq (.block 1 (.seq (.reg [⟨some 16,none,.iaddr 3 (.t 12) (.t 14)⟩,⟨some 17,none,.load true 3 (.t 16)⟩,⟨(some 8),none,(.alloc 73 [(.bool false),(.str ⟨#[]⟩),.nil])⟩,⟨none,none,(.store 3 (.t 8) (.t 17))⟩]) (.seq (.reg [⟨some 19,none,.load true 1 (.t 2)⟩,⟨some 20,none,.faddr 1 (.t 8)⟩,⟨some 21,none,.load true 2 (.t 20)⟩,⟨some 22,none,.call 87 [(.t 19),(.t 21)]⟩,⟨some 18,none,.mv (.t 22)⟩,⟨some 23,none,.ext (.t 18) 0⟩,⟨some 24,none,.ext (.t 18) 1⟩,⟨(some 9),none,(.alloc 71 [(.str ⟨#[]⟩),.nil])⟩,⟨none,none,(.store 2 (.t 9) (.t 23))⟩,⟨some 10,none,.mv (.t 24)⟩]) (.seq (.seq (.reg [⟨some 25,none,.mv (.t 10)⟩,⟨some 26,none,.un .not (.t 25)⟩]) (.cond (.t 26) (.seq (.reg [⟨some 27,none,.build [.nil] []⟩,⟨none,none,(.store 1 (.t 4) (.t 27))⟩,⟨some 5,none,.mv (.c (.bool false))⟩]) .ret) .skip)) (.reg [⟨some 28,none,.mv (.t 6)⟩,⟨some 29,none,.faddr 0 (.t 8)⟩,⟨some 30,none,.load false 1 (.t 29)⟩,⟨some 31,none,.load true 2 (.t 9)⟩,⟨(some 32),none,(.build [(.bool false),(.str ⟨#[]⟩),.nil] [(0,(1,(.t 30))),(1,(2,(.t 31)))])⟩,⟨(some 33),none,(.mkrow 73 3 [(.bool false),(.str ⟨#[]⟩),.nil] 1 [(0,(.t 32))])⟩,⟨(some 34),none,(.append 73 3 48 [(.bool false),(.str ⟨#[]⟩),.nil] (.t 28) (.t 33))⟩,⟨some 6,none,.mv (.t 34)⟩]))))) (.reg [⟨some 35,none,.bin .add false (.t 14) (.c (.int .i64 1))⟩,⟨some 14,none,.mv (.t 35)⟩]))))))) (.seq (.reg [⟨some 36,none,.mv (.t 6)⟩,⟨some 37,none,.call 138 [(.t 36)]⟩,⟨some 38,none,.call 137 [(.t 37)]⟩,⟨some 39,none,.ext (.t 38) 0⟩,⟨some 40,none,.ext (.t 38) 1⟩,⟨none,none,(.store 1 (.t 4) (.t 39))⟩,⟨some 5,none,.mv (.t 40)⟩]) .ret))))
theorem Ft:codeOf Tryz.prog 92=some ⟨41,CZ,[(.cell 4 true 1),(.tmp 5)]⟩:=by kernel_rfl
theorem Bu:modes 92=⟨[],.own [some (73,3),none],none,false⟩:=by unfold modes; rfl
def K6:SC:=(.seq (.reg [⟨some 2,none,.boxv 76 1 (.t 0)⟩,⟨some 4,none,.alloc 28 [.nil]⟩,⟨some 5,none,.mv (.c (.bool false))⟩]) (.seq (.reg [⟨(some 10),none,(.mkrow 73 3 [(.bool false),(.str ⟨#[]⟩),.nil] 0 [])⟩,⟨some 6,none,.mv (.t 10)⟩]) (.seq (.seq (.reg [⟨some 7,none,.mv (.c (.int .i64 0))⟩]) (.block 0 (.loop [0,1,1,0,1,0,1,1,0,0,0,0,0,0,0,0,0,0,0,0,0,0,0,0,0,0,0,0,0,0,0,0,0,0,0,0,0,0,0,0,0,0,0,0,0] (.seq (.seq (.reg [⟨some 11,none,.mv (.t 7)⟩,⟨some 12,none,.mv (.t 1)⟩,⟨some 13,none,.len false (.t 12)⟩,⟨some 14,none,.bin .lss false (.t 11) (.t 13)⟩]) (.cond (.t 14) .skip (.exit 0))) (.seq (.block 1 (.seq (.dreg [[],[],[],[1,2],[3,1,2],[4,3,1,2],[0,5,4,3,1,2],[],[7,6,0,5,4,3,1,2]] [⟨some 17,none,.load true 1 (.t 2)⟩,⟨some 18,none,.mv (.t 1)⟩,⟨some 19,none,.mv (.t 7)⟩,⟨some 20,none,.iaddr 3 (.t 18) (.t 19)⟩,⟨some 21,none,.faddr 1 (.t 20)⟩,⟨some 22,none,.load true 2 (.t 21)⟩,⟨some 23,none,.call 111 [(.t 17),(.t 22)]⟩,⟨(some 8),none,(.alloc 71 [(.str ⟨#[]⟩),.nil])⟩,⟨none,none,(.store 2 (.t 8) (.t 23))⟩]) (.seq (.seq (.reg [⟨some 24,none,.load true 2 (.t 8)⟩,⟨some 25,none,.call 72 [(.t 24)]⟩,⟨some 26,none,.un .not (.t 25)⟩]) (.cond (.t 26) (.seq (.reg [⟨some 27,none,.build [.nil] []⟩,⟨none,none,(.store 1 (.t 4) (.t 27))⟩,⟨some 5,none,.mv (.c (.bool false))⟩]) .ret) .skip)) (.dreg [[],[],[],[1,2],[3,1,2],[4,3,1,2],[],[5,4,3,1,2,6],[7,5,4,3,1,2,6],[0,8,7,5,4,3,1,2,6],[9,0,8,7,5,4,3,1,2,6]] [⟨some 28,none,.mv (.t 6)⟩,⟨some 29,none,.mv (.t 1)⟩,⟨some 30,none,.mv (.t 7)⟩,⟨some 31,none,.iaddr 3 (.t 29) (.t 30)⟩,⟨some 32,none,.faddr 0 (.t 31)⟩,⟨some 33,none,.load false 1 (.t 32)⟩,⟨some 34,none,.load true 2 (.t 8)⟩,⟨(some 35),none,(.build [(.bool false),(.str ⟨#[]⟩),.nil] [(0,(1,(.t 33))),(1,(2,(.t 34)))])⟩,⟨(some 36),none,(.mkrow 73 3 [(.bool false),(.str ⟨#[]⟩),.nil] 1 [(0,(.t 35))])⟩,⟨(some 37),none,(.append 73 3 48 [(.bool false),(.str ⟨#[]⟩),.nil] (.t 28) (.t 36))⟩,⟨some 6,none,.mv (.t 37)⟩])))) (.reg [⟨some 15,none,.mv (.t 7)⟩,⟨some 16,none,.bin .add false (.t 15) (.c (.int .i64 1))⟩,⟨some 7,none,.mv (.t 16)⟩])))))) (.seq (.reg [⟨some 38,none,.mv (.t 6)⟩,⟨some 39,none,.call 117 [(.t 38)]⟩,⟨some 9,none,.alloc 28 [.nil]⟩,⟨none,none,(.store 1 (.t 9) (.t 39))⟩]) (.seq (.seq (.reg [⟨some 40,none,.load true 1 (.t 9)⟩,⟨some 41,none,.call 47 [(.t 40)]⟩,⟨some 42,none,.un .not (.t 41)⟩]) (.cond (.t 42) (.seq (.reg [⟨some 43,none,.build [.nil] []⟩,⟨none,none,(.store 1 (.t 4) (.t 43))⟩,⟨some 5,none,.mv (.c (.bool false))⟩]) .ret) .skip)) (.seq (.reg [⟨some 44,none,.load true 1 (.t 9)⟩,⟨none,none,(.store 1 (.t 4) (.t 44))⟩,⟨some 5,none,.mv (.c (.bool true))⟩]) .ret))))))
theorem Rr:codeOf Tryz.prog 79=some ⟨45,K6,[(.cell 4 true 1),(.tmp 5)]⟩:=by kernel_rfl
theorem Fj:modes 79=⟨[],.frz,none,false⟩:=by unfold modes; rfl
theorem UE (c:Cl) (hn:c.tame) (hv:c.ok=true):E 137 [c.osv] c.obs=some (.tup [c.osv,.bool true],c.obs):=by
 have h:=Gt c hn
 rw [hv] at h
 refine Af J7 CN (of_decide_eq_true rfl) ?_
 simp (disch:=omega) only [Gu,go_sem,Aa,h,Cp,Lt.erss,Lt.noss,Lt.fus]
theorem Wz (c:Cl) (hn:c.tame) (hv:c.ok=false):E 137 [c.osv] c.obs=some (.tup [.agg [.ref 1],.bool false],[.row 73 3 (c.lits.map Lt.o),.row 73 3 []]):=by
 have h:=Gt c hn
 rw [hv] at h
 refine Af J7 CN (of_decide_eq_true rfl) ?_
 simp (disch:=omega) only [Gu,go_sem,Aa,h,Cp,Lt.erss,Lt.noss,Lt.fus]
theorem Ov {s:ByteArray} (h:Fs s=true):An s=false:=by
 unfold Fs inB at h
 rw [zA,zA,zA,decide_eq_true_eq,decide_eq_true_eq] at h
 have hs:0<s.size:=by omega
 have h1:=Hg h.1.1 hs
 unfold Kk at h1
 simp at h1
 have h2:=h1.1
 have hu:Q6 (Jz s 0)=false:=by
  unfold Ud at h2
  unfold Q6
  simp at h2 ⊢
  omega
 rw [Bool.eq_false_iff]
 intro hv
 unfold An at hv
 rw [zA] at hv
 have h1:=Hg hv.1 hs
 unfold J0 at h1
 rw [hu] at h1
 simp at h1
theorem Tm.ZI {f:ByteArray→Option Tm} (hf:okF f) (x:Tm) (hx:x.atom=true):(x.ap f).atom=(x.ap f).small:=by
  unfold Tm.atom at hx
  rcases he:x.eqn with _ | _
  · rw [he,if_neg (by simp),zA] at hx
    have hnv:¬ (An x.name=true):=by rw [Ov hx.1]; simp
    have e:x.ap f=.mk x.name (Tm.apL f x.args):=by rw [Tm.HF,if_neg hnv]
    have he2:¬ (x.ap f).eqn=true:=by rw [e]; show ¬ x.eqn=true; rw [he]; simp
    have hn:x.names=true:=by
      have:=hx.2
      unfold Tm.valid at this
      rw [zA] at this
      exact this.2
    have h3:=Tm.K3 hf x hn
    unfold Tm.atom
    rw [if_neg he2]
    unfold Tm.valid
    rw [h3,yJ]
    have hname:(x.ap f).name=x.name:=by rw [e]; rfl
    rw [hname,hx.1,yG]
  · rw [he,if_pos rfl,zA,zA] at hx
    have hnv:¬ (An x.name=true):=by rw [Tm.ZG he]; simp
    have e:x.ap f=.mk x.name (Tm.apL f x.args):=by rw [Tm.HF,if_neg hnv]
    have he2:(x.ap f).eqn=true:=by rw [e]; exact he
    unfold Tm.atom
    rw [if_pos he2]
    have h1:((x.ap f).args.length == 2)=true:=by
      rw [e]
      show ((Tm.apL f x.args).length == 2)=true
      rw [Tm.PI]; exact hx.1.1
    have h2:Tm.DS (x.ap f).args=true:=by
      rw [e]
      exact Tm.Nn f x.args fun y hy=>Tm.K3 hf y (by
        have:=hx.2
        rw [Tm.Di,zN] at this
        exact this y hy)
    rw [h1,h2,yG,yJ]
noncomputable def Lt.ap (s:Sb) (x:Lt):Lt:=⟨x.pos,x.atom.ap s.look⟩
noncomputable def Rs (s:Sb) (l:List Lt):Bool:=l.all fun x=>(x.atom.ap s.look).small
noncomputable def Ev (s:Sb) (l:List Lt):Bool:=Rs s l&&(mkC (l.map (Lt.ap s))).ok
noncomputable def apC (s:Sb) (l:List Lt):Cl:=if Ev s l then mkC (l.map (Lt.ap s)) else ⟨[]⟩
theorem Ow {s:Sb} {l:List Lt} (h:Ev s l=false):apC s l=⟨[]⟩:=by unfold apC; rw [if_neg (by rw [h]; simp)]
theorem PK {s:Sb} {l:List Lt} (h:Ev s l=true):apC s l=mkC (l.map (Lt.ap s)):=by unfold apC; rw [if_pos h]
theorem Lt.ZJ {s:Sb} (hs:s.ok=true) {x:Lt} (hx:x.atom.atom=true) (hq:(x.atom.ap s.look).small=true):(x.ap s).fine:=by
 have ha:(x.atom.ap s.look).atom=true:=by rw [Tm.ZI (Sb.Fg hs) _ hx]; exact hq
 exact ⟨Tm.Hh ha,by
              have:(Lt.ap s x).atom.nodes≤30:=Tm.CG ha
              omega⟩
theorem W2 {l:List Lt} (hl:l.length≤1048576) (hf:∀ x∈l,x.fine):(mkC l).tame:=by
 have:=ZA l
 exact ⟨by omega,fun y hy=>(hf y ((PH l y).1 hy)).2⟩
theorem T5:(Cl.mk []).osv=.agg [.ref 0]:=rfl
theorem T6:(Cl.mk []).obs=[.row 73 3 []]:=rfl
theorem W3:(Cl.mk []).sv=.agg [.arr []]:=rfl
theorem S1 (s:Sb) (hs:s.ok=true) (ht:s.tame) (l:List Lt) (hl:l.length≤1048576) (hal:∀ x∈l,x.atom.atom=true):E 92 [s.sv,.arr (l.map Lt.d)] []=some (.tup [(apC s l).osv,.bool (Ev s l)],(apC s l).obs):=by
  have her:OT.erss (l.map (fun x:Lt=>(Lt.ap s x).d.map D.ot))=(l.map (Lt.ap s)).map Lt.d:=by
    have:=Lt.der (l.map (Lt.ap s))
    rw [yN] at this
    exact this
  have hfu:OT.AL (l.map (fun x:Lt=>(Lt.ap s x).d.map D.ot))=true:=by
    have:=Lt.dfu (l.map (Lt.ap s))
    rw [yN] at this
    exact this
  refine Af Ft Bu (of_decide_eq_true rfl) ?_
  simp (disch:=omega) only [CZ,go_sem,Aa]
  refine go_loop (α:=Int) (fun a=>⟨slots 41 0 [(2,.ptr 0 0),(4,.ptr 1 0),(6,.ref 2),(12,.arr (l.map Lt.d)),(13,.int .i64 l.length),(14,.int .i64 a)],[.box 76 [.arr (s.binds.map Bd.d)],.box 28 [.nil],.row 73 3 ((l.take a.toNat).map (fun x:Lt=>(Lt.ap s x).d.map D.ot))]⟩) (fun a=>∃ k:Nat,a=k∧k≤(l).length∧∀ x∈l.take k,(x.atom.ap s.look).small=true) (fun a=>(l).length-(a).toNat) 0 ⟨0,rfl,zG _,fun x hx=>by simp at hx⟩ (by simp (disch:=omega) only [go_sem,Aa,yM]) ?_
  rintro i ⟨k,hi,hk,hR⟩
  have hni:i.toNat=k:=by omega
  have hni1:(i+1).toNat=k+1:=by omega
  rcases zB k (l).length with hlt | hge
  · have hg:=get_at Lt.d hlt
    rw [Lt.d_eq] at hg
    have hat:=hal l[k] (zC hlt)
    have hex:=Tm.Cv hat
    have hsn:=D8 (fun x:Lt=>(Lt.ap s x).d.map D.ot) hlt
    have hs1:[[OT.bool l[k].pos,.str (l[k].atom.ap s.look).name,.sh ((l[k].atom.ap s.look).args.map Tm.d)]]=[(fun x:Lt=>(Lt.ap s x).d.map D.ot) l[k]]:=by simp only [Lt.d_eq]; rfl
    have htl:(l.take k).length=k:=by rw [zO]; omega
    cases hq:(l[k].atom.ap s.look).small with
    | true =>
      have ha:=BD s hs ht l[k].atom hex (by unfold BT; rw [hs,hex,hq]; rfl)
      rw [Eb (by unfold BT; rw [hs,hex,hq]; rfl)] at ha
      simp (disch:=omega) only [go_sem,Aa,hni,hg,ha,htl,Ab,CM,CN]
      refine ⟨i+1,⟨k+1,by omega,hlt,fun x hx=>?_⟩,by omega,?_⟩
      · rcases yV.1 (by rw [yF hlt] at hx; exact hx) with hx | hx
        · exact hR x hx
        · rw [yX.1 hx]; exact hq
      · simp (disch:=omega) only [go_sem,Aa,hni1,hs1,hsn,and_self]
    | false =>
      have ha:=Cg s hs ht l[k].atom hex (by unfold BT; rw [hq,zM,zM])
      have hno:Ev s l=false:=by
        unfold Ev Rs
        rw [show (l.all fun x=>(x.atom.ap s.look).small)=false from ?_,yL]
        rw [List.all_eq_false]
        exact ⟨l[k],zC hlt,by rw [hq]; simp⟩
      rw [Ow hno,hno,T5,T6]
      simp (disch:=omega) only [go_sem,Aa,hni,hg,ha,Ab,CM,CN]
  · obtain rfl:k=l.length:=by omega
    have htk:l.take l.length=l:=zQ
    rw [htk] at hR
    have hal2:Rs s l=true:=by unfold Rs; rw [zN]; exact hR
    have hfine:∀ x∈l.map (Lt.ap s),x.fine:=fun x hx=>by
      obtain ⟨y,hy,rfl⟩:=yI.1 hx
      exact Lt.ZJ hs (hal y hy) (hR y hy)
    have hlen:(l.map (Lt.ap s)).length≤1048576:=by rw [zE]; exact hl
    have hc:=Rf (l.map (Lt.ap s)) hlen hfine
    have htm:=W2 hlen hfine
    cases hv:(mkC (l.map (Lt.ap s))).ok with
    | true =>
      have hok:Ev s l=true:=by unfold Ev; rw [hal2,hv]; rfl
      have hi2:=UE _ htm hv
      rw [PK hok,hok]
      simp (disch:=omega) only [go_sem,Aa,hni,htk,hc,hi2,her,hfu,Lt.noss,Ab,CM,CN]
    | false =>
      have hok:Ev s l=false:=by unfold Ev; rw [hv,zM]
      have hi2:=Wz _ htm hv
      rw [Ow hok,hok,T5,T6]
      simp (disch:=omega) only [go_sem,Aa,hni,htk,hc,hi2,her,hfu,Lt.noss,Ab,CM,CN]
theorem Tm.FF {x:Tm} (h:x.atom=true):(An x.name=true→x.args=[])∧∀ y∈x.args,y.names=true:=by
 unfold Tm.atom at h
 cases he:x.eqn with
 | true =>
  rw [he,if_pos rfl,zA,zA] at h
  have h2:=h.2
  rw [Tm.Di,zN] at h2
  refine ⟨fun hv=>?_,h2⟩
  have hn:=Ar.1 he
  have hnv0:An ⟨#[61]⟩=false:=by kernel_rfl
  rw [hn,hnv0] at hv
  cases hv
 | false =>
  rw [he,if_neg (by simp),zA] at h
  have hnm:x.names=true:=by have h3:=h.2; unfold Tm.valid at h3; rw [zA] at h3; exact h3.2
  exact ⟨fun hv=>Tm.En hnm hv,fun y hy=>Tm.Eo hnm hy⟩
mutual
noncomputable def Tm.vs:Tm→List ByteArray
 | .mk name args=>bif An name then [name] else Tm.vsL args
noncomputable def Tm.vsL:List Tm→List ByteArray
 | []=>[]
 | x :: xs=>Tm.vs x++Tm.vsL xs
end
theorem Tm.Fz (x:Tm):x.vs=bif An x.name then [x.name] else Tm.vsL x.args:=by
 obtain ⟨n,a⟩:=x
 rw [Tm.vs]; rfl
theorem Tm.vsL_mem {v:ByteArray}:∀ {xs:List Tm},v∈Tm.vsL xs ↔ ∃ x∈xs,v∈x.vs
 | []=>by simp [Tm.vsL]
 | x :: xs=>by rw [Tm.vsL,yV,Tm.vsL_mem (xs:=xs)]; simp
theorem Tm.ZK:∀ xs:List Tm,(∀ x∈xs,x.vs.length≤x.nodes)→(Tm.vsL xs).length≤Tm.Bi xs
 | [],_=>by simp [Tm.vsL]
 | x :: xs,h=>by
  have h1:=h x (by simp)
  have h2:=Tm.ZK xs fun y hy=>h y (by simp [hy])
  rw [Tm.vsL,Tm.Bi,zU]; omega
theorem Tm.vs_len (x:Tm):x.vs.length≤x.nodes:=by
 have h:=Tm.ZK x.args fun y hy=>Tm.vs_len y
 rw [Tm.Fz,Tm.Ao]
 cases An x.name with
 | true=>simp
 | false=>simp only [cond_false]; omega
termination_by SizeOf.sizeOf x
decreasing_by exact Tm.Ay hy
noncomputable def Lx (l:List ByteArray) (n:ByteArray):List ByteArray:=bif dec (n∈l) then l else l++[n]
theorem QbY (l:List ByteArray) (n:ByteArray):(Lx l n).length≤l.length+1:=by
 unfold Lx
 cases dec (n∈l) <;> simp
theorem QbZ {l:List ByteArray} {n m:ByteArray}:m∈Lx l n ↔ m∈l∨m=n:=by
 unfold Lx
 by_cases h:n∈l
 ·rw [At h,cond_true]
  exact ⟨.inl,fun h'=>h'.elim id fun e=>e▸h⟩
 ·rw [A3 h,cond_false]
  simp
theorem Y6 {l:List ByteArray} {n:ByteArray} (h:l.Nodup):(Lx l n).Nodup:=by
 unfold Lx
 by_cases k:n∈l
 ·rw [At k]; exact h
 ·rw [A3 k,cond_false,List.nodup_append]
  exact ⟨h,by simp,fun a ha b hb e=>by simp at hb; subst hb; subst e; exact k ha⟩
noncomputable def Cz (l ns:List ByteArray):List ByteArray:=ns.foldl Lx l
theorem IF:∀ (ns l:List ByteArray),(Cz l ns).length≤l.length+ns.length
 | [],l=>by simp [Cz]
 | n :: ns,l=>by
  have h:=IF ns (Lx l n)
  have h2:=QbY l n
  simp only [Cz,z7,yA] at h ⊢
  omega
theorem W4:∀ {ns l:List ByteArray} {m:ByteArray},m∈Cz l ns ↔ m∈l∨m∈ns
 | [],l,m=>by simp [Cz]
 | n :: ns,l,m=>by
  have h:=W4 (ns:=ns) (l:=Lx l n) (m:=m)
  simp only [Cz,z7] at h ⊢
  rw [h,QbZ]
  simp only [yK]
  exact or_assoc
theorem Rt:∀ {ns l:List ByteArray},l.Nodup→(Cz l ns).Nodup
 | [],l,h=>h
 | n :: ns,l,h=>Rt (ns:=ns) (Y6 h)
theorem No (l a b:List ByteArray):Cz l (a++b)=Cz (Cz l a) b:=y3
def D9:SC:=(.seq (.reg [⟨some 4,none,.mv (.c (.int .i64 0))⟩]) (.seq (.seq (.reg [⟨some 6,none,.mv (.t 0)⟩,⟨some 7,none,.len false (.t 6)⟩,⟨some 8,none,.mv (.c (.int .i64 0))⟩]) (.block 0 (.loop [1,1,0,0,0,0,0,1,1,0,0,0,0,0,0,0,0,0,0] (.seq (.reg [⟨some 9,none,.bin .lss false (.t 8) (.t 7)⟩]) (.seq (.cond (.t 9) .skip (.exit 0)) (.seq (.block 1 (.seq (.reg [⟨some 10,none,.mv (.t 8)⟩,⟨some 5,none,.mv (.t 10)⟩]) (.seq (.reg [⟨some 11,none,.mv (.t 1)⟩,⟨some 12,none,.mv (.t 0)⟩,⟨some 13,none,.mv (.t 5)⟩,⟨some 14,none,.iaddr 1 (.t 12) (.t 13)⟩,⟨some 15,none,.load false 1 (.t 14)⟩,⟨some 16,none,.bin .eql false (.t 11) (.t 15)⟩]) (.cond (.t 16) (.seq (.reg [⟨some 17,none,.mv (.t 5)⟩,⟨some 4,none,.mv (.t 17)⟩]) .ret) .skip)))) (.reg [⟨some 18,none,.bin .add false (.t 8) (.c (.int .i64 1))⟩,⟨some 8,none,.mv (.t 18)⟩]))))))) (.seq (.reg [⟨some 4,none,.mv (.c (.int .i64 (-(0+1))))⟩]) .ret)))
theorem Gv:codeOf Tryz.prog 179=some ⟨19,D9,[(.tmp 4)]⟩:=by kernel_rfl
theorem DA:modes 179=⟨[],.asis,none,false⟩:=by unfold modes; rfl
def Da:SC:=(.seq (.reg [⟨some 4,none,.mv (.c (.bool false))⟩]) (.seq (.reg [⟨some 5,none,.mv (.t 0)⟩,⟨some 6,none,.mv (.t 1)⟩,⟨some 7,none,.call 179 [(.t 5),(.t 6)]⟩,⟨some 8,none,.bin .geq false (.t 7) (.c (.int .i64 0))⟩,⟨some 4,none,.mv (.t 8)⟩]) .ret))
theorem Fu:codeOf Tryz.prog 157=some ⟨9,Da,[(.tmp 4)]⟩:=by kernel_rfl
theorem BZ:modes 157=⟨[],.asis,none,false⟩:=by unfold modes; rfl
theorem Qca (xs:List ByteArray) (n:ByteArray) (hl:xs.length≤1099511627776):E 179 [.arr (xs.map fun s=>[D.str s]),.str n] []=some (.int .i64 (Ew (fun s=>dec (n=s)) xs 0),[]):=by
 refine Af Gv DA (of_decide_eq_true rfl) ?_
 simp (disch:=omega) only [D9,go_sem,Aa]
 refine go_loop (α:=Int) (fun a=>⟨slots 19 0 [(0,.arr (xs.map fun s=>[D.str s])),(1,.str n),(7,.int .i64 xs.length),(8,.int .i64 a)],[]⟩) (fun a=>∃ k:Nat,a=k∧k≤(xs).length∧Ew (fun s=>dec (n=s)) (xs.drop k) a=Ew (fun s=>dec (n=s)) xs 0) (fun a=>(xs).length-(a).toNat) 0 ⟨0,rfl,zG _,by rw [zL]⟩ (by simp (disch:=omega) only [go_sem,Aa]) ?_
 rintro i ⟨k,hi,hk,hR⟩
 have hni:i.toNat=k:=by omega
 have hni1:(i+1).toNat=k+1:=by omega
 rcases zB k (xs).length with hlt | hge
 ·have hg:=get_at (fun s=>[D.str s]) hlt
  rw [zH hlt,Ew] at hR
  cases hp:dec (n=xs[k]) with
  | true =>
   rw [hp] at hR
   simp (disch:=omega) only [go_sem,Aa,hni,hg,hp]
   simpa using hR
  | false =>
   rw [hp] at hR
   simp (disch:=omega) only [go_sem,Aa,hni,hg,hp]
   exact ⟨i+1,⟨k+1,by omega,hlt,by simpa using hR⟩,by omega,by first | trivial | rfl⟩
 ·rw [zI hge,Ew] at hR
  simp (disch:=omega) only [go_sem,Aa,hni]
  exact hR
theorem W5 (xs:List ByteArray) (n:ByteArray) (hl:xs.length≤1099511627776):E 157 [.arr (xs.map fun s=>[D.str s]),.str n] []=some (.bool (dec (n∈xs)),[]):=by
 have h:=Qca xs n hl
 have e:dec (n∈xs)=dec (0≤Ew (fun s=>dec (n=s)) xs 0):=by
  rw [MT]
  by_cases hm:n∈xs
  ·rw [At hm]
   exact (List.any_eq_true.2 ⟨n,hm,At rfl⟩).symm
  ·rw [A3 hm]
   refine Eq.symm (Bool.eq_false_iff.2 fun h=>?_)
   obtain ⟨x,h1,h2⟩:=List.any_eq_true.1 h
   have e:=Ar.1 h2
   subst e
   exact hm h1
 rw [e]
 refine Af Fu BZ (of_decide_eq_true rfl) ?_
 simp (disch:=omega) only [Da,go_sem,Aa,h,DA]
theorem Ox:∀ (ns l:List ByteArray),l.length≤(Cz l ns).length
 | [],l=>by simp [Cz]
 | n :: ns,l=>by
  have h:=Ox ns (Lx l n)
  have h2:l.length≤(Lx l n).length:=by unfold Lx; cases dec (n∈l) <;> simp
  simp only [Cz,z7] at h ⊢
  omega
def Ec:SC:=(.seq (.reg [⟨some 3,none,.boxv 71 2 (.t 1)⟩,⟨some 4,none,.mv (.c .nil)⟩]) (.seq (.seq (.reg [⟨some 7,none,.faddr 1 (.t 3)⟩,⟨some 8,none,.load false 1 (.t 7)⟩,⟨some 9,none,.len false (.t 8)⟩,⟨some 10,none,.bin .eql false (.t 9) (.c (.int .i64 0))⟩,⟨some 11,none,.mv (.t 10)⟩,⟨(some 12),(some (11,true)),(.load true 2 (.t 3))⟩,⟨(some 13),(some (11,true)),(.call 89 [(.t 12)])⟩,⟨some 14,none,.pick (.t 11) (.t 13) (.c (.bool false))⟩]) (.cond (.t 14) (.seq (.seq (.reg [⟨some 15,none,.mv (.t 0)⟩,⟨some 16,none,.faddr 0 (.t 3)⟩,⟨some 17,none,.load false 1 (.t 16)⟩,⟨some 18,none,.call 157 [(.t 15),(.t 17)]⟩,⟨some 19,none,.un .not (.t 18)⟩]) (.cond (.t 19) (.reg [⟨some 20,none,.mv (.t 0)⟩,⟨some 21,none,.faddr 0 (.t 3)⟩,⟨some 22,none,.load false 1 (.t 21)⟩,⟨(some 23),none,(.mkrow 9 1 [(.str ⟨#[]⟩)] 1 [(0,(.t 22))])⟩,⟨(some 24),none,(.append 9 1 16 [(.str ⟨#[]⟩)] (.t 20) (.t 23))⟩,⟨some 0,none,.mv (.t 24)⟩]) .skip)) (.seq (.reg [⟨some 25,none,.mv (.t 0)⟩,⟨some 4,none,.mv (.t 25)⟩]) .ret)) .skip)) (.seq (.seq (.reg [⟨some 26,none,.faddr 1 (.t 3)⟩,⟨some 27,none,.load false 1 (.t 26)⟩,⟨some 28,none,.len false (.t 27)⟩,⟨some 29,none,.mv (.c (.int .i64 0))⟩]) (.block 0 (.loop [1,0,0,0,0,0,0,0,0,0,0,0,0,0,0,0,0,0,0,0,0,0,0,0,0,0,0,1,1,1,0,0,0,0,0,0,0,0] (.seq (.reg [⟨some 30,none,.bin .lss false (.t 29) (.t 28)⟩]) (.seq (.cond (.t 30) .skip (.exit 0)) (.seq (.block 1 (.seq (.reg [⟨some 31,none,.iaddr 2 (.t 27) (.t 29)⟩,⟨some 32,none,.load true 2 (.t 31)⟩,⟨(some 6),none,(.alloc 71 [(.str ⟨#[]⟩),.nil])⟩,⟨none,none,(.store 2 (.t 6) (.t 32))⟩]) (.reg [⟨some 33,none,.mv (.t 0)⟩,⟨some 34,none,.load true 2 (.t 6)⟩,⟨some 35,none,.call 124 [(.t 33),(.t 34)]⟩,⟨some 0,none,.mv (.t 35)⟩]))) (.reg [⟨some 36,none,.bin .add false (.t 29) (.c (.int .i64 1))⟩,⟨some 29,none,.mv (.t 36)⟩]))))))) (.seq (.reg [⟨some 37,none,.mv (.t 0)⟩,⟨some 4,none,.mv (.t 37)⟩]) .ret))))
theorem Fk:codeOf Tryz.prog 124=some ⟨38,Ec,[(.tmp 4)]⟩:=by kernel_rfl
theorem Dj:modes 124=⟨[true],.asis,none,false⟩:=by unfold modes; rfl
abbrev Qdv (x:Tm):Prop:=∀ l:List ByteArray,l.length+x.nodes≤1048576→E 124 [.ref 0,x.sv] [.row 9 1 (l.map fun s=>[OT.str s])]=some ((bif dec (l.length<(Cz l x.vs).length) then .ref 1 else .ref 0),(bif dec (l.length<(Cz l x.vs).length) then [.gone,.row 9 1 ((Cz l x.vs).map fun s=>[OT.str s])] else [.row 9 1 ((Cz l x.vs).map fun s=>[OT.str s])]))
theorem Ru (x:Tm) (hva:An x.name=true→x.args=[]) (hc:x.cok=true) (ih:∀ y∈x.args,Qdv y):Qdv x:=by
  intro l hn
  have hl:=Tm.length_le x.args
  have hne:=Tm.Ao x
  have hv:=Dd x hc
  have hvs:=Tm.Fz x
  rcases zF x.args.length with h0 | h0
  · have hx0:x.args=[]:=zD h0
    have hz:((x.args.length:Int)=0)=True:=by rw [hx0]; simp
    cases hvv:An x.name with
    | true =>
      rw [hvv] at hv hvs
      have h1:=W5 l x.name (by omega)
      rw [hvs]
      cases hm:dec (x.name∈l) with
      | true =>
        have e:Cz l [x.name]=l:=by simp only [Cz,z7,y7,Lx,hm,cond_true]
        rw [hm] at h1
        simp only [cond_true,e]
        refine Af Fk Dj (of_decide_eq_true rfl) ?_
        simp (disch:=omega) only [Ec,go_sem,Aa,hz,hv,h1,Ak,BZ]
      | false =>
        have e:Cz l [x.name]=l++[x.name]:=by simp only [Cz,z7,y7,Lx,hm,cond_false]
        have hg:l.length<(l++[x.name]).length:=by simp
        rw [hm] at h1
        simp only [cond_true,e,At hg]
        refine Af Fk Dj (of_decide_eq_true rfl) ?_
        simp (disch:=omega) only [Ec,go_sem,Aa,hz,hv,h1,Ak,BZ]
        simp only [yD,zJ,zK]
    | false =>
      rw [hvv] at hv hvs
      have e:Cz l x.vs=l:=by rw [hvs,hx0]; simp only [cond_false,Tm.vsL]; rfl
      rw [e]
      refine Af Fk Dj (of_decide_eq_true rfl) ?_
      simp (disch:=omega) only [Ec,go_sem,Aa,hz,hv,Ak]
      refine go_loop (α:=Int) (fun a=>⟨slots 38 0 [(0,.ref 0),(27,.arr (x.args.map Tm.d)),(28,.int .i64 x.args.length),(29,.int .i64 a)],[.row 9 1 (l.map fun s=>[OT.str s])]⟩) (fun a=>∃ k:Nat,a=k∧k≤(x.args).length) (fun a=>(x.args).length-(a).toNat) 0 ⟨0,rfl,zG _⟩ (by simp (disch:=omega) only [go_sem,Aa]) ?_
      rintro i ⟨k,hi,hk⟩
      have hni:i.toNat=k:=by omega
      have hni1:(i+1).toNat=k+1:=by omega
      rcases zB k (x.args).length with hlt | hge
      · omega
      · simp (disch:=omega) only [go_sem,Aa,hni]
  · have hz:((x.args.length:Int)=0)=False:=eq_false (by omega)
    have hvv:An x.name=false:=by
      cases h:An x.name with
      | false=>rfl
      | true=>rw [hva h] at h0; simp at h0
    rw [hvv] at hvs
    simp only [cond_false] at hvs
    rw [hvs]
    refine Af Fk Dj (of_decide_eq_true rfl) ?_
    simp (disch:=omega) only [Ec,go_sem,Aa,hz]
    refine go_loop (α:=Int × (List ByteArray)) (fun a=>⟨slots 38 0 [(0,(bif dec (l.length<(a.2).length) then .ref 1 else .ref 0)),(27,.arr (x.args.map Tm.d)),(28,.int .i64 x.args.length),(29,.int .i64 (a.1))],(bif dec (l.length<(a.2).length) then [.gone,.row 9 1 ((a.2).map fun s=>[OT.str s])] else [.row 9 1 ((a.2).map fun s=>[OT.str s])])⟩) (fun a=>∃ k:Nat,a.1=k∧k≤(x.args).length∧Cz (a.2) (Tm.vsL (x.args.drop k))=Cz l (Tm.vsL x.args)∧(a.2).length+Tm.Bi (x.args.drop k)≤1048576∧l.length≤(a.2).length) (fun a=>(x.args).length-(a.1).toNat) (0,l) ⟨0,rfl,zG _,by rw [zL],by rw [zL]; dsimp only; omega,zP _⟩ (by simp (disch:=omega) only [go_sem,Aa]) ?_
    rintro ⟨i,acc⟩ ⟨k,hi,hk,hR⟩
    dsimp only at hi hR
    have hni:i.toNat=k:=by omega
    have hni1:(i+1).toNat=k+1:=by omega
    rcases zB k (x.args).length with hlt | hge
    · have hg:=get_at Tm.d hlt
      rw [Tm.d_eq] at hg
      obtain ⟨hR1,hR2,hR3⟩:=hR
      rw [zH hlt,Tm.vsL,No] at hR1
      rw [zH hlt,Tm.Bi] at hR2
      have hc:=ih x.args[k] (zC hlt) acc (by omega)
      have hlen:=IF x.args[k].vs acc
      have hgr:=Ox x.args[k].vs acc
      have hvl:=Tm.vs_len x.args[k]
      obtain ⟨acc2,ha2⟩:∃ a,a=Cz acc x.args[k].vs:=⟨_,rfl⟩
      rw [←ha2] at hc hlen hgr hR1
      rcases zB l.length acc.length with q1 | q1 <;> rcases zB acc.length acc2.length with q2 | q2
      all_goals
        first
          | rw [At q2] at hc
          | rw [A3 (Nat.not_lt.2 q2)] at hc
        simp only [cond_true,cond_false] at hc
        simp (disch:=omega) only [go_sem,Aa,hni,hg,hc,Dj]
        refine ⟨(i+1,acc2),⟨k+1,by dsimp only; omega,hlt,hR1,by dsimp only; omega,by dsimp only; omega⟩,by dsimp only; omega,?_⟩
        first | done | simp (disch:=omega) only [go_sem,Aa]
    · rw [zI hge,Tm.vsL] at hR
      obtain ⟨hR1,hR2,hR3⟩:=hR
      have hR1:acc=Cz l (Tm.vsL x.args):=hR1
      rw [←hR1]
      rcases zB l.length acc.length with q1 | q1
      · simp (disch:=omega) only [go_sem,Aa,hni]
      · simp (disch:=omega) only [go_sem,Aa,hni]
theorem T7 (x:Tm) (hx:x.names=true) (hc:x.cok=true):Qdv x :=
 Ru x (fun h=>Tm.En hx h) hc fun y hy=>T7 y (Tm.Eo hx hy) (by rw [Tm.Kn,zA] at hc; exact Tm.GV hc.2 hy)
termination_by SizeOf.sizeOf x
decreasing_by exact Tm.Ay hy
theorem Y7 (x:Tm) (h:x.atom=true):Qdv x :=
 Ru x (Tm.FF h).1 (Tm.Hh h) fun y hy=>T7 y ((Tm.FF h).2 y hy) (Tm.I9 y ((Tm.FF h).2 y hy))
noncomputable def Lt.vsL:List Lt→List ByteArray
 | []=>[]
 | x :: xs=>x.atom.vs++Lt.vsL xs
theorem Cl.ok_len {x:Cl} (h:x.ok=true):x.lits.length≤8:=by
 unfold Cl.ok at h
 rw [zA,decide_eq_true_eq] at h
 exact h.1
theorem Cl.Jo {x:Cl} (h:x.ok=true) {k:Nat} (hk:k<x.lits.length):x.lits[k].atom.atom=true:=by
 unfold Cl.ok at h
 rw [zA,decide_eq_true_eq] at h
 exact Or h.2 hk hk
theorem Cl.CR {x:Cl} (h:x.ok=true):∀ y∈x.lits,y.atom.atom=true:=fun y hy=>by
 obtain ⟨k,hk,rfl⟩:=zW hy
 exact Cl.Jo h hk
theorem Cl.vs_len {c:Cl} (hc:c.ok=true):(Lt.vsL c.lits).length≤240:=by
 have hl:=Cl.ok_len hc
 have key:∀ xs:List Lt,(∀ x∈xs,x.atom.nodes≤30)→(Lt.vsL xs).length≤30*xs.length:=by
  intro xs
  induction xs with
  | nil=>intro _; exact zP _
  | cons x xs ih =>
   intro h
   have h1:=h x (by simp)
   have h2:=ih fun y hy=>h y (by simp [hy])
   have h3:=Tm.vs_len x.atom
   rw [Lt.vsL,zU,yA]; omega
 have:=key c.lits fun x hx=>by
  obtain ⟨k,hk,rfl⟩:=zW hx
  exact Tm.CG (Cl.Jo hc hk)
 omega
def K7:SC:=(.seq (.reg [⟨some 1,none,.boxv 28 1 (.t 0)⟩,⟨some 2,none,.mv (.c .nil)⟩]) (.seq (.reg [⟨(some 6),none,(.mkrow 9 1 [(.str ⟨#[]⟩)] 0 [])⟩,⟨some 3,none,.mv (.t 6)⟩]) (.seq (.seq (.reg [⟨some 7,none,.faddr 0 (.t 1)⟩,⟨some 8,none,.load false 1 (.t 7)⟩,⟨some 9,none,.len false (.t 8)⟩,⟨some 10,none,.mv (.c (.int .i64 0))⟩]) (.block 0 (.loop [0,0,0,1,0,0,0,0,1,1,1,0,0,0,0,0,0,0,0,0] (.seq (.reg [⟨some 11,none,.bin .lss false (.t 10) (.t 9)⟩]) (.seq (.cond (.t 11) .skip (.exit 0)) (.seq (.block 1 (.seq (.reg [⟨some 12,none,.iaddr 3 (.t 8) (.t 10)⟩,⟨some 13,none,.load true 3 (.t 12)⟩,⟨(some 5),none,(.alloc 73 [(.bool false),(.str ⟨#[]⟩),.nil])⟩,⟨none,none,(.store 3 (.t 5) (.t 13))⟩]) (.reg [⟨some 14,none,.mv (.t 3)⟩,⟨some 15,none,.faddr 1 (.t 5)⟩,⟨some 16,none,.load true 2 (.t 15)⟩,⟨some 17,none,.call 124 [(.t 14),(.t 16)]⟩,⟨some 3,none,.mv (.t 17)⟩]))) (.reg [⟨some 18,none,.bin .add false (.t 10) (.c (.int .i64 1))⟩,⟨some 10,none,.mv (.t 18)⟩]))))))) (.seq (.reg [⟨some 19,none,.mv (.t 3)⟩,⟨some 2,none,.mv (.t 19)⟩]) .ret))))
theorem Rv:codeOf Tryz.prog 84=some ⟨20,K7,[(.tmp 2)]⟩:=by kernel_rfl
theorem Dk:modes 84=⟨[],.asis,none,false⟩:=by unfold modes; rfl
theorem Oy (c:Cl) (hc:c.ok=true):E 84 [c.sv] []=some (.ref 0,[.row 9 1 ((Cz [] (Lt.vsL c.lits)).map fun s=>[OT.str s])]):=by
  have hl:=Cl.ok_len hc
  refine Af Rv Dk (of_decide_eq_true rfl) ?_
  simp (disch:=omega) only [K7,go_sem,Aa]
  refine go_loop (α:=Int × (List ByteArray)) (fun a=>⟨slots 20 0 [(3,.ref 0),(8,.arr (c.lits.map Lt.d)),(9,.int .i64 c.lits.length),(10,.int .i64 (a.1))],[.row 9 1 ((a.2).map fun s=>[OT.str s])]⟩) (fun a=>∃ k:Nat,a.1=k∧k≤(c.lits).length∧Cz (a.2) (Lt.vsL (c.lits.drop k))=Cz [] (Lt.vsL c.lits)∧(a.2).length≤30*k) (fun a=>(c.lits).length-(a.1).toNat) (0,[]) ⟨0,rfl,zG _,by rw [zL],zP _⟩ (by simp (disch:=omega) only [go_sem,Aa]) ?_
  rintro ⟨i,acc⟩ ⟨k,hi,hk,hR⟩
  dsimp only at hi hR
  have hni:i.toNat=k:=by omega
  have hni1:(i+1).toNat=k+1:=by omega
  rcases zB k (c.lits).length with hlt | hge
  · have hg:=get_at Lt.d hlt
    rw [Lt.d_eq] at hg
    obtain ⟨hR1,hR2⟩:=hR
    rw [zH hlt,Lt.vsL,No] at hR1
    have hnn:=Tm.CG (Cl.Jo hc hlt)
    have hcl:=Y7 c.lits[k].atom (Cl.Jo hc hlt) acc (by omega)
    have has:c.lits[k].atom.sv=.agg [.str c.lits[k].atom.name,.arr (c.lits[k].atom.args.map Tm.d)]:=rfl
    have hlen:=IF c.lits[k].atom.vs acc
    have hvl:=Tm.vs_len c.lits[k].atom
    obtain ⟨acc2,ha2⟩:∃ a,a=Cz acc c.lits[k].atom.vs:=⟨_,rfl⟩
    rw [←ha2] at hcl hlen hR1
    rcases zB acc.length acc2.length with q2 | q2
    all_goals
      first
        | rw [At q2] at hcl
        | rw [A3 (Nat.not_lt.2 q2)] at hcl
      simp only [cond_true,cond_false] at hcl
      simp (disch:=omega) only [go_sem,Aa,hni,hg,has,hcl,Dj]
      refine ⟨(i+1,acc2),⟨k+1,by dsimp only; omega,hlt,hR1,by dsimp only; omega⟩,by dsimp only; omega,?_⟩
      first | trivial | rfl | exact ⟨rfl,rfl⟩
  · rw [zI hge,Lt.vsL] at hR
    obtain ⟨hR1,hR2⟩:=hR
    have hR1:acc=_:=hR1
    rw [←hR1]
    simp (disch:=omega) only [go_sem,Aa,hni]
theorem QaG (s:Sb) (hs:s.ok=true) (ht:s.tame) (l:List Lt) (hl:l.length≤1048576) (hal:∀ x∈l,x.atom.atom=true):E 79 [s.sv,.arr (l.map Lt.d)] []=some (.tup [(apC s l).sv,.bool (Ev s l)],[]):=by
  have her:OT.erss (l.map (fun x:Lt=>(Lt.ap s x).d.map D.ot))=(l.map (Lt.ap s)).map Lt.d:=by
    have:=Lt.der (l.map (Lt.ap s))
    rw [yN] at this
    exact this
  have hfu:OT.AL (l.map (fun x:Lt=>(Lt.ap s x).d.map D.ot))=true:=by
    have:=Lt.dfu (l.map (Lt.ap s))
    rw [yN] at this
    exact this
  refine Af Rr Fj (of_decide_eq_true rfl) ?_
  simp (disch:=omega) only [K6,go_sem,Aa]
  refine go_loop (α:=Int) (fun a=>⟨slots 45 0 [(1,.arr (l.map Lt.d)),(2,.ptr 0 0),(4,.ptr 1 0),(6,.ref 2),(7,.int .i64 a)],[.box 76 [.arr (s.binds.map Bd.d)],.box 28 [.nil],.row 73 3 ((l.take a.toNat).map (fun x:Lt=>(Lt.ap s x).d.map D.ot))]⟩) (fun a=>∃ k:Nat,a=k∧k≤(l).length∧∀ x∈l.take k,(x.atom.ap s.look).small=true) (fun a=>(l).length-(a).toNat) 0 ⟨0,rfl,zG _,fun x hx=>by simp at hx⟩ (by simp (disch:=omega) only [go_sem,Aa,yM]) ?_
  rintro i ⟨k,hi,hk,hR⟩
  have hni:i.toNat=k:=by omega
  have hni1:(i+1).toNat=k+1:=by omega
  rcases zB k (l).length with hlt | hge
  · have hg:=get_at Lt.d hlt
    rw [Lt.d_eq] at hg
    have hat:=hal l[k] (zC hlt)
    have hsn:=D8 (fun x:Lt=>(Lt.ap s x).d.map D.ot) hlt
    have hs1:[[OT.bool l[k].pos,.str (l[k].atom.ap s.look).name,.sh ((l[k].atom.ap s.look).args.map Tm.d)]]=[(fun x:Lt=>(Lt.ap s x).d.map D.ot) l[k]]:=by simp only [Lt.d_eq]; rfl
    have htl:(l.take k).length=k:=by rw [zO]; omega
    have hnd:=Tm.CG hat
    have ha:=Ou s hs ht l[k].atom (by omega)
    have hap:=Tm.IE (Sb.Fg hs) l[k].atom
    have hb:=Ra (l[k].atom.ap s.look) (by omega)
    rw [Tm.ZI (Sb.Fg hs) _ hat] at hb
    cases hq:(l[k].atom.ap s.look).small with
    | true =>
      rw [hq] at hb
      simp (disch:=omega) only [go_sem,Aa,hni,hg,ha,hb,htl,AE,AR,CW,B3]
      refine ⟨i+1,⟨k+1,by omega,hlt,fun x hx=>?_⟩,by omega,?_⟩
      · rcases yV.1 (by rw [yF hlt] at hx; exact hx) with hx | hx
        · exact hR x hx
        · rw [yX.1 hx]; exact hq
      · simp (disch:=omega) only [go_sem,Aa,hni1,hs1,hsn,and_self]
    | false =>
      rw [hq] at hb
      have hno:Ev s l=false:=by
        unfold Ev Rs
        rw [show (l.all fun x=>(x.atom.ap s.look).small)=false from ?_,yL]
        rw [List.all_eq_false]
        exact ⟨l[k],zC hlt,by rw [hq]; simp⟩
      rw [Ow hno,hno,W3]
      simp (disch:=omega) only [go_sem,Aa,hni,hg,ha,hb,AE,AR,CW,B3]
  · obtain rfl:k=l.length:=by omega
    have htk:l.take l.length=l:=zQ
    rw [htk] at hR
    have hal2:Rs s l=true:=by unfold Rs; rw [zN]; exact hR
    have hfine:∀ x∈l.map (Lt.ap s),x.fine:=fun x hx=>by
      obtain ⟨y,hy,rfl⟩:=yI.1 hx
      exact Lt.ZJ hs (hal y hy) (hR y hy)
    have hlen:(l.map (Lt.ap s)).length≤1048576:=by rw [zE]; exact hl
    have hc:=Ri (l.map (Lt.ap s)) hlen hfine
    have hgd:=Rd (mkC (l.map (Lt.ap s))) (W2 hlen hfine)
    cases hv:(mkC (l.map (Lt.ap s))).ok with
    | true =>
      have hok:Ev s l=true:=by unfold Ev; rw [hal2,hv]; rfl
      rw [hv] at hgd
      rw [PK hok,hok]
      simp (disch:=omega) only [go_sem,Aa,hni,htk,hc,hgd,her,hfu,AE,AR,CW,B3]
    | false =>
      have hok:Ev s l=false:=by unfold Ev; rw [hv,zM]
      rw [hv] at hgd
      rw [Ow hok,hok,W3]
      simp (disch:=omega) only [go_sem,Aa,hni,htk,hc,hgd,her,hfu,AE,AR,CW,B3]
abbrev SEnv:=ByteArray→Option ByteArray
def ET (e:SEnv):MF
  | .str s=>match e s with
    | some n=>some (false,[.str n])
    | none=>none
  | .int _=>none
theorem Lp (e:SEnv) (s:ByteArray):ET e (.str s)=match e s with | some n=>some (false,[.str n]) | none=>none:=rfl
noncomputable def QaH (e:SEnv) (s n:ByteArray):SEnv:=fun q=>bif dec (q=s) then some n else e q
theorem T8 (e:SEnv) (s n:ByteArray):NI (ET e) (.str s) (false,[.str n])=ET (QaH e s n):=by
 funext k
 cases k with
 | int i=>rw [IX (fun h=>by cases h)]; rfl
 | str q =>
  rw [Qn,Lp,Lp]
  unfold QaH
  cases dec (q=s) <;> rfl
theorem Y8:ET (fun _=>none)=nomap:=by
 funext k
 cases k <;> rfl
mutual
noncomputable def Tm.rn (e:SEnv):Tm→Tm
 | .mk n args=>.mk (bif args.isEmpty then (e n).getD n else n) (Tm.rnL e args)
noncomputable def Tm.rnL (e:SEnv):List Tm→List Tm
 | []=>[]
 | x :: xs=>Tm.rn e x :: Tm.rnL e xs
end
theorem Tm.ZL (e:SEnv):∀ xs:List Tm,Tm.rnL e xs=xs.map (Tm.rn e)
 | []=>by rw [Tm.rnL]; rfl
 | x :: xs=>by rw [Tm.rnL,Tm.ZL e xs]; rfl
theorem Tm.Rw (e:SEnv) (x:Tm):x.rn e=.mk (bif x.args.isEmpty then (e x.name).getD x.name else x.name) (x.args.map (Tm.rn e)):=by
 obtain ⟨n,args⟩:=x
 rw [Tm.rn,Tm.ZL]; rfl
theorem Tm.W6 (e:SEnv) (x:Tm):(x.rn e).nodes=x.nodes:=by
 have key:∀ xs:List Tm,(∀ y∈xs,(y.rn e).nodes=y.nodes)→Tm.Bi (xs.map (Tm.rn e))=Tm.Bi xs:=by
  intro xs
  induction xs with
  | nil=>intro _; rfl
  | cons y ys ih =>
   intro h
   rw [zJ,Tm.Bi,Tm.Bi,h y (by simp),ih fun z hz=>h z (by simp [hz])]
 rw [Tm.Rw,Tm.Ao,Tm.Ao]
 show 1+Tm.Bi (x.args.map (Tm.rn e))=_
 rw [key x.args fun y hy=>Tm.W6 e y]
termination_by SizeOf.sizeOf x
decreasing_by exact Tm.Ay hy
theorem Y9 {n:Int} (h0:0≤n) (h:n<10):EX n=⟨#[UInt8.ofNat (48+n.toNat)]⟩:=by
 obtain ⟨u,rfl⟩:∃ u:Nat,n=u:=⟨n.toNat,by omega⟩
 unfold EX
 rw [Lib.itoa_nonneg,Lib.decDigits,dif_pos (by omega)]
 rfl
theorem Qcb {n:Int} (h:10≤n):EX n=EX (n.tdiv 10)++⟨#[UInt8.ofNat (48+(n.tmod 10).toNat)]⟩:=by
 obtain ⟨u,rfl⟩:∃ u:Nat,n=u:=⟨n.toNat,by omega⟩
 have e1:(u:Int).tdiv 10=((u / 10:Nat):Int):=by rw [zV (by omega)]; rfl
 have e2:((u:Int).tmod 10).toNat=u % 10:=by rw [yY (by omega)]; omega
 rw [e1,e2]
 unfold EX
 rw [Lib.itoa_nonneg,Lib.itoa_nonneg,Lib.decDigits,dif_neg (by omega)]
 have key:∀ (x:List UInt8) (y:UInt8),(⟨(x++[y]).toArray⟩:ByteArray)=⟨x.toArray⟩++⟨#[y]⟩:=fun x y=>by
  have e:∀ a b:ByteArray,a.data=b.data→a=b:=fun a b h=>by cases a; cases b; cases h; rfl
  apply e
  simp
 exact key _ _
def pre (p:ByteArray) (n:Int):ByteArray:=p++EX n
theorem Fl:modes 85=⟨[],.asis,some (Me Tu),false⟩:=by unfold modes; rfl
theorem Qcc (n:Int) (h0:0≤n) (h1:n≤1099511627776):E 85 [.int .i64 n] []=some (.str (EX n),[]) :=
 We (g:=Tu) (congrArg FM.ext Fl) (by simp only [Tu,At (⟨h0,h1⟩:0≤n∧n≤1099511627776),cond_true])
noncomputable def Cl.ns (c:Cl):List ByteArray:=Cz [] (Lt.vsL c.lits)
def Ly:ByteArray:=⟨#[88]⟩
def Gf:ByteArray:=⟨#[89]⟩
theorem Cl.Mr {c:Cl} (h:c.ok=true):c.ns.length≤240:=by
 have h1:=IF (Lt.vsL c.lits) []
 have h2:=Cl.vs_len h
 unfold Cl.ns
 simp only [zX] at h1
 omega
theorem Cl.ns_nodup (c:Cl):c.ns.Nodup:=Rt List.nodup_nil
theorem Lt.vsL_mem {v:ByteArray}:∀ {xs:List Lt},v∈Lt.vsL xs ↔ ∃ x∈xs,v∈x.atom.vs
 | []=>by simp [Lt.vsL]
 | x :: xs=>by rw [Lt.vsL,yV,Lt.vsL_mem (xs:=xs)]; simp
theorem Cl.Qcd {c:Cl} {v:ByteArray}:v∈c.ns ↔ ∃ x∈c.lits,v∈x.atom.vs:=by
 unfold Cl.ns
 rw [W4,Lt.vsL_mem]
 simp
noncomputable def Dl (p:ByteArray) (l:List ByteArray):SEnv:=l.zipIdx.foldl (fun e x=>QaH e x.1 (pre p (x.2:Nat))) fun _=>none
theorem Lr (p:ByteArray) {l:List ByteArray} {k:Nat} (h:k<l.length):Dl p (l.take (k+1))=QaH (Dl p (l.take k)) l[k] (pre p (k:Nat)):=by
 unfold Dl
 rw [←List.take_append_getElem h,List.zipIdx_append,y3]
 have e:(l.take k).length=k:=by rw [zO]; omega
 simp only [List.zipIdx_cons,List.zipIdx_nil,z7,y7,e,Nat.zero_add]
theorem ZM (p:ByteArray) {l:List ByteArray} (hn:l.Nodup):∀ (n k:Nat) (hk:k<l.length),n≤l.length→k<n→Dl p (l.take n) l[k]=some (pre p (k:Nat))
  | 0,k,hk,_,h=>absurd h (by omega)
  | n + 1,k,hk,hl,h=>by
    rw [Lr p (by omega:n<l.length)]
    unfold QaH
    by_cases e:k=n
    · subst e
      rw [At rfl,cond_true]
    · have hne:l[k]≠l[n]:=fun he=>e ((List.getElem_inj hn).1 he)
      rw [A3 hne,cond_false]
      exact ZM p hn n k hk (by omega) (by omega)
theorem Rx (p:ByteArray) {l:List ByteArray} (hn:l.Nodup) {k:Nat} (hk:k<l.length):Dl p l l[k]=some (pre p (k:Nat)):=by
 have h:=ZM p hn l.length k hk (zP _) hk
 rw [zQ] at h
 exact h
theorem W7 (p:ByteArray) {l:List ByteArray} {q:ByteArray} (hq:q ∉ l):∀ n,n≤l.length→Dl p (l.take n) q=none
 | 0,_=>by rw [zZ]; rfl
 | n+1,h=>by
  rw [Lr p (by omega:n<l.length)]
  unfold QaH
  rw [A3 (show ¬ q=l[n] from fun e=>hq (by rw [e]; exact zC _)),cond_false]
  exact W7 p hq n (by omega)
theorem Oz (p:ByteArray) {l:List ByteArray} {q:ByteArray} (hq:q ∉ l):Dl p l q=none:=by
 have h:=W7 p hq l.length (zP _)
 rw [zQ] at h
 exact h
def Np (e:SEnv):Prop:=∀ s n,e s=some n→An s=true∧An n=true
theorem Qce:∀ i:_root_.Fin 300,An (pre Ly (i.val:Nat))=true:=by decide +kernel
theorem Qcf:∀ i:_root_.Fin 300,An (pre Gf (i.val:Nat))=true:=by decide +kernel
theorem T9 {p:ByteArray} (hp:∀ i:_root_.Fin 300,An (pre p (i.val:Nat))=true) {l:List ByteArray} (hn:l.Nodup) (hl:l.length≤240) (hv:∀ s∈l,An s=true):Np (Dl p l):=fun s n h=>by
 by_cases hs:s∈l
 ·obtain ⟨k,hk,rfl⟩:=zW hs
  rw [Rx p hn hk] at h
  obtain rfl:=yP h
  exact ⟨hv _ hs,hp ⟨k,by omega⟩⟩
 ·rw [Oz p hs] at h
  cases h
theorem Tm.Qcg {v:ByteArray}:∀ x:Tm,v∈x.vs→An v=true
 | .mk n a=>fun h=>by
  rw [Tm.vs] at h
  cases hv:An n with
  | true =>
   rw [hv,cond_true,yX] at h
   subst h; exact hv
  | false =>
   rw [hv,cond_false,Tm.vsL_mem] at h
   obtain ⟨y,hy,h⟩:=h
   exact Tm.Qcg y h
termination_by x=>SizeOf.sizeOf x
decreasing_by exact Tm.Ay (x:=.mk n a) hy
theorem Cl.YA {c:Cl} {s:ByteArray} (h:s∈c.ns):An s=true:=by
 obtain ⟨x,_,h⟩:=Cl.Qcd.1 h
 exact Tm.Qcg _ h
theorem Tm.LJ (e:SEnv) (x:Tm):(x.rn e).name=(bif x.args.isEmpty then (e x.name).getD x.name else x.name)∧(x.rn e).args=x.args.map (Tm.rn e):=by
 rw [Tm.Rw]; exact ⟨rfl,rfl⟩
theorem TA {e:SEnv} {xs:List Tm} (h:∀ y∈xs,(y.rn e).names=true):Tm.DS (xs.map (Tm.rn e))=true:=by
 rw [Tm.Di,zN]
 intro z hz
 obtain ⟨y,hy,rfl⟩:=yI.1 hz
 exact h y hy
theorem Tm.Jp {e:SEnv} (he:Np e) (x:Tm) (hv:An x.name=false):(x.rn e).name=x.name:=by
 rw [(Tm.LJ e x).1]
 cases hx:e x.name with
 | none=>cases x.args.isEmpty <;> rfl
 | some n =>
  have:=(he _ _ hx).1
  rw [hv] at this; cases this
theorem Tm.Ry {e:SEnv} (he:Np e) (x:Tm) (h:x.names=true):(x.rn e).names=true:=by
 have h1:=Tm.LJ e x
 rw [Tm.Gb] at h ⊢
 rw [h1.2,zE]
 cases hv:An x.name with
 | true =>
  rw [hv,if_pos rfl] at h
  have h0:x.args=[]:=zD (by simpa using h)
  have hn:An (x.rn e).name=true:=by
   rw [h1.1,h0]
   show An ((e x.name).getD x.name)=true
   cases hx:e x.name with
   | none=>exact hv
   | some n=>exact (he _ _ hx).2
  rw [hn,if_pos rfl]
  exact h
 | false =>
  rw [hv,if_neg (by simp)] at h
  rw [Tm.Jp he x hv,hv,if_neg (by simp)]
  rw [zA] at h ⊢
  refine ⟨h.1,TA fun y hy=>Tm.Ry he y ?_⟩
  have h2:=h.2
  rw [Tm.Di,zN] at h2
  exact h2 y hy
termination_by SizeOf.sizeOf x
decreasing_by exact Tm.Ay hy
theorem Tm.ZN (e:SEnv) (x:Tm):(x.rn e).deep=x.deep:=by
 have key:∀ xs:List Tm,(∀ y∈xs,(y.rn e).deep=y.deep)→Tm.Eu (xs.map (Tm.rn e))=Tm.Eu xs:=by
  intro xs
  induction xs with
  | nil=>intro _; rfl
  | cons y ys ih =>
   intro h
   rw [zJ,Tm.Eu,Tm.Eu,h y (by simp),ih fun z hz=>h z (by simp [hz])]
 rw [Tm.Rw,Tm.Ll,Tm.Ll]
 show Tm.Eu (x.args.map (Tm.rn e))+1=_
 rw [key x.args fun y hy=>Tm.ZN e y]
termination_by SizeOf.sizeOf x
decreasing_by exact Tm.Ay hy
theorem Tm.W8 (e:SEnv) (x:Tm):(x.rn e).small=x.small:=by
 unfold Tm.small
 rw [Tm.W6,Tm.ZN]
theorem Tm.Qdw {e:SEnv} (he:Np e) (x:Tm) (h:x.atom=true):(x.rn e).atom=true:=by
 have hv:An x.name=false:=by
  unfold Tm.atom at h
  split at h
  ·rename_i hq
   have:x.name=⟨#[61]⟩:=Ar.1 hq
   rw [this]; decide +kernel
  ·rw [zA] at h
   exact Ov h.1
 have hn:=Tm.Jp he x hv
 have hq:(x.rn e).eqn=x.eqn:=by unfold Tm.eqn; rw [hn]
 unfold Tm.atom at h ⊢
 rw [hq,hn,Tm.W8,(Tm.LJ e x).2,zE]
 split at h
 ·rename_i hb
  rw [if_pos hb]
  rw [zA] at h ⊢
  refine ⟨h.1,TA fun y hy=>Tm.Ry he y ?_⟩
  have h2:=h.2
  rw [Tm.Di,zN] at h2
  exact h2 y hy
 ·rename_i hb
  rw [if_neg hb]
  rw [zA] at h ⊢
  refine ⟨h.1,?_⟩
  have h2:=h.2
  unfold Tm.valid at h2 ⊢
  rw [zA] at h2 ⊢
  exact ⟨by rw [Tm.W8]; exact h2.1,Tm.Ry he x h2.2⟩
noncomputable def Lt.rn (e:SEnv) (x:Lt):Lt:=⟨x.pos,x.atom.rn e⟩
noncomputable def Cl.rn (e:SEnv) (c:Cl):Cl:=mkC (c.lits.map (Lt.rn e))
theorem O0 {x:Lt} (h:x.atom.atom=true):x.fine:=⟨Tm.Hh h,by have:=Tm.CG h; omega⟩
theorem O1 {xs:List Lt}:∀ {k:Nat},GA xs k=true→k≤xs.length→∀ (j:Nat) (h:j+1<k) (hl:j+1<xs.length),(xs[j]'(by omega)).cmp xs[j+1]<0
  | 0,_,_,j,h,_=>absurd h (by omega)
  | k + 1,hk,hle,j,h,hl=>by
    rw [GA,zA] at hk
    rcases zB (j+1) k with h1 | h1
    · exact O1 hk.1 (by omega) j h1 hl
    · obtain rfl:k=j+1:=by omega
      have h2:=hk.2
      rw [El hl,zA,decide_eq_true_eq] at h2
      exact h2.2
theorem W9 {xs:List Lt} (h:GA xs xs.length=true):CP xs:=by
 unfold CP
 rw [yO]
 intro i j hi hj hij
 obtain ⟨d,rfl⟩:∃ d,j=i+1+d:=⟨j-(i+1),by omega⟩
 clear hij
 induction d with
 | zero=>exact O1 h (zP _) i hj hj
 | succ d ih =>
  have h1:=ih (by omega)
  have h2:=O1 h (zP _) (i+1+d) hj hj
  exact (Lt.cmp_ord _ _ _).trans h1 h2
theorem WA {xs:List Lt} (h2:∀ x∈xs,x.atom.atom=true) (h3:CP xs):GA xs xs.length=true:=by
  have key:∀ k,k≤xs.length→GA xs k=true:=by
    intro k
    induction k with
    | zero=>intro _; rfl
    | succ k ih =>
      intro hk
      rw [GA,ih (by omega),yG]
      cases k with
      | zero=>rw [GG (by omega)]; exact h2 _ (zC _)
      | succ k =>
        rw [El (by omega),h2 _ (zC _),yG,decide_eq_true_eq]
        exact yO.1 h3 k (k+1) (by omega) (by omega) (by omega)
  exact key _ (zP _)
theorem Cl.TB {c:Cl} (h:c.ok=true):CP c.lits:=by
 unfold Cl.ok at h
 rw [zA] at h
 exact W9 h.2
theorem Cl.Qe4 {l:List Lt} (h1:l.length≤8) (h2:∀ x∈l,x.atom.atom=true) (h3:CP l):(Cl.mk l).ok=true:=by
 unfold Cl.ok
 rw [zA,decide_eq_true_eq]
 exact ⟨h1,WA h2 h3⟩
theorem Qef {l:List Lt} (h1:l.length≤8) (h2:∀ x∈l,x.atom.atom=true):(mkC l).ok=true :=
 Cl.Qe4 (Nat.le_trans (ZA l) h1) (fun x hx=>h2 x ((PH l x).1 hx)) (Mp l)
theorem WB {l:List Lt} (h:CP l):mkC l=⟨l⟩:=by
 have:(mkC l).lits=l:=Jg (Mp l) h fun z=>PH l z
 exact congrArg Cl.mk this
theorem Lt.Rz {e:SEnv} (he:Np e) {l:List Lt} (h:∀ x∈l,x.atom.atom=true):∀ x∈l.map (Lt.rn e),x.atom.atom=true:=fun z hz=>by
 obtain ⟨x,hx,rfl⟩:=yI.1 hz
 exact Tm.Qdw he _ (h x hx)
theorem Cl.ZO {e:SEnv} (he:Np e) {c:Cl} (h:c.ok=true):(c.rn e).ok=true :=
 Qef (by rw [zE]; exact Cl.ok_len h) (Lt.Rz he (Cl.CR h))
theorem Cl.xE {c:Cl} (h:c.ok=true):Np (Dl Ly c.ns):=T9 Qce c.ns_nodup (Cl.Mr h) fun s=>Cl.YA
theorem Cl.yE {c:Cl} (h:c.ok=true):Np (Dl Gf c.ns):=T9 Qcf c.ns_nodup (Cl.Mr h) fun s=>Cl.YA
def Nq (l:List ByteArray):Prop:=∀ (i:Nat) (h:i<l.length),l[i]=pre Ly (i:Nat)
noncomputable def Cl.norm (c:Cl):Bool:=dec (Nq c.ns)
noncomputable def nz:Nat→Cl→Cl
 | 0,c=>c
 | n+1,c=>bif c.norm then c else nz n (c.rn (Dl Ly c.ns))
theorem Qch:∀ (n:Nat) {c:Cl},c.ok=true→(nz n c).ok=true
 | 0,c,h=>h
 | n+1,c,h=>by
  rw [nz]
  cases c.norm with
  | true=>exact h
  | false=>exact Qch n (Cl.ZO (Cl.xE h) h)
def Fn:SC:=(.seq (.reg [⟨some 2,none,.boxv 71 2 (.t 0)⟩,⟨(some 4),none,(.alloc 71 [(.str ⟨#[]⟩),.nil])⟩]) (.seq (.reg [⟨some 10,none,.faddr 0 (.t 2)⟩,⟨some 11,none,.load false 1 (.t 10)⟩,⟨(some 12),none,(.build [(.str ⟨#[]⟩),.nil] [(0,(1,(.t 11)))])⟩,⟨(some 5),none,(.alloc 71 [(.str ⟨#[]⟩),.nil])⟩,⟨none,none,(.store 2 (.t 5) (.t 12))⟩]) (.seq (.seq (.reg [⟨some 14,none,.mv (.t 1)⟩,⟨some 15,none,.faddr 0 (.t 2)⟩,⟨some 16,none,.load false 1 (.t 15)⟩,⟨(some 17),none,(.mget true true false [(.str ⟨#[]⟩)] (.t 14) (.t 16))⟩,⟨some 13,none,.mv (.t 17)⟩,⟨some 18,none,.ext (.t 13) 0⟩,⟨some 19,none,.ext (.t 13) 1⟩,⟨some 6,none,.mv (.t 18)⟩,⟨some 7,none,.mv (.t 19)⟩]) (.seq (.reg [⟨some 20,none,.mv (.t 7)⟩,⟨some 21,none,.mv (.t 20)⟩,⟨(some 22),(some (21,true)),(.faddr 1 (.t 2))⟩,⟨(some 23),(some (21,true)),(.load false 1 (.t 22))⟩,⟨(some 24),(some (21,true)),(.len false (.t 23))⟩,⟨(some 25),(some (21,true)),(.bin .eql false (.t 24) (.c (.int .i64 0)))⟩,⟨some 26,none,.pick (.t 21) (.t 25) (.c (.bool false))⟩]) (.cond (.t 26) (.reg [⟨some 27,none,.mv (.t 6)⟩,⟨some 28,none,.faddr 0 (.t 5)⟩,⟨none,none,(.store 1 (.t 28) (.t 27))⟩]) .skip))) (.seq (.seq (.reg [⟨some 29,none,.faddr 1 (.t 2)⟩,⟨some 30,none,.load false 1 (.t 29)⟩,⟨some 31,none,.len false (.t 30)⟩,⟨some 32,none,.mv (.c (.int .i64 0))⟩]) (.block 0 (.loop [0,1,0,0,1,1,0,0,0,0,0,0,0,0,0,0,0,0,0,0,0,0,0,0,0,0,0,0,0,0,1,1,1,0,0,0,0,0,0,0,0,0,0,0,0,0] (.seq (.reg [⟨some 33,none,.bin .lss false (.t 32) (.t 31)⟩]) (.seq (.cond (.t 33) .skip (.exit 0)) (.seq (.block 1 (.seq (.reg [⟨some 34,none,.iaddr 2 (.t 30) (.t 32)⟩,⟨some 35,none,.load true 2 (.t 34)⟩,⟨(some 9),none,(.alloc 71 [(.str ⟨#[]⟩),.nil])⟩,⟨none,none,(.store 2 (.t 9) (.t 35))⟩]) (.dreg [[],[0],[],[],[2,3],[4,2,3],[1,0,5,4,2,3],[0,1,2,3,4,5,6],[7,0,1,2,3,4,5,6]] [⟨some 36,none,.faddr 1 (.t 5)⟩,⟨some 37,none,.load false 1 (.t 36)⟩,⟨some 38,none,.load true 2 (.t 9)⟩,⟨some 39,none,.mv (.t 1)⟩,⟨some 40,none,.call 143 [(.t 38),(.t 39)]⟩,⟨(some 41),none,(.mkrow 71 2 [(.str ⟨#[]⟩),.nil] 1 [(0,(.t 40))])⟩,⟨(some 42),none,(.append 71 2 40 [(.str ⟨#[]⟩),.nil] (.t 37) (.t 41))⟩,⟨some 43,none,.faddr 1 (.t 5)⟩,⟨none,none,(.store 1 (.t 43) (.t 42))⟩]))) (.reg [⟨some 44,none,.bin .add false (.t 32) (.c (.int .i64 1))⟩,⟨some 32,none,.mv (.t 44)⟩]))))))) (.seq (.reg [⟨some 45,none,.load true 2 (.t 5)⟩,⟨none,none,(.store 2 (.t 4) (.t 45))⟩]) .ret)))))
theorem Hp:codeOf Tryz.prog 143=some ⟨46,Fn,[(.cell 4 true 2)]⟩:=by kernel_rfl
theorem B5:modes 143=⟨[],.own [none,some (71,2)],none,false⟩:=by unfold modes; rfl
abbrev RnC (e:SEnv) (x:Tm):Prop:=E 143 [x.sv,.mp true (ET e)] []=some ((x.rn e).osv,(x.rn e).obs)
theorem YB (e:SEnv) (x:Tm) (hn:x.args.length≤1099511627776) (ih:∀ y∈x.args,RnC e y):RnC e x:=by
  unfold RnC
  obtain ⟨nm,hnm⟩:∃ nm,nm=bif x.args.isEmpty then (e x.name).getD x.name else x.name:=⟨_,rfl⟩
  have e0:x.rn e=.mk nm (x.args.map (Tm.rn e)):=by rw [Tm.Rw,hnm]
  have e1:(Tm.mk nm (x.args.map (Tm.rn e))).osv=.agg [.str nm,.ref 0]:=rfl
  have e2:(Tm.mk nm (x.args.map (Tm.rn e))).obs=[.row 71 2 ((x.args.map (Tm.rn e)).map Tm.o)]:=rfl
  rw [e0,e1,e2]
  have h10:((1:Int)=0)=False:=by simp
  cases he:e x.name with
  | none =>
    have hme:ET e (.str x.name)=none:=by rw [Lp,he]
    have hnn:nm=x.name:=by
      rw [hnm,he]
      cases x.args.isEmpty <;> rfl
    rw [hnn]
    clear hnm e0 e1 e2 hnn nm
    obtain ⟨nm,hnm⟩:∃ nm,nm=x.name:=⟨_,rfl⟩
    rw [←hnm] at hme ⊢
    refine Af Hp B5 (of_decide_eq_true rfl) ?_
    simp (disch:=omega) only [Fn,go_sem,Aa,hme,← hnm]
    refine go_loop (α:=Int) (fun a=>⟨slots 46 0 [(1,.mp true (ET e)),(4,.ptr 0 0),(5,.ptr 1 0),(30,.arr (x.args.map Tm.d)),(31,.int .i64 x.args.length),(32,.int .i64 a)],(if a=0 then [.box 71 [.str ⟨#[]⟩,.nil],.box 71 [.str nm,.nil]] else [.box 71 [.str ⟨#[]⟩,.nil],.box 71 [.str nm,.ref 2],.row 71 2 (((x.args.map (Tm.rn e)).take a.toNat).map Tm.o)])⟩) (fun a=>∃ k:Nat,a=k∧k≤(x.args).length) (fun a=>(x.args).length-(a).toNat) 0 ⟨0,rfl,zG _⟩ (by simp (disch:=omega) only [go_sem,Aa,eq_self,if_true]) ?_
    rintro i ⟨k,hi,hk⟩
    have hni:i.toNat=k:=by omega
    have hni1:(i+1).toNat=k+1:=by omega
    rcases zB k (x.args).length with hlt | hge
    · have hg:=get_at Tm.d hlt
      rw [Tm.d_eq] at hg
      have hc:=ih x.args[k] (zC hlt)
      have hlm:k<(x.args.map (Tm.rn e)).length:=by rw [zE]; exact hlt
      have hs:=D8 Tm.o hlm
      rw [Tm.o_eq,yC] at hs
      rcases zF k with h0 | h0
      · subst h0
        obtain rfl:i=0:=hi
        rw [zZ,zK,zT] at hs
        simp (disch:=omega) only [go_sem,Aa,hni,hg,hc,Tm.osv,Tm.obs,B5,eq_self,if_true]
        refine ⟨1,⟨1,rfl,hlt⟩,by omega,?_⟩
        simp (disch:=omega) only [go_sem,Aa,h10,if_false,hs]
      · have hi0:(i=0)=False:=by simp; omega
        have hi1:(i+1=0)=False:=by simp; omega
        have htl:((x.args.map (Tm.rn e)).take k).length=k:=by rw [zO,zE]; omega
        simp (disch:=omega) only [go_sem,Aa,hni,hg,hc,Tm.osv,Tm.obs,B5,hi0,if_false,htl]
        refine ⟨i+1,⟨k+1,by omega,hlt⟩,by omega,?_⟩
        simp (disch:=omega) only [go_sem,Aa,hni1,hi1,if_false,hs]
    · obtain rfl:k=x.args.length:=by omega
      have ht:(x.args.map (Tm.rn e)).take x.args.length=x.args.map (Tm.rn e):=by rw [←zE (f:=Tm.rn e)]; exact zQ
      rcases zF x.args.length with h0 | h0
      · have hx:x.args=[]:=zD h0
        obtain rfl:i=0:=by omega
        first | omega | simp (disch:=omega) only [go_sem,Aa,hni,hx,eq_self,if_true,zK,zX]
      · have hi0:(i=0)=False:=by simp; omega
        first | omega | simp (disch:=omega) only [go_sem,Aa,hni,hi0,if_false,ht]
  | some v =>
    have hme:ET e (.str x.name)=some (false,[.str v]):=by rw [Lp,he]
    rcases zF x.args.length with hz | hz
    · have hx:x.args=[]:=zD hz
      have hz0:((x.args.length:Int)=0)=True:=by rw [hx]; simp
      have hnn:nm=v:=by rw [hnm,he,hx]; rfl
      rw [hnn]
      clear hnm e0 e1 e2 hnn nm
      obtain ⟨nm,hnm⟩:∃ nm,nm=v:=⟨_,rfl⟩
      rw [←hnm] at hme ⊢
      refine Af Hp B5 (of_decide_eq_true rfl) ?_
      simp (disch:=omega) only [Fn,go_sem,Aa,hme,hz0,QbM]
      refine go_loop (α:=Int) (fun a=>⟨slots 46 0 [(1,.mp true (ET e)),(4,.ptr 0 0),(5,.ptr 1 0),(30,.arr (x.args.map Tm.d)),(31,.int .i64 x.args.length),(32,.int .i64 a)],(if a=0 then [.box 71 [.str ⟨#[]⟩,.nil],.box 71 [.str nm,.nil]] else [.box 71 [.str ⟨#[]⟩,.nil],.box 71 [.str nm,.ref 2],.row 71 2 (((x.args.map (Tm.rn e)).take a.toNat).map Tm.o)])⟩) (fun a=>∃ k:Nat,a=k∧k≤(x.args).length) (fun a=>(x.args).length-(a).toNat) 0 ⟨0,rfl,zG _⟩ (by simp (disch:=omega) only [go_sem,Aa,eq_self,if_true]) ?_
      rintro i ⟨k,hi,hk⟩
      have hni:i.toNat=k:=by omega
      have hni1:(i+1).toNat=k+1:=by omega
      rcases zB k (x.args).length with hlt | hge
      · have hg:=get_at Tm.d hlt
        rw [Tm.d_eq] at hg
        have hc:=ih x.args[k] (zC hlt)
        have hlm:k<(x.args.map (Tm.rn e)).length:=by rw [zE]; exact hlt
        have hs:=D8 Tm.o hlm
        rw [Tm.o_eq,yC] at hs
        rcases zF k with h0 | h0
        · subst h0
          obtain rfl:i=0:=hi
          rw [zZ,zK,zT] at hs
          simp (disch:=omega) only [go_sem,Aa,hni,hg,hc,Tm.osv,Tm.obs,B5,eq_self,if_true]
          refine ⟨1,⟨1,rfl,hlt⟩,by omega,?_⟩
          simp (disch:=omega) only [go_sem,Aa,h10,if_false,hs]
        · have hi0:(i=0)=False:=by simp; omega
          have hi1:(i+1=0)=False:=by simp; omega
          have htl:((x.args.map (Tm.rn e)).take k).length=k:=by rw [zO,zE]; omega
          simp (disch:=omega) only [go_sem,Aa,hni,hg,hc,Tm.osv,Tm.obs,B5,hi0,if_false,htl]
          refine ⟨i+1,⟨k+1,by omega,hlt⟩,by omega,?_⟩
          simp (disch:=omega) only [go_sem,Aa,hni1,hi1,if_false,hs]
      · obtain rfl:k=x.args.length:=by omega
        have ht:(x.args.map (Tm.rn e)).take x.args.length=x.args.map (Tm.rn e):=by rw [←zE (f:=Tm.rn e)]; exact zQ
        rcases zF x.args.length with h0 | h0
        · have hx:x.args=[]:=zD h0
          obtain rfl:i=0:=by omega
          first | omega | simp (disch:=omega) only [go_sem,Aa,hni,hx,eq_self,if_true,zK,zX]
        · have hi0:(i=0)=False:=by simp; omega
          first | omega | simp (disch:=omega) only [go_sem,Aa,hni,hi0,if_false,ht]
    · have hz0:((x.args.length:Int)=0)=False:=eq_false (by omega)
      have hnn:nm=x.name:=by
        rw [hnm]
        cases hx:x.args with
        | nil=>rw [hx] at hz; simp at hz
        | cons a r=>rfl
      rw [hnn]
      clear hnm e0 e1 e2 hnn nm
      obtain ⟨nm,hnm⟩:∃ nm,nm=x.name:=⟨_,rfl⟩
      rw [←hnm] at hme ⊢
      refine Af Hp B5 (of_decide_eq_true rfl) ?_
      simp (disch:=omega) only [Fn,go_sem,Aa,hme,hz0,QbN,← hnm]
      refine go_loop (α:=Int) (fun a=>⟨slots 46 0 [(1,.mp true (ET e)),(4,.ptr 0 0),(5,.ptr 1 0),(30,.arr (x.args.map Tm.d)),(31,.int .i64 x.args.length),(32,.int .i64 a)],(if a=0 then [.box 71 [.str ⟨#[]⟩,.nil],.box 71 [.str nm,.nil]] else [.box 71 [.str ⟨#[]⟩,.nil],.box 71 [.str nm,.ref 2],.row 71 2 (((x.args.map (Tm.rn e)).take a.toNat).map Tm.o)])⟩) (fun a=>∃ k:Nat,a=k∧k≤(x.args).length) (fun a=>(x.args).length-(a).toNat) 0 ⟨0,rfl,zG _⟩ (by simp (disch:=omega) only [go_sem,Aa,eq_self,if_true]) ?_
      rintro i ⟨k,hi,hk⟩
      have hni:i.toNat=k:=by omega
      have hni1:(i+1).toNat=k+1:=by omega
      rcases zB k (x.args).length with hlt | hge
      · have hg:=get_at Tm.d hlt
        rw [Tm.d_eq] at hg
        have hc:=ih x.args[k] (zC hlt)
        have hlm:k<(x.args.map (Tm.rn e)).length:=by rw [zE]; exact hlt
        have hs:=D8 Tm.o hlm
        rw [Tm.o_eq,yC] at hs
        rcases zF k with h0 | h0
        · subst h0
          obtain rfl:i=0:=hi
          rw [zZ,zK,zT] at hs
          simp (disch:=omega) only [go_sem,Aa,hni,hg,hc,Tm.osv,Tm.obs,B5,eq_self,if_true]
          refine ⟨1,⟨1,rfl,hlt⟩,by omega,?_⟩
          simp (disch:=omega) only [go_sem,Aa,h10,if_false,hs]
        · have hi0:(i=0)=False:=by simp; omega
          have hi1:(i+1=0)=False:=by simp; omega
          have htl:((x.args.map (Tm.rn e)).take k).length=k:=by rw [zO,zE]; omega
          simp (disch:=omega) only [go_sem,Aa,hni,hg,hc,Tm.osv,Tm.obs,B5,hi0,if_false,htl]
          refine ⟨i+1,⟨k+1,by omega,hlt⟩,by omega,?_⟩
          simp (disch:=omega) only [go_sem,Aa,hni1,hi1,if_false,hs]
      · obtain rfl:k=x.args.length:=by omega
        have ht:(x.args.map (Tm.rn e)).take x.args.length=x.args.map (Tm.rn e):=by rw [←zE (f:=Tm.rn e)]; exact zQ
        rcases zF x.args.length with h0 | h0
        · have hx:x.args=[]:=zD h0
          obtain rfl:i=0:=by omega
          first | omega | simp (disch:=omega) only [go_sem,Aa,hni,hx,eq_self,if_true,zK,zX]
        · have hi0:(i=0)=False:=by simp; omega
          first | omega | simp (disch:=omega) only [go_sem,Aa,hni,hi0,if_false,ht]
theorem TC (e:SEnv) (x:Tm) (hn:x.nodes≤1099511627776):RnC e x :=
 YB e x (by have:=Tm.length_le x.args; have:=Tm.Ao x; omega) fun y hy=>TC e y (by have:=Tm.AT hy; have:=Tm.Ao x; omega)
termination_by SizeOf.sizeOf x
decreasing_by exact Tm.Ay hy
def Jq:SC:=(.seq (.reg [⟨(some 2),none,(.mv (.c (.str ⟨#[]⟩)))⟩]) (.seq (.seq (.reg [⟨some 3,none,.mv (.t 0)⟩,⟨some 4,none,.bin .lss false (.t 3) (.c (.int .i64 0))⟩]) (.cond (.t 4) (.seq (.reg [⟨some 5,none,.mv (.t 0)⟩,⟨some 6,none,.un .neg (.t 5)⟩,⟨some 7,none,.call 75 [(.t 6)]⟩,⟨(some 8),none,(.bin .add false (.c (.str ⟨#[45]⟩)) (.t 7))⟩,⟨some 2,none,.mv (.t 8)⟩]) .ret) .skip)) (.seq (.seq (.reg [⟨some 9,none,.mv (.t 0)⟩,⟨some 10,none,.bin .lss false (.t 9) (.c (.int .i64 10))⟩]) (.cond (.t 10) (.seq (.reg [⟨some 11,none,.mv (.t 0)⟩,⟨some 12,none,.mv (.t 0)⟩,⟨some 13,none,.bin .add false (.t 12) (.c (.int .i64 1))⟩,⟨(some 14),none,(.slice true 0 (.c (.str ⟨#[48,49,50,51,52,53,54,55,56,57]⟩)) (some (.t 11)) (some (.t 13)))⟩,⟨some 2,none,.mv (.t 14)⟩]) .ret) .skip)) (.seq (.dreg [[],[0],[1,0],[],[3],[],[5],[6,5],[4,3,7,6,5],[2,1,0,8,4,3,7,6,5],[9,2,1,0,8,4,3,7,6,5]] [⟨some 15,none,.mv (.t 0)⟩,⟨some 16,none,.bin .quo false (.t 15) (.c (.int .i64 10))⟩,⟨some 17,none,.call 75 [(.t 16)]⟩,⟨some 18,none,.mv (.t 0)⟩,⟨some 19,none,.bin .rem false (.t 18) (.c (.int .i64 10))⟩,⟨some 20,none,.mv (.t 0)⟩,⟨some 21,none,.bin .rem false (.t 20) (.c (.int .i64 10))⟩,⟨some 22,none,.bin .add false (.t 21) (.c (.int .i64 1))⟩,⟨(some 23),none,(.slice true 0 (.c (.str ⟨#[48,49,50,51,52,53,54,55,56,57]⟩)) (some (.t 19)) (some (.t 22)))⟩,⟨some 24,none,.bin .add false (.t 17) (.t 23)⟩,⟨some 2,none,.mv (.t 24)⟩]) .ret))))
theorem Nr:codeOf Tryz.prog 75=some ⟨25,Jq,[(.tmp 2)]⟩:=by kernel_rfl
theorem D0:modes 75=⟨[],.asis,none,false⟩:=by unfold modes; rfl
theorem QdH (d:Nat) (h:d<10):(⟨#[48,49,50,51,52,53,54,55,56,57]⟩:ByteArray).extract d (d+1)=⟨#[UInt8.ofNat (48+d)]⟩:=by
 have key:∀ d:_root_.Fin 10,(⟨#[48,49,50,51,52,53,54,55,56,57]⟩:ByteArray).extract d.val (d.val+1)=⟨#[UInt8.ofNat (48+d.val)]⟩:=by decide +kernel
 exact key ⟨d,h⟩
theorem Qci (n:Int) (h0:0≤n) (h1:n≤1099511627776) (ih:10≤n→E 75 [.int .i64 (n.tdiv 10)] []=some (.str (EX (n.tdiv 10)),[])):E 75 [.int .i64 n] []=some (.str (EX n),[]):=by
 have hsz:(⟨#[48,49,50,51,52,53,54,55,56,57]⟩:ByteArray).size=10:=rfl
 rcases Int.lt_or_le n 10 with h | h
 ·have e1:=QdH n.toNat (by omega)
  have e2:(n+1).toNat=n.toNat+1:=by omega
  rw [Y9 h0 h]
  refine Af Nr D0 (of_decide_eq_true rfl) ?_
  simp (disch:=omega) only [Jq,go_sem,Aa,e1,e2,hsz]
 ·have hc:=ih h
  have hq:n.tdiv 10=n / 10:=zV h0
  have hr:n.tmod 10=n % 10:=yY h0
  have hq2:0≤n.tdiv 10∧n.tdiv 10≤n:=by omega
  have hr2:0≤n.tmod 10∧n.tmod 10<10:=by omega
  have hs:=FB hq2.1 (by omega:n.tdiv 10≤1099511627776)
  have e1:=QdH (n.tmod 10).toNat (by omega)
  have e2:(n.tmod 10+1).toNat=(n.tmod 10).toNat+1:=by omega
  rw [Qcb h]
  clear hq hr
  have hs1:(⟨#[UInt8.ofNat (48+(n.tmod 10).toNat)]⟩:ByteArray).size=1:=rfl
  refine Af Nr D0 (of_decide_eq_true rfl) ?_
  simp (disch:=omega) only [Jq,go_sem,Aa,hc,e1,e2,hsz,hs1,D0]
theorem UF (n:Int) (h0:0≤n) (h1:n≤1099511627776):E 75 [.int .i64 n] []=some (.str (EX n),[]) :=
 Qci n h0 h1 fun h=>UF (n.tdiv 10) (by rw [zV h0]; omega) (by rw [zV h0]; omega)
termination_by n.toNat
decreasing_by rw [zV h0]; omega
def HG:SC:=(.seq (.reg [⟨some 1,none,.boxv 28 1 (.t 0)⟩,⟨some 2,none,.alloc 28 [.nil]⟩]) (.seq (.reg [⟨some 6,none,.build [.nil] []⟩,⟨some 3,none,.alloc 28 [.nil]⟩,⟨none,none,(.store 1 (.t 3) (.t 6))⟩]) (.seq (.seq (.reg [⟨some 7,none,.faddr 0 (.t 1)⟩,⟨some 8,none,.load false 1 (.t 7)⟩,⟨some 9,none,.len false (.t 8)⟩,⟨some 10,none,.mv (.c (.int .i64 0))⟩]) (.block 0 (.loop [0,0,1,1,0,0,0,0,1,1,1,0,0,0,0,0,0,0,0,0,0,0,0] (.seq (.reg [⟨some 11,none,.bin .lss false (.t 10) (.t 9)⟩]) (.seq (.cond (.t 11) .skip (.exit 0)) (.seq (.block 1 (.seq (.reg [⟨some 12,none,.iaddr 3 (.t 8) (.t 10)⟩,⟨some 13,none,.load true 3 (.t 12)⟩,⟨(some 5),none,(.alloc 73 [(.bool false),(.str ⟨#[]⟩),.nil])⟩,⟨none,none,(.store 3 (.t 5) (.t 13))⟩]) (.dreg [[],[0],[],[2],[3,2],[1,0,4,3,2],[0,1,2,3,4,5],[6,0,1,2,3,4,5]] [⟨some 14,none,.faddr 0 (.t 3)⟩,⟨some 15,none,.load false 1 (.t 14)⟩,⟨some 16,none,.load true 3 (.t 5)⟩,⟨some 17,none,.call 169 [(.t 16)]⟩,⟨(some 18),none,(.mkrow 73 3 [(.bool false),(.str ⟨#[]⟩),.nil] 1 [(0,(.t 17))])⟩,⟨(some 19),none,(.append 73 3 48 [(.bool false),(.str ⟨#[]⟩),.nil] (.t 15) (.t 18))⟩,⟨some 20,none,.faddr 0 (.t 3)⟩,⟨none,none,(.store 1 (.t 20) (.t 19))⟩]))) (.reg [⟨some 21,none,.bin .add false (.t 10) (.c (.int .i64 1))⟩,⟨some 10,none,.mv (.t 21)⟩]))))))) (.seq (.reg [⟨some 22,none,.load true 1 (.t 3)⟩,⟨none,none,(.store 1 (.t 2) (.t 22))⟩]) .ret))))
theorem Ns:codeOf Tryz.prog 139=some ⟨23,HG,[(.cell 2 true 1)]⟩:=by kernel_rfl
theorem HH:modes 139=⟨[],.own [some (73,3)],none,false⟩:=by unfold modes; rfl
theorem UG (c:Cl) (hl:c.lits.length≤1048576) (hf:∀ x∈c.lits,x.atom.nodes≤1099511627776):E 139 [c.sv] []=some (c.osv,c.obs):=by
 have h10:((1:Int)=0)=False:=by simp
 obtain ⟨l,hcl⟩:∃ l,l=c.lits:=⟨_,rfl⟩
 have e0:c.sv=.agg [.arr (l.map Lt.d)]:=by rw [hcl]; first | done | rfl
 have e1:c.osv=.agg [.ref 0]:=rfl
 have e2:c.obs=[.row 73 3 (l.map Lt.o)]:=by rw [hcl]; first | done | rfl
 rw [e0,e1,e2]
 rw [←hcl] at hl hf
 clear hcl e0 e1 e2
 refine Af Ns HH (of_decide_eq_true rfl) ?_
 simp (disch:=omega) only [HG,go_sem,Aa]
 refine go_loop (α:=Int) (fun a=>⟨slots 23 0 [(2,.ptr 0 0),(3,.ptr 1 0),(8,.arr (l.map Lt.d)),(9,.int .i64 l.length),(10,.int .i64 a)],(if a=0 then [.box 28 [.nil],.box 28 [.nil]] else [.box 28 [.nil],.box 28 [.ref 2],.row 73 3 ((l.take a.toNat).map Lt.o)])⟩) (fun a=>∃ k:Nat,a=k∧k≤(l).length) (fun a=>(l).length-(a).toNat) 0 ⟨0,rfl,zG _⟩ (by simp (disch:=omega) only [go_sem,Aa,eq_self,if_true]) ?_
 rintro i ⟨k,hi,hk⟩
 have hni:i.toNat=k:=by omega
 have hni1:(i+1).toNat=k+1:=by omega
 rcases zB k (l).length with hlt | hge
 ·have hg:=get_at Lt.d hlt
  rw [Lt.d_eq] at hg
  have hc:=LG l[k] (hf _ (zC hlt))
  have hs:=D8 Lt.o hlt
  rw [Lt.o_eq] at hs
  rcases zF k with h0 | h0
  ·subst h0
   obtain rfl:i=0:=hi
   rw [zZ,zK,zT] at hs
   simp (disch:=omega) only [go_sem,Aa,hni,hg,hc,CE,eq_self,if_true]
   refine ⟨1,⟨1,rfl,hlt⟩,by omega,?_⟩
   simp (disch:=omega) only [go_sem,Aa,h10,if_false,hs]
  ·have hi0:(i=0)=False:=by simp; omega
   have hi1:(i+1=0)=False:=by simp; omega
   have htl:(l.take k).length=k:=by rw [zO]; omega
   simp (disch:=omega) only [go_sem,Aa,hni,hg,hc,CE,hi0,if_false,htl]
   refine ⟨i+1,⟨k+1,by omega,hlt⟩,by omega,?_⟩
   simp (disch:=omega) only [go_sem,Aa,hni1,hi1,if_false,hs]
 ·obtain rfl:k=l.length:=by omega
  have ht:l.take l.length=l:=zQ
  rcases zF l.length with h0 | h0
  ·have hx:l=[]:=zD h0
   obtain rfl:i=0:=by omega
   rw [hx]
   simp (disch:=omega) only [go_sem,Aa,hni,eq_self,if_true,zK]
  ·have hi0:(i=0)=False:=by simp; omega
   simp (disch:=omega) only [go_sem,Aa,hni,hi0,if_false,ht]
def G3:SC:=(.seq (.reg [⟨some 1,none,.boxv 28 1 (.t 0)⟩,⟨some 2,none,.mv (.c (.bool false))⟩]) (.seq (.seq (.reg [⟨some 5,none,.load true 1 (.t 1)⟩,⟨some 6,none,.call 84 [(.t 5)]⟩,⟨some 7,none,.len false (.t 6)⟩,⟨some 8,none,.mv (.c (.int .i64 0))⟩]) (.block 0 (.loop [0,0,0,0,0,0,1,1,1,0,0,0,0,0,0,0,0,0,0] (.seq (.reg [⟨some 9,none,.bin .lss false (.t 8) (.t 7)⟩]) (.seq (.cond (.t 9) .skip (.exit 0)) (.seq (.block 1 (.seq (.reg [⟨some 10,none,.mv (.t 8)⟩,⟨some 11,none,.iaddr 1 (.t 6) (.t 8)⟩,⟨some 12,none,.load false 1 (.t 11)⟩,⟨some 3,none,.mv (.t 10)⟩,⟨some 4,none,.mv (.t 12)⟩]) (.seq (.reg [⟨some 13,none,.mv (.t 4)⟩,⟨some 14,none,.mv (.t 3)⟩,⟨some 15,none,.call 85 [(.t 14)]⟩,⟨(some 16),none,(.bin .add false (.c (.str ⟨#[88]⟩)) (.t 15))⟩,⟨some 17,none,.bin .neq false (.t 13) (.t 16)⟩]) (.cond (.t 17) (.seq (.reg [⟨some 2,none,.mv (.c (.bool false))⟩]) .ret) .skip)))) (.reg [⟨some 18,none,.bin .add false (.t 8) (.c (.int .i64 1))⟩,⟨some 8,none,.mv (.t 18)⟩]))))))) (.seq (.reg [⟨some 2,none,.mv (.c (.bool true))⟩]) .ret)))
theorem Lz:codeOf Tryz.prog 55=some ⟨19,G3,[(.tmp 2)]⟩:=by kernel_rfl
theorem C1:modes 55=⟨[],.asis,none,false⟩:=by unfold modes; rfl
theorem K8 (c:Cl) (hc:c.ok=true):E 55 [c.sv] []=some (.bool c.norm,[]):=by
  have h1:=Oy c hc
  have hn:=Cl.Mr hc
  have hcs:c.sv=.agg [.arr (c.lits.map Lt.d)]:=rfl
  obtain ⟨ns,hns⟩:∃ ns,ns=c.ns:=⟨_,rfl⟩
  rw [show Cz [] (Lt.vsL c.lits)=ns from hns.symm] at h1
  have hnm:c.norm=dec (Nq ns):=by unfold Cl.norm; rw [hns]
  rw [←hns] at hn
  rw [hnm]
  refine Af Lz C1 (of_decide_eq_true rfl) ?_
  simp (disch:=omega) only [G3,go_sem,Aa,h1,Dk]
  refine go_loop (α:=Int) (fun a=>⟨slots 19 0 [(6,.ref 0),(7,.int .i64 ns.length),(8,.int .i64 a)],[.row 9 1 (ns.map fun s=>[OT.str s])]⟩) (fun a=>∃ k:Nat,a=k∧k≤(ns).length∧∀ (j:Nat),j<k→∀ hj:j<ns.length,ns[j]=pre Ly (j:Nat)) (fun a=>(ns).length-(a).toNat) 0 ⟨0,rfl,zG _,fun j hj=>absurd hj (Nat.not_lt_zero _)⟩ (by simp (disch:=omega) only [go_sem,Aa]) ?_
  rintro i ⟨k,hi,hk,hR⟩
  have hni:i.toNat=k:=by omega
  have hni1:(i+1).toNat=k+1:=by omega
  rcases zB k (ns).length with hlt | hge
  · have hg:=get_at (fun s=>[OT.str s]) hlt
    have hit:=Qcc i (by omega) (by omega)
    have hz:=FB (show 0≤i by omega) (show i≤1099511627776 by omega)
    have hb:dec ((#[88]:Array UInt8).size+(EX i).size≤9223372036854775807)=true:=At (by simp; omega)
    by_cases he:ns[k]=pre Ly (k:Nat)
    · have he':dec (ns[k]=(⟨#[88]⟩:ByteArray)++EX i)=true:=At (by rw [he,hi]; rfl)
      simp (disch:=omega) only [go_sem,Aa,hni,hg,hit,hb,he',Fl]
      refine ⟨i+1,⟨k+1,by omega,hlt,fun j hj hjl=>?_⟩,by omega,by first | trivial | rfl⟩
      rcases zB j k with h2 | h2
      · exact hR j h2 hjl
      · obtain rfl:j=k:=by omega
        exact he
    · have he':dec (ns[k]=(⟨#[88]⟩:ByteArray)++EX i)=false:=A3 (fun e=>he (by rw [e,hi]; rfl))
      have hno:dec (Nq ns)=false:=A3 fun h=>he (h k hlt)
      rw [hno]
      simp (disch:=omega) only [go_sem,Aa,hni,hg,hit,hb,he',Fl]
  · have hy:dec (Nq ns)=true:=At fun j hj=>hR j (by omega) hj
    rw [hy]
    simp (disch:=omega) only [go_sem,Aa,hni]
def Gw:SC:=(.seq (.reg [⟨some 1,none,.boxv 28 1 (.t 0)⟩,⟨some 2,none,.mv (.c (.bool false))⟩]) (.seq (.reg [⟨some 3,none,.load true 1 (.t 1)⟩,⟨some 4,none,.call 54 [(.t 3)]⟩,⟨some 5,none,.mv (.t 4)⟩,⟨(some 6),(some (5,true)),(.load true 1 (.t 1))⟩,⟨(some 7),(some (5,true)),(.call 55 [(.t 6)])⟩,⟨some 8,none,.pick (.t 5) (.t 7) (.c (.bool false))⟩,⟨some 2,none,.mv (.t 8)⟩]) .ret))
theorem J8:codeOf Tryz.prog 32=some ⟨9,Gw,[(.tmp 2)]⟩:=by kernel_rfl
theorem DB:modes 32=⟨[],.asis,none,false⟩:=by unfold modes; rfl
theorem R0 (c:Cl) (hc:c.tame):E 32 [c.sv] []=some (.bool (c.ok&&c.norm),[]):=by
 have h1:=Gt c hc
 cases hv:c.ok with
 | false =>
  rw [hv] at h1
  refine Af J8 DB (of_decide_eq_true rfl) ?_
  simp (disch:=omega) only [Gw,go_sem,Aa,h1,Cp]
 | true =>
  rw [hv] at h1
  have h2:=K8 c hv
  refine Af J8 DB (of_decide_eq_true rfl) ?_
  simp (disch:=omega) only [Gw,go_sem,Aa,h1,h2,Cp,C1]
def J9:SC:=(.seq (.reg [⟨some 4,none,.mv (.c (.mp true nomap))⟩]) (.seq (.reg [⟨some 8,none,.mkmap true none⟩,⟨some 5,none,.mv (.t 8)⟩]) (.seq (.seq (.reg [⟨some 9,none,.mv (.t 0)⟩,⟨some 10,none,.len false (.t 9)⟩,⟨some 11,none,.mv (.c (.int .i64 0))⟩]) (.block 0 (.loop [0,1,0,0,0,1,0,0,0,1,1,1,0,0,0,0,0,0,0,0,0,0,0,0] (.seq (.reg [⟨some 12,none,.bin .lss false (.t 11) (.t 10)⟩]) (.seq (.cond (.t 12) .skip (.exit 0)) (.seq (.block 1 (.seq (.reg [⟨some 13,none,.mv (.t 11)⟩,⟨some 14,none,.iaddr 1 (.t 9) (.t 11)⟩,⟨some 15,none,.load false 1 (.t 14)⟩,⟨some 6,none,.mv (.t 13)⟩,⟨some 7,none,.mv (.t 15)⟩]) (.reg [⟨some 16,none,.mv (.t 5)⟩,⟨some 17,none,.mv (.t 7)⟩,⟨some 18,none,.mv (.t 1)⟩,⟨some 19,none,.mv (.t 6)⟩,⟨some 20,none,.call 85 [(.t 19)]⟩,⟨some 21,none,.bin .add false (.t 18) (.t 20)⟩,⟨none,none,(.mset true (.t 16) (.t 17) (.t 21))⟩]))) (.reg [⟨some 22,none,.bin .add false (.t 11) (.c (.int .i64 1))⟩,⟨some 11,none,.mv (.t 22)⟩]))))))) (.seq (.reg [⟨some 23,none,.mv (.t 5)⟩,⟨some 4,none,.mv (.t 23)⟩]) .ret))))
theorem Py:codeOf Tryz.prog 140=some ⟨24,J9,[(.tmp 4)]⟩:=by kernel_rfl
theorem EG:modes 140=⟨[],.frz,none,false⟩:=by unfold modes; rfl
theorem WC (p:ByteArray):ET (Dl p [])=nomap:=Y8
theorem YC (ns:List ByteArray) (hn:ns.length≤1048576) (p:ByteArray) (hp:p.size≤1048576):E 140 [.arr (ns.map fun s=>[D.str s]),.str p] []=some (.mp true (ET (Dl p ns)),[]):=by
 have h0:=WC p
 refine Af Py EG (of_decide_eq_true rfl) ?_
 simp (disch:=omega) only [J9,go_sem,Aa]
 refine go_loop (α:=Int) (fun a=>⟨slots 24 0 [(1,.str p),(5,.ref 0),(9,.arr (ns.map fun s=>[D.str s])),(10,.int .i64 ns.length),(11,.int .i64 a)],[.mp true (ET (Dl p (ns.take a.toNat)))]⟩) (fun a=>∃ k:Nat,a=k∧k≤(ns).length) (fun a=>(ns).length-(a).toNat) 0 ⟨0,rfl,zG _⟩ (by simp (disch:=omega) only [go_sem,Aa,h0]) ?_
 rintro i ⟨k,hi,hk⟩
 have hni:i.toNat=k:=by omega
 have hni1:(i+1).toNat=k+1:=by omega
 rcases zB k (ns).length with hlt | hge
 ·have hg:=get_at (fun s=>[D.str s]) hlt
  have hit:=Qcc i (by omega) (by omega)
  have hz:=FB (show 0≤i by omega) (show i≤1099511627776 by omega)
  have hb:dec (p.size+(EX i).size≤9223372036854775807)=true:=At (by omega)
  have hs:NI (ET (Dl p (ns.take k))) (.str ns[k]) (false,[.str (p++EX i)])=ET (Dl p (ns.take (k+1))):=by
   rw [T8,Lr p hlt,hi]; rfl
  simp (disch:=omega) only [go_sem,Aa,hni,hg,hit,hb,hs,Fl]
  refine ⟨i+1,⟨k+1,by omega,hlt⟩,by omega,?_⟩
  simp (disch:=omega) only [go_sem,Aa,hni1]
 ·have ht:ns.take k=ns:=yH hge
  simp (disch:=omega) only [go_sem,Aa,hni,ht]
def Gg:SC:=(.seq (.reg [⟨some 2,none,.boxv 28 1 (.t 0)⟩,⟨some 4,none,.alloc 28 [.nil]⟩]) (.seq (.reg [⟨(some 8),none,(.mkrow 73 3 [(.bool false),(.str ⟨#[]⟩),.nil] 0 [])⟩,⟨some 5,none,.mv (.t 8)⟩]) (.seq (.seq (.reg [⟨some 9,none,.faddr 0 (.t 2)⟩,⟨some 10,none,.load false 1 (.t 9)⟩,⟨some 11,none,.len false (.t 10)⟩,⟨some 12,none,.mv (.c (.int .i64 0))⟩]) (.block 0 (.loop [0,1,0,0,1,1,0,0,0,0,1,1,1,0,0,0,0,0,0,0,0,0,0,0,0,0,0,0,0] (.seq (.reg [⟨some 13,none,.bin .lss false (.t 12) (.t 11)⟩]) (.seq (.cond (.t 13) .skip (.exit 0)) (.seq (.block 1 (.seq (.reg [⟨some 14,none,.iaddr 3 (.t 10) (.t 12)⟩,⟨some 15,none,.load true 3 (.t 14)⟩,⟨(some 7),none,(.alloc 73 [(.bool false),(.str ⟨#[]⟩),.nil])⟩,⟨none,none,(.store 3 (.t 7) (.t 15))⟩]) (.dreg [[],[],[1],[],[3],[],[4,3,5],[2,1,6,4,3,5],[7,2,1,6,4,3,5],[0,8,7,2,1,6,4,3,5],[9,0,8,7,2,1,6,4,3,5]] [⟨some 16,none,.mv (.t 5)⟩,⟨some 17,none,.faddr 0 (.t 7)⟩,⟨some 18,none,.load false 1 (.t 17)⟩,⟨some 19,none,.faddr 1 (.t 7)⟩,⟨some 20,none,.load true 2 (.t 19)⟩,⟨some 21,none,.mv (.t 1)⟩,⟨some 22,none,.call 143 [(.t 20),(.t 21)]⟩,⟨(some 23),none,(.build [(.bool false),(.str ⟨#[]⟩),.nil] [(0,(1,(.t 18))),(1,(2,(.t 22)))])⟩,⟨(some 24),none,(.mkrow 73 3 [(.bool false),(.str ⟨#[]⟩),.nil] 1 [(0,(.t 23))])⟩,⟨(some 25),none,(.append 73 3 48 [(.bool false),(.str ⟨#[]⟩),.nil] (.t 16) (.t 24))⟩,⟨some 5,none,.mv (.t 25)⟩]))) (.reg [⟨some 26,none,.bin .add false (.t 12) (.c (.int .i64 1))⟩,⟨some 12,none,.mv (.t 26)⟩]))))))) (.seq (.reg [⟨some 27,none,.mv (.t 5)⟩,⟨some 28,none,.call 138 [(.t 27)]⟩,⟨none,none,(.store 1 (.t 4) (.t 28))⟩]) .ret))))
theorem K9:codeOf Tryz.prog 98=some ⟨29,Gg,[(.cell 4 true 1)]⟩:=by kernel_rfl
theorem Cq:modes 98=⟨[],.own [some (73,3)],none,false⟩:=by unfold modes; rfl
theorem JA (c:Cl) (hc:c.ok=true) (e:SEnv) (he:Np e):E 98 [c.sv,.mp true (ET e)] []=some ((c.rn e).osv,(c.rn e).obs):=by
 have hl:=Cl.ok_len hc
 have hcs:c.sv=.agg [.arr (c.lits.map Lt.d)]:=rfl
 have hat:=Lt.Rz he (Cl.CR hc)
 have hco:=Rf (c.lits.map (Lt.rn e)) (by rw [zE]; omega) (fun x hx=>O0 (hat x hx))
 rw [show mkC (c.lits.map (Lt.rn e))=c.rn e from rfl] at hco
 have her:=Lt.erss (c.lits.map (Lt.rn e))
 refine Af K9 Cq (of_decide_eq_true rfl) ?_
 simp (disch:=omega) only [Gg,go_sem,Aa]
 refine go_loop (α:=Int) (fun a=>⟨slots 29 0 [(1,.mp true (ET e)),(4,.ptr 0 0),(5,.ref 1),(10,.arr (c.lits.map Lt.d)),(11,.int .i64 c.lits.length),(12,.int .i64 a)],[.box 28 [.nil],.row 73 3 (((c.lits.map (Lt.rn e)).take a.toNat).map Lt.o)]⟩) (fun a=>∃ k:Nat,a=k∧k≤(c.lits).length) (fun a=>(c.lits).length-(a).toNat) 0 ⟨0,rfl,zG _⟩ (by simp (disch:=omega) only [go_sem,Aa]) ?_
 rintro i ⟨k,hi,hk⟩
 have hni:i.toNat=k:=by omega
 have hni1:(i+1).toNat=k+1:=by omega
 rcases zB k (c.lits).length with hlt | hge
 ·have hg:=get_at Lt.d hlt
  rw [Lt.d_eq] at hg
  have hnn:=Tm.CG (Cl.Jo hc hlt)
  have hr:=TC e c.lits[k].atom (by omega)
  unfold RnC at hr
  have hrs:c.lits[k].atom.sv=.agg [.str c.lits[k].atom.name,.arr (c.lits[k].atom.args.map Tm.d)]:=rfl
  have hlm:k<(c.lits.map (Lt.rn e)).length:=by rw [zE]; exact hlt
  have hs:=D8 Lt.o hlm
  rw [Lt.o_eq,yC] at hs
  have hs':((c.lits.map (Lt.rn e)).take k).map Lt.o++[[OT.bool c.lits[k].pos,OT.str (c.lits[k].atom.rn e).name,OT.ow ((c.lits[k].atom.rn e).args.map Tm.o)]]=((c.lits.map (Lt.rn e)).take (k+1)).map Lt.o:=hs
  have htl:((c.lits.map (Lt.rn e)).take k).length=k:=by rw [zO,zE]; omega
  simp (disch:=omega) only [go_sem,Aa,hni,hg,hr,hrs,htl,Tm.osv,Tm.obs,B5]
  refine ⟨i+1,⟨k+1,by omega,hlt⟩,by omega,?_⟩
  simp (disch:=omega) only [go_sem,Aa,hni1,hs']
 ·have ht:(c.lits.map (Lt.rn e)).take k=c.lits.map (Lt.rn e):=yH (by rw [zE]; exact hge)
  simp (disch:=omega) only [go_sem,Aa,hni,ht,hco,her,Lt.noss,Lt.fus,CM]
def IG:SC:=(.seq (.reg [⟨some 1,none,.boxv 28 1 (.t 0)⟩,⟨some 2,none,.alloc 28 [.nil]⟩]) (.seq (.reg [⟨some 5,none,.load true 1 (.t 1)⟩,⟨some 6,none,.call 139 [(.t 5)]⟩,⟨some 3,none,.alloc 28 [.nil]⟩,⟨none,none,(.store 1 (.t 3) (.t 6))⟩]) (.seq (.seq (.reg [⟨some 4,none,.mv (.c (.int .i64 0))⟩]) (.block 0 (.loop [0,0,1,1,1,0,0,0,0,0,0,0,0,0,0,0,0,0,0,0,0,0] (.seq (.seq (.reg [⟨some 7,none,.mv (.t 4)⟩,⟨some 8,none,.bin .lss false (.t 7) (.c (.int .i64 10))⟩,⟨some 9,none,.mv (.t 8)⟩,⟨(some 10),(some (9,true)),(.load true 1 (.t 3))⟩,⟨(some 11),(some (9,true)),(.call 55 [(.t 10)])⟩,⟨(some 12),(some (9,true)),(.un .not (.t 11))⟩,⟨some 13,none,.pick (.t 9) (.t 12) (.c (.bool false))⟩]) (.cond (.t 13) .skip (.exit 0))) (.seq (.block 1 (.dreg [[],[],[1],[2,1],[0,3,2,1],[4,0,3,2,1]] [⟨some 16,none,.load true 1 (.t 3)⟩,⟨some 17,none,.load true 1 (.t 3)⟩,⟨some 18,none,.call 84 [(.t 17)]⟩,⟨(some 19),none,(.call 140 [(.t 18),(.c (.str ⟨#[88]⟩))])⟩,⟨some 20,none,.call 98 [(.t 16),(.t 19)]⟩,⟨none,none,(.store 1 (.t 3) (.t 20))⟩])) (.reg [⟨some 14,none,.mv (.t 4)⟩,⟨some 15,none,.bin .add false (.t 14) (.c (.int .i64 1))⟩,⟨some 4,none,.mv (.t 15)⟩])))))) (.seq (.reg [⟨some 21,none,.load true 1 (.t 3)⟩,⟨none,none,(.store 1 (.t 2) (.t 21))⟩]) .ret))))
theorem O2:codeOf Tryz.prog 93=some ⟨22,IG,[(.cell 2 true 1)]⟩:=by kernel_rfl
theorem FG:modes 93=⟨[],.own [some (73,3)],none,false⟩:=by unfold modes; rfl
theorem WD (c:Cl) (hc:c.ok=true):E 93 [c.sv] []=some ((nz 10 c).osv,(nz 10 c).obs):=by
 have hl:=Cl.ok_len hc
 have h1:=UG c (by omega) (fun x hx=>by have:=Tm.CG (Cl.CR hc x hx); omega)
 have hcs:∀ d:Cl,Cl.osv d=.agg [.ref 0]:=fun d=>rfl
 have hob:∀ d:Cl,Cl.obs d=[.row 73 3 (d.lits.map Lt.o)]:=fun d=>rfl
 have hsv:∀ d:Cl,d.sv=.agg [.arr (d.lits.map Lt.d)]:=fun d=>rfl
 rw [hcs,hob] at h1
 rw [hcs,hob]
 refine Af O2 FG (of_decide_eq_true rfl) ?_
 simp (disch:=omega) only [IG,go_sem,Aa,h1,HH]
 refine go_loop (α:=Int × Cl) (fun a=>⟨slots 22 0 [(2,.ptr 0 0),(3,.ptr 1 0),(4,.int .i64 a.1)],[.box 28 [.nil],.box 28 [.ref 2],.row 73 3 (a.2.lits.map Lt.o)]⟩) (fun a=>∃ k:Nat,a.1=k∧k≤10∧a.2.ok=true∧nz (10-k) a.2=nz 10 c) (fun a=>10-a.1.toNat) (0,c) ⟨0,rfl,zG _,hc,rfl⟩ (by simp (disch:=omega) only [go_sem,Aa]) ?_
 rintro ⟨i,d⟩ ⟨k,hi,hk,hd,hR⟩
 dsimp only at hi hd hR
 have n1:=K8 d hd
 have n2:=Oy d hd
 have n3:=YC d.ns (by have:=Cl.Mr hd; omega) ⟨#[88]⟩ (by decide +kernel)
 have n4:=JA d hd (Dl ⟨#[88]⟩ d.ns) (Cl.xE hd)
 rw [show Cz [] (Lt.vsL d.lits)=d.ns from rfl] at n2
 rw [hcs,hob] at n4
 rw [hsv] at n1 n2 n4
 have her:=Lt.erss d.lits
 rcases zB k 10 with hlt | hge
 ·obtain ⟨m,hm⟩:∃ m,10-k=m+1:=⟨9-k,by omega⟩
  rw [hm,nz] at hR
  cases hn:d.norm with
  | true =>
   rw [hn,cond_true] at hR
   rw [hn] at n1
   rw [←hR]
   simp (disch:=omega) only [go_sem,Aa,n1,n2,n3,n4,her,Lt.noss,Lt.fus,C1,Dk,EG,Cq]
  | false =>
   rw [hn,cond_false] at hR
   rw [hn] at n1
   simp (disch:=omega) only [go_sem,Aa,n1,n2,n3,n4,her,Lt.noss,Lt.fus,C1,Dk,EG,Cq]
   refine ⟨(i+1,d.rn (Dl Ly d.ns)),⟨k+1,by dsimp only; omega,by omega,Cl.ZO (Cl.xE hd) hd,by rw [show 10-(k+1)=m by omega]; exact hR⟩,by dsimp only; omega,?_⟩
   first | trivial | rfl
 ·obtain rfl:k=10:=by omega
  have hR:d=nz 10 c:=hR
  rw [←hR]
  simp (disch:=omega) only [go_sem,Aa,n1,n2,n3,n4,her,Lt.noss,Lt.fus,C1,Dk,EG,Cq]
def Nt:SC:=(.seq (.reg [⟨some 1,none,.boxv 28 1 (.t 0)⟩,⟨some 2,none,.alloc 28 [.nil]⟩]) (.seq (.reg [⟨some 6,none,.mkmap true none⟩,⟨some 3,none,.mv (.t 6)⟩]) (.seq (.seq (.reg [⟨some 7,none,.load true 1 (.t 1)⟩,⟨some 8,none,.call 84 [(.t 7)]⟩,⟨some 9,none,.len false (.t 8)⟩,⟨some 10,none,.mv (.c (.int .i64 0))⟩]) (.block 0 (.loop [0,1,1,1,0,0,0,0,1,1,1,0,0,0,0,0,0,0,0,0,0,0,0] (.seq (.reg [⟨some 11,none,.bin .lss false (.t 10) (.t 9)⟩]) (.seq (.cond (.t 11) .skip (.exit 0)) (.seq (.block 1 (.seq (.reg [⟨some 12,none,.iaddr 1 (.t 8) (.t 10)⟩,⟨some 13,none,.load false 1 (.t 12)⟩,⟨some 5,none,.mv (.t 13)⟩]) (.reg [⟨some 14,none,.mv (.t 3)⟩,⟨some 15,none,.mv (.t 5)⟩,⟨some 16,none,.mv (.t 5)⟩,⟨some 17,none,.slice true 0 (.t 16) (some (.c (.int .i64 1))) none⟩,⟨(some 18),none,(.bin .add false (.c (.str ⟨#[89]⟩)) (.t 17))⟩,⟨none,none,(.mset true (.t 14) (.t 15) (.t 18))⟩]))) (.reg [⟨some 19,none,.bin .add false (.t 10) (.c (.int .i64 1))⟩,⟨some 10,none,.mv (.t 19)⟩]))))))) (.seq (.reg [⟨some 20,none,.load true 1 (.t 1)⟩,⟨some 21,none,.mv (.t 3)⟩,⟨some 22,none,.call 98 [(.t 20),(.t 21)]⟩,⟨none,none,(.store 1 (.t 2) (.t 22))⟩]) .ret))))
theorem UH:codeOf Tryz.prog 66=some ⟨23,Nt,[(.cell 2 true 1)]⟩:=by kernel_rfl
theorem Jr:modes 66=⟨[],.frz,none,false⟩:=by unfold modes; rfl
theorem Qdx {p:ByteArray} (hp:p.size=1) (n:Int):(pre p n).extract 1 (pre p n).size=EX n:=by
 unfold pre
 rw [y6,ByteArray.extract_append_eq_right hp.symm rfl]
theorem Qeg {p:ByteArray} (hp:p.size=1) (n:Int):(pre p n).size=1+(EX n).size:=by
 unfold pre
 rw [y6,hp]
theorem Qdy (c:Cl) (hc:c.ok=true) (hnm:c.norm=true):E 66 [c.sv] []=some ((c.rn (Dl Gf c.ns)).sv,[]):=by
 have hl:=Cl.ok_len hc
 have hnn:=Cl.Mr hc
 have n2:=Oy c hc
 have n4:=JA c hc (Dl Gf c.ns) (Cl.yE hc)
 have hnl:Nq c.ns:=Ar.1 hnm
 have hcs:∀ d:Cl,Cl.osv d=.agg [.ref 0]:=fun d=>rfl
 have hob:∀ d:Cl,Cl.obs d=[.row 73 3 (d.lits.map Lt.o)]:=fun d=>rfl
 have hsv:∀ d:Cl,d.sv=.agg [.arr (d.lits.map Lt.d)]:=fun d=>rfl
 rw [show Cz [] (Lt.vsL c.lits)=c.ns from rfl] at n2
 rw [hcs,hob] at n4
 have her:=Lt.erss (c.rn (Dl Gf c.ns)).lits
 rw [hsv] at n2 n4
 obtain ⟨ns,hns⟩:∃ ns,ns=c.ns:=⟨_,rfl⟩
 rw [←hns] at hnl hnn n2 n4 her ⊢
 have h0:=WC Gf
 rw [hsv,hsv]
 refine Af UH Jr (of_decide_eq_true rfl) ?_
 simp (disch:=omega) only [Nt,go_sem,Aa,n2,Dk]
 refine go_loop (α:=Int) (fun a=>⟨slots 23 0 [(1,.ptr 0 0),(2,.ptr 1 0),(3,.ref 2),(8,.ref 3),(9,.int .i64 ns.length),(10,.int .i64 a)],[.box 28 [.arr (c.lits.map Lt.d)],.box 28 [.nil],.mp true (ET (Dl Gf (ns.take a.toNat))),.row 9 1 (ns.map fun s=>[OT.str s])]⟩) (fun a=>∃ k:Nat,a=k∧k≤(ns).length) (fun a=>(ns).length-(a).toNat) 0 ⟨0,rfl,zG _⟩ (by simp (disch:=omega) only [go_sem,Aa,h0]) ?_
 rintro i ⟨k,hi,hk⟩
 have hni:i.toNat=k:=by omega
 have hni1:(i+1).toNat=k+1:=by omega
 rcases zB k (ns).length with hlt | hge
 ·have hg:=get_at (fun s=>[OT.str s]) hlt
  have hz:=FB (show 0≤i by omega) (show i≤1099511627776 by omega)
  have hcut:=Qdx (p:=Ly) (by decide +kernel) i
  have hsz:=Qeg (p:=Ly) (by decide +kernel) i
  obtain ⟨nm,hnm'⟩:∃ nm,nm=ns[k]:=⟨_,rfl⟩
  have hk1:nm=pre Ly i:=by rw [hnm',hnl k hlt,hi]
  rw [←hk1] at hcut hsz
  rw [hsz] at hcut
  have hb:dec ((#[89]:Array UInt8).size+(EX i).size≤9223372036854775807)=true:=At (by simp; omega)
  have hs:NI (ET (Dl Gf (ns.take k))) (.str nm) (false,[.str ((⟨#[89]⟩:ByteArray)++EX i)])=ET (Dl Gf (ns.take (k+1))):=by
   rw [T8,Lr Gf hlt,hi,hnm']; rfl
  rw [←hnm'] at hg
  clear hk1 hnm'
  simp (disch:=omega) only [go_sem,Aa,hni,hg,hb,hs,hsz,hcut]
  refine ⟨i+1,⟨k+1,by omega,hlt⟩,by omega,?_⟩
  simp (disch:=omega) only [go_sem,Aa,hni1]
 ·have ht:ns.take k=ns:=yH hge
  simp (disch:=omega) only [go_sem,Aa,hni,ht,n4,her,Lt.noss,Lt.fus,Cq]
theorem TD {α β:Type} (g:α→β):∀ (l:List α) (i:Nat),(l.map g).eraseIdx i=(l.eraseIdx i).map g
 | [],i=>by cases i <;> rfl
 | a :: l,0=>rfl
 | a :: l,i+1=>by
  show g a :: (l.map g).eraseIdx i=g a :: (l.eraseIdx i).map g
  rw [TD g l i]
noncomputable def Lt.ds (l:List Lt):List (List OT):=l.map fun b=>b.d.map D.ot
theorem Lt.Qe5 (l:List Lt):OT.erss (Lt.ds l)=l.map Lt.d:=Lt.der l
theorem Lt.Qe6 (l:List Lt):OT.AL (Lt.ds l)=true:=Lt.dfu l
theorem Lt.Qeh (a b:List Lt):Lt.ds a++Lt.ds b=Lt.ds (a++b):=by unfold Lt.ds; rw [yD]
theorem Lt.UI (a:List Lt):(Lt.ds a).length=a.length:=by unfold Lt.ds; rw [zE]
theorem Lt.Qei (a:List Lt):((Lt.ds a).all fun l=>l.length == 3)=true:=by
 unfold Lt.ds
 rw [zN]
 intro e he
 obtain ⟨b,_,rfl⟩:=yI.1 he
 rfl
theorem Lt.Qe7 (a:List Lt):((a.map Lt.d).map fun x=>x.map D.ot)=Lt.ds a:=by unfold Lt.ds; rw [yN]; rfl
theorem Cc:modes 95=⟨[],.asis,some Od,false⟩:=by unfold modes; rfl
theorem BW:modes 94=⟨[true],.asis,some Li,false⟩:=by unfold modes; rfl
theorem AM:modes 99=⟨[true],.asis,some Pa,false⟩:=by unfold modes; rfl
theorem QaI (xs:List Lt) (h0:xs≠[]) (h:xs.length≤1048576):E 95 [.arr (xs.map Lt.d)] []=some (.ref 0,[.row 73 3 (Lt.ds xs)]):=by
 rw [Ha (g:=Od) (congrArg FM.ext Cc)]
 unfold Od
 simp only
 rw [At ⟨by simpa using h0,by simpa using h,fun e he=>by obtain ⟨b,_,rfl⟩:=yI.1 he; rfl⟩,cond_true,Lt.Qe7]
theorem YD (xs:List Lt) (i:Int) (h0:0≤i) (h1:i.toNat<xs.length) (h:xs.length≤1048576):E 94 [.ref 0,.int .i64 i,.int .i64 (i+1)] [.row 73 3 (Lt.ds xs)]=some (.ref 1,[.gone,.row 73 3 (Lt.ds (xs.eraseIdx i.toNat))]):=by
 rw [Ha (g:=Li) (congrArg FM.ext BW)]
 unfold Li
 simp only
 rw [At ⟨trivial,h0,by rw [Lt.UI]; exact h1,trivial,by rw [Lt.UI]; omega⟩,cond_true]
 unfold Lt.ds
 rw [TD]
theorem Qcj:E 99 [.nil,.int .i64 0] []=some (.nil,[]):=by
 rw [Ha (g:=Pa) (congrArg FM.ext AM)]
 unfold Pa
 simp only
 rw [At trivial,cond_true]
theorem Qck (n:Int) (h:0<n) (h1:n≤1048576):E 99 [.nil,.int .i64 n] []=some (.ref 0,[.row 73 3 []]):=by
 rw [Ha (g:=Pa) (congrArg FM.ext AM)]
 unfold Pa
 simp only
 rw [A3 (by omega),cond_false,At ⟨h,h1⟩,cond_true]
def KA:SC:=(.seq (.reg [⟨some 2,none,.boxv 28 1 (.t 0)⟩,⟨some 4,none,.mv (.c .nil)⟩]) (.seq (.reg [⟨some 5,none,.faddr 0 (.t 2)⟩,⟨some 6,none,.load false 1 (.t 5)⟩,⟨some 7,none,.call 95 [(.t 6)]⟩,⟨some 8,none,.mv (.t 1)⟩,⟨some 9,none,.mv (.t 1)⟩,⟨some 10,none,.bin .add false (.t 9) (.c (.int .i64 1))⟩,⟨some 11,none,.call 94 [(.t 7),(.t 8),(.t 10)]⟩,⟨some 4,none,.mv (.t 11)⟩]) .ret))
theorem R1:codeOf Tryz.prog 59=some ⟨12,KA,[(.tmp 4)]⟩:=by kernel_rfl
theorem KB:modes 59=⟨[],.own [some (73,3)],none,false⟩:=by unfold modes; rfl
theorem TE (c:Cl) (hl:c.lits.length≤1048575) (i:Int) (h0:0≤i) (h1:i.toNat<c.lits.length):E 59 [c.sv,.int .i64 i] []=some (.ref 0,[.row 73 3 (Lt.ds (c.lits.eraseIdx i.toNat))]):=by
 have hcs:c.sv=.agg [.arr (c.lits.map Lt.d)]:=rfl
 have h2:=QaI c.lits (fun e=>by rw [e] at h1; simp at h1) (by omega)
 have h3:=YD c.lits i h0 h1 (by omega)
 refine Af R1 KB (of_decide_eq_true rfl) ?_
 simp (disch:=omega) only [KA,go_sem,Aa,h2,h3,Cc,BW]
def BX:SC:=(.seq (.reg [⟨some 2,none,.mv (.c .nil)⟩]) (.seq (.reg [⟨some 3,none,.mv (.c (.int .i64 0))⟩]) (.seq (.seq (.reg [⟨some 9,none,.mv (.t 0)⟩,⟨some 10,none,.len false (.t 9)⟩,⟨some 11,none,.mv (.c (.int .i64 0))⟩]) (.block 0 (.loop [1,0,0,1,0,0,0,0,0,1,1,1,0,0,0,0,0,0,0,0,0,0,0,0,0,0,0,0,0,0,0,0,0,0,0,0] (.seq (.reg [⟨some 12,none,.bin .lss false (.t 11) (.t 10)⟩]) (.seq (.cond (.t 12) .skip (.exit 0)) (.seq (.block 1 (.seq (.reg [⟨some 13,none,.iaddr 1 (.t 9) (.t 11)⟩,⟨some 14,none,.load false 1 (.t 13)⟩,⟨some 5,none,.mv (.t 14)⟩]) (.seq (.reg [⟨some 15,none,.mv (.t 3)⟩,⟨some 16,none,.mv (.t 5)⟩,⟨some 17,none,.len false (.t 16)⟩,⟨some 18,none,.bin .add false (.t 15) (.t 17)⟩,⟨some 3,none,.mv (.t 18)⟩]) (.seq (.reg [⟨some 19,none,.mv (.t 3)⟩,⟨some 20,none,.bin .lss false (.t 19) (.c (.int .i64 0))⟩]) (.cond (.t 20) (.reg [⟨some 21,none,.un .neg (.c .nil)⟩,⟨none,none,(.un .neg (.c .nil))⟩]) .skip))))) (.reg [⟨some 22,none,.bin .add false (.t 11) (.c (.int .i64 1))⟩,⟨some 11,none,.mv (.t 22)⟩]))))))) (.seq (.reg [⟨some 23,none,.mv (.t 3)⟩,⟨some 24,none,.call 99 [(.c .nil),(.t 23)]⟩,⟨some 6,none,.mv (.t 24)⟩]) (.seq (.seq (.reg [⟨some 25,none,.mv (.t 0)⟩,⟨some 26,none,.len false (.t 25)⟩,⟨some 27,none,.mv (.c (.int .i64 0))⟩]) (.block 2 (.loop [0,0,0,0,0,0,1,0,0,0,0,0,0,0,0,0,0,0,0,0,0,0,0,0,0,1,1,1,0,0,0,0,0,0,0,0] (.seq (.reg [⟨some 28,none,.bin .lss false (.t 27) (.t 26)⟩]) (.seq (.cond (.t 28) .skip (.exit 2)) (.seq (.block 3 (.seq (.reg [⟨some 29,none,.iaddr 1 (.t 25) (.t 27)⟩,⟨some 30,none,.load false 1 (.t 29)⟩,⟨some 8,none,.mv (.t 30)⟩]) (.reg [⟨some 31,none,.mv (.t 6)⟩,⟨some 32,none,.mv (.t 8)⟩,⟨(some 33),none,(.append 73 3 48 [(.bool false),(.str ⟨#[]⟩),.nil] (.t 31) (.t 32))⟩,⟨some 6,none,.mv (.t 33)⟩]))) (.reg [⟨some 34,none,.bin .add false (.t 27) (.c (.int .i64 1))⟩,⟨some 27,none,.mv (.t 34)⟩]))))))) (.seq (.reg [⟨some 35,none,.mv (.t 6)⟩,⟨some 2,none,.mv (.t 35)⟩]) .ret))))))
theorem DC:codeOf Tryz.prog 67=some ⟨36,BX,[(.tmp 2)]⟩:=by kernel_rfl
theorem BY:modes 67=⟨[],.own [some (73,3)],none,false⟩:=by unfold modes; rfl
theorem Qcl (xs:List (List Lt)) (hx:xs.length≤1024) (hs:xs.flatten.length≤1048576):E 67 [.arr (xs.map fun l=>[D.arr (l.map Lt.d)])] []=some (.ref 0,[.row 73 3 (Lt.ds xs.flatten)]):=by
  have hd0:Lt.ds []=[]:=rfl
  refine Af DC BY (of_decide_eq_true rfl) ?_
  simp (disch:=omega) only [BX,go_sem,Aa]
  refine go_loop (α:=Int × (Int)) (fun a=>⟨slots 36 0 [(0,.arr (xs.map fun l=>[D.arr (l.map Lt.d)])),(3,.int .i64 (a.2)),(9,.arr (xs.map fun l=>[D.arr (l.map Lt.d)])),(10,.int .i64 xs.length),(11,.int .i64 (a.1))],[]⟩) (fun a=>∃ k:Nat,a.1=k∧k≤(xs).length∧(a.2)+((xs.drop k).flatten.length:Int)=xs.flatten.length∧0≤(a.2)) (fun a=>(xs).length-(a.1).toNat) (0,0) ⟨0,rfl,zG _,by rw [zL]; dsimp only; omega,Int.le_refl _⟩ (by simp (disch:=omega) only [go_sem,Aa]) ?_
  rintro ⟨i,n⟩ ⟨k,hi,hk,hR⟩
  dsimp only at hi hR
  have hni:i.toNat=k:=by omega
  have hni1:(i+1).toNat=k+1:=by omega
  rcases zB k (xs).length with hlt | hge
  · have hg:=get_at (fun l:List Lt=>[D.arr (l.map Lt.d)]) hlt
    rw [zH hlt,yZ,zU] at hR
    obtain ⟨hR1,hR2⟩:=hR
    have hge:dec (n+(xs[k].length:Int)<0)=false:=A3 (by omega)
    simp (disch:=omega) only [go_sem,Aa,hni,hg,hge]
    refine ⟨(i+1,n+xs[k].length),⟨k+1,by dsimp only; omega,hlt,by dsimp only; omega,by dsimp only; omega⟩,by dsimp only; omega,?_⟩
    first | trivial | rfl
  · rw [zI hge] at hR
    obtain ⟨hR1,hR2⟩:=hR
    have hn:n=xs.flatten.length:=by simpa using hR1
    clear hR1 hR2
    rcases zF xs.flatten.length with hz | hz
    · have hxe:∀ l∈xs,l=[]:=by
        have:=zD hz
        rwa [List.flatten_eq_nil_iff] at this
      have hfe:xs.flatten=[]:=zD hz
      obtain rfl:n=0:=by omega
      have hgr:=Qcj
      rw [hfe]
      simp (disch:=omega) only [go_sem,Aa,hni,hgr,AM]
      clear hi hni hni1 hk hge
      refine go_loop (α:=Int) (fun a=>⟨slots 36 0 [(6,(if a=0 then .nil else .ref 0)),(25,.arr (xs.map fun l=>[D.arr (l.map Lt.d)])),(26,.int .i64 xs.length),(27,.int .i64 a)],(if a=0 then [] else [.row 73 3 []])⟩) (fun a=>∃ k:Nat,a=k∧k≤(xs).length) (fun a=>(xs).length-(a).toNat) 0 ⟨0,rfl,zG _⟩ (by simp (disch:=omega) only [go_sem,Aa,eq_self,if_true]) ?_
      rintro i ⟨k,hi,hk⟩
      have hni:i.toNat=k:=by omega
      have hni1:(i+1).toNat=k+1:=by omega
      rcases zB k (xs).length with hlt | hge
      · have hg:=get_at (fun l:List Lt=>[D.arr (l.map Lt.d)]) hlt
        rw [hxe _ (zC hlt)] at hg
        rcases zF k with h0 | h0
        · subst h0
          obtain rfl:i=0:=hi
          simp (disch:=omega) only [go_sem,Aa,hg,eq_self,if_true]
          exact ⟨1,⟨1,rfl,hlt⟩,by omega,by first | trivial | rfl⟩
        · have hi0:(i=0)=False:=by simp; omega
          have hi1:(i+1=0)=False:=by simp; omega
          simp (disch:=omega) only [go_sem,Aa,hni,hg,hi0,if_false]
          exact ⟨i+1,⟨k+1,by omega,hlt⟩,by omega,by simp only [hi1,if_false,and_self]⟩
      · rcases zF k with h0 | h0
        · subst h0
          obtain rfl:i=0:=hi
          simp (disch:=omega) only [go_sem,Aa,eq_self,if_true,hd0]
        · have hi0:(i=0)=False:=by simp; omega
          simp (disch:=omega) only [go_sem,Aa,hni,hi0,if_false,hd0]
    · have hgr:=Qck n (by omega) (by omega)
      simp (disch:=omega) only [go_sem,Aa,hni,hgr,AM]
      clear hi hni hni1 hk hge
      refine go_loop (α:=Int × (List Lt)) (fun a=>⟨slots 36 0 [(6,.ref 0),(25,.arr (xs.map fun l=>[D.arr (l.map Lt.d)])),(26,.int .i64 xs.length),(27,.int .i64 (a.1))],[.row 73 3 (Lt.ds (a.2))]⟩) (fun a=>∃ k:Nat,a.1=k∧k≤(xs).length∧(a.2)++(xs.drop k).flatten=xs.flatten) (fun a=>(xs).length-(a.1).toNat) (0,[]) ⟨0,rfl,zG _,by rw [zL]; rfl⟩ (by simp (disch:=omega) only [go_sem,Aa,hd0]) ?_
      rintro ⟨i,acc⟩ ⟨k,hi,hk,hR⟩
      dsimp only at hi hR
      have hni:i.toNat=k:=by omega
      have hni1:(i+1).toNat=k+1:=by omega
      rcases zB k (xs).length with hlt | hge
      · have hg:=get_at (fun l:List Lt=>[D.arr (l.map Lt.d)]) hlt
        rw [zH hlt,yZ,← y2] at hR
        have hlen:=congrArg List.length hR
        rw [zU,zU] at hlen
        have hap:Lt.ds acc++Lt.ds xs[k]=Lt.ds (acc++xs[k]):=Lt.Qeh _ _
        have h1:=Lt.Qe7 xs[k]
        have h2:=Lt.UI xs[k]
        have h3:=Lt.UI acc
        have h4:=Lt.Qei xs[k]
        simp (disch:=omega) only [go_sem,Aa,hni,hg,hap,h1,h2,h3,h4]
        refine ⟨(i+1,acc++xs[k]),⟨k+1,by dsimp only; omega,hlt,hR⟩,by dsimp only; omega,?_⟩
        first | trivial | rfl | simp only [hap]
      · rw [zI hge] at hR
        have hR:acc=xs.flatten:=by simpa using hR
        rw [←hR]
        simp (disch:=omega) only [go_sem,Aa,hni]
theorem Ls (a:ByteArray):a.toList=a.data.toList:=ByteArray.toList_eq a
theorem TF (p a b:ByteArray):strLt (p++a) (p++b)=strLt a b:=by
 unfold strLt
 rw [Ls,Ls,Ls a,Ls b,yU,yU,yW,yW]
 induction p.data.toList with
 | nil=>rfl
 | cons c l ih =>
  rw [yB,yB]
  simp only [Op.bytesLess,ih]
  simp
theorem Nu {p a b:ByteArray}:p++a=p++b ↔ a=b:=by
 constructor
 ·intro h
  have h2:=congrArg (fun x:ByteArray=>x.data.toList) h
  simp only [yU,yW] at h2
  have h3:=List.append_cancel_left h2
  exact VX (by rw [Ls,Ls]; exact h3)
 ·intro h; rw [h]
theorem Qcm (p q a b:ByteArray):Ej (p++a) (p++b)=Ej (q++a) (q++b):=by
 unfold Ej
 rw [TF,TF]
 by_cases h:a=b
 ·rw [At (Nu.2 h),At (Nu.2 h)]
 ·rw [A3 (fun e=>h (Nu.1 e)),A3 (fun e=>h (Nu.1 e))]
def YOf (e:SEnv) (x:Tm):Prop:=∀ v∈x.vs,∃ r,v=Ly++r∧e v=some (Gf++r)
theorem Tm.Qcn {e:SEnv} {x:Tm} (hy:YOf e x) (hn:x.names=true) (hv:An x.name=true):∃ r,x.name=Ly++r∧(x.rn e).name=Gf++r∧x.args=[]∧(x.rn e).args=[]:=by
 have h0:=Tm.En hn hv
 obtain ⟨r,h1,h2⟩:=hy x.name (by rw [Tm.Fz,hv]; simp)
 refine ⟨r,h1,?_,h0,?_⟩
 ·rw [(Tm.LJ e x).1,h0,h2]; rfl
 ·rw [(Tm.LJ e x).2,h0]; rfl
theorem Tm.ZP {e:SEnv} (he:Np e) {x:Tm} (hn:x.names=true):An (x.rn e).name=An x.name:=by
 cases hv:An x.name with
 | false=>rw [Tm.Jp he x hv,hv]
 | true =>
  rw [(Tm.LJ e x).1,Tm.En hn hv]
  show An ((e x.name).getD x.name)=true
  cases h:e x.name with
  | none=>exact hv
  | some n=>exact (he _ _ h).2
theorem YOf.arg {e:SEnv} {x:Tm} (hy:YOf e x) (hv:An x.name=false) {y:Tm} (h:y∈x.args):YOf e y:=fun v hv2=>hy v (by
 rw [Tm.Fz,hv,cond_false,Tm.vsL_mem]
 exact ⟨y,h,hv2⟩)
theorem Qco {p a b:Int} (h:p=0→a=b):orZ p a=orZ p b:=by
 unfold orZ
 by_cases hp:p=0
 ·rw [if_pos hp,if_pos hp,h hp]
 ·rw [if_neg hp,if_neg hp]
theorem Qdz {n m:ByteArray} (h:G8 (kvZ n) (kvZ m)=0):An n=An m:=by
 have:=(E4 _ _ 0).zero.1 h
 unfold kvZ at this
 cases h1:An n <;> cases h2:An m <;> rw [h1,h2] at this <;> first | rfl | (simp at this)
theorem QdI {n m:ByteArray} (h:An n=An m):kvZ n=kvZ m:=by unfold kvZ; rw [h]
mutual
theorem Tm.Qej {e:SEnv} (he:Np e):∀ x y:Tm,x.names=true→y.names=true→YOf e x→YOf e y→(x.rn e).cmp (y.rn e)=x.cmp y
 | .mk n xs,.mk m ys=>fun hx hy ex ey=>by
  have k1:=QdI (Tm.ZP he hx)
  have k2:=QdI (Tm.ZP he hy)
  rw [Tm.Ic,Tm.Ic (.mk n xs),k1,k2]
  refine Qco fun hk=>?_
  have hk:=Qdz hk
  cases hv:An (Tm.mk n xs).name with
  | true =>
   have hw:An (Tm.mk m ys).name=true:=by rw [←hk]; exact hv
   obtain ⟨r,a1,a2,a3,a4⟩:=Tm.Qcn ex hx hv
   obtain ⟨q,b1,b2,b3,b4⟩:=Tm.Qcn ey hy hw
   rw [a1,a2,a3,a4,b1,b2,b3,b4,Qcm Gf Ly]
  | false =>
   have hw:An (Tm.mk m ys).name=false:=by rw [←hk]; exact hv
   rw [Tm.Jp he _ hv,Tm.Jp he _ hw,(Tm.LJ e _).2,(Tm.LJ e _).2,zE,zE]
   rw [show Tm.cmpL ((Tm.mk n xs).args.map (Tm.rn e)) ((Tm.mk m ys).args.map (Tm.rn e))=Tm.cmpL (Tm.mk n xs).args (Tm.mk m ys).args from Tm.UJ he xs ys (fun z hz=>Tm.Eo hx hz) (fun z hz=>Tm.Eo hy hz) (fun z hz=>ex.arg hv hz) fun z hz=>ey.arg hw hz]
theorem Tm.UJ {e:SEnv} (he:Np e):∀ xs ys:List Tm,(∀ z∈xs,z.names=true)→(∀ z∈ys,z.names=true)→(∀ z∈xs,YOf e z)→(∀ z∈ys,YOf e z)→Tm.cmpL (xs.map (Tm.rn e)) (ys.map (Tm.rn e))=Tm.cmpL xs ys
 | [],[]=>fun _ _ _ _=>rfl
 | [],y :: ys=>fun _ _ _ _=>by rw [zJ,zK,Tm.cmpL,Tm.cmpL]
 | x :: xs,[]=>fun _ _ _ _=>by rw [zJ,zK,Tm.cmpL,Tm.cmpL]
 | x :: xs,y :: ys=>fun h1 h2 h3 h4=>by
  rw [zJ,zJ,Tm.cmpL,Tm.cmpL,Tm.Qej he x y (h1 _ (by simp)) (h2 _ (by simp)) (h3 _ (by simp)) (h4 _ (by simp)),Tm.UJ he xs ys (fun z hz=>h1 z (by simp [hz])) (fun z hz=>h2 z (by simp [hz])) (fun z hz=>h3 z (by simp [hz])) fun z hz=>h4 z (by simp [hz])]
end
theorem R2 {x:Tm} (h:x.atom=true):An x.name=false:=by
 unfold Tm.atom at h
 split at h
 ·rename_i hq
  have:x.name=⟨#[61]⟩:=Ar.1 hq
  rw [this]; decide +kernel
 ·rw [zA] at h
  exact Ov h.1
theorem Tm.Qd0 {e:SEnv} (he:Np e) (x y:Tm) (hx:x.atom=true) (hy:y.atom=true) (ex:YOf e x) (ey:YOf e y):(x.rn e).cmp (y.rn e)=x.cmp y:=by
 have hv:=R2 hx
 have hw:=R2 hy
 rw [Tm.Ic,Tm.Ic x,Tm.Jp he _ hv,Tm.Jp he _ hw,(Tm.LJ e _).2,(Tm.LJ e _).2,zE,zE]
 rw [Tm.UJ he x.args y.args (Tm.FF hx).2 (Tm.FF hy).2 (fun z hz=>ex.arg hv hz) fun z hz=>ey.arg hw hz]
theorem Cl.YE {c:Cl} (hc:c.ok=true) (hn:c.norm=true):(c.rn (Dl Gf c.ns)).lits=c.lits.map (Lt.rn (Dl Gf c.ns)):=by
 have he:=Cl.yE hc
 have hnl:Nq c.ns:=Ar.1 hn
 have hy:∀ x∈c.lits,YOf (Dl Gf c.ns) x.atom:=fun x hx v hv=>by
  have hm:v∈c.ns:=Cl.Qcd.2 ⟨x,hx,hv⟩
  obtain ⟨k,hk,rfl⟩:=zW hm
  exact ⟨EX k,hnl k hk,Rx Gf c.ns_nodup hk⟩
 have hs:CP (c.lits.map (Lt.rn (Dl Gf c.ns))):=by
  unfold CP
  rw [List.pairwise_map]
  refine List.Pairwise.imp_of_mem ?_ (Cl.TB hc)
  intro a b ha hb h
  have e:((Lt.rn (Dl Gf c.ns) a).cmp (Lt.rn (Dl Gf c.ns) b))=a.cmp b:=by
   unfold Lt.cmp Lt.rn
   dsimp only
   rw [Tm.Qd0 he _ _ (Cl.CR hc a ha) (Cl.CR hc b hb) (hy a ha) (hy b hb)]
  rw [e]; exact h
 unfold Cl.rn
 rw [WB hs]
def bdLe (x y:Bd):Bool:=!strLt y.var x.var
def Gh:List Bd→Bd→List Bd
 | [],b=>[b]
 | x :: xs,b=>bif strLt x.var b.var then x :: Gh xs b else b :: x :: xs
theorem Lu (b:Bd):∀ xs:List Bd,(Gh xs b).Perm (b :: xs)
 | []=>.refl _
 | x :: xs=>by
  rw [Gh]
  cases strLt x.var b.var with
  | true=>exact ((Lu b xs).cons x).trans (.swap b x xs)
  | false=>exact .refl _
theorem R4 {a b c:Bd} (h:bdLe a b=true) (k:bdLe b c=true):bdLe a c=true:=by
  unfold bdLe at *
  cases hq:strLt c.var a.var with
  | false=>rfl
  | true =>
    cases hb:strLt b.var a.var with
    | true=>rw [hb] at h; cases h
    | false =>
      cases hc:strLt c.var b.var with
      | true=>rw [hc] at k; cases k
      | false =>
        cases hab:strLt a.var b.var with
        | true=>rw [K1 hq hab] at hc; cases hc
        | false =>
          have:=K0 hab hb
          rw [this] at hq; rw [hq] at hc; cases hc
theorem YF (a b:Bd):(bdLe a b || bdLe b a)=true:=by
 unfold bdLe
 cases h:strLt b.var a.var with
 | false=>rfl
 | true=>rw [Kz h]; rfl
theorem Pf (b:Bd):∀ xs:List Bd,xs.Pairwise (fun x y=>bdLe x y=true)→(Gh xs b).Pairwise fun x y=>bdLe x y=true
  | [],_=>by simp [Gh]
  | x :: xs,h=>by
    rw [Gh]
    rw [zY] at h
    cases hq:strLt x.var b.var with
    | true =>
      rw [cond_true,zY]
      refine ⟨fun y hy=>?_,Pf b xs h.2⟩
      rcases yK.1 ((Lu b xs).mem_iff.1 hy) with rfl | hy
      · unfold bdLe; rw [Kz hq]; rfl
      · exact h.1 y hy
    | false =>
      have hb:bdLe b x=true:=by unfold bdLe; rw [hq]; rfl
      rw [cond_false,zY,zY]
      refine ⟨fun y hy=>?_,h⟩
      rcases yK.1 hy with rfl | hy
      · exact hb
      · exact R4 hb (h.1 y hy)
def Il (xs ys:List Bd):List Bd:=ys.foldl Gh xs
theorem O3:∀ (ys xs:List Bd),(Il xs ys).Perm (xs++ys)
 | [],xs=>by simp [Il]
 | y :: ys,xs=>by
  have h:=O3 ys (Gh xs y)
  simp only [Il,z7] at h ⊢
  refine h.trans ?_
  have h2:(Gh xs y++ys).Perm ((y :: xs)++ys):=(Lu y xs).append_right ys
  exact h2.trans List.perm_middle.symm
theorem Pg:∀ (ys xs:List Bd),xs.Pairwise (fun x y=>bdLe x y=true)→(Il xs ys).Pairwise fun x y=>bdLe x y=true
 | [],xs,h=>h
 | y :: ys,xs,h=>by
  simp only [Il,z7]
  exact Pg ys (Gh xs y) (Pf y xs h)
theorem Qcp (xs a b:List Bd):Il xs (a++b)=Il (Il xs a) b:=y3
theorem QaJ {ys:List Bd} (hn:(ys.map Bd.var).Nodup):Il [] ys=ys.mergeSort bdLe:=by
 have h1:(Il [] ys).Perm ys:=by simpa using O3 ys []
 have h2:(ys.mergeSort bdLe).Perm ys:=List.mergeSort_perm _ _
 refine List.Perm.eq_of_pairwise (le:=fun x y=>bdLe x y=true) ?_ (Pg ys [] y8) (List.pairwise_mergeSort (le:=bdLe) (fun _ _ _ h k=>R4 h k) YF ys) (h1.trans h2.symm)
 intro a b ha hb hab hba
 unfold bdLe at hab hba
 have e:a.var=b.var:=K0 (by simpa using hba) (by simpa using hab)
 have ha:=h1.mem_iff.1 ha
 have hb:=h2.mem_iff.1 hb
 obtain ⟨i,hi,rfl⟩:=zW ha
 obtain ⟨j,hj,rfl⟩:=zW hb
 have hij:i=j:=(List.getElem_inj (h₀:=by simpa using hi) (h₁:=by simpa using hj) hn).1 (by simpa using e)
 subst hij; rfl
theorem WE (b:Bd):∀ xs:List Bd,Gh xs b=xs.take (Bm xs b.var)++b :: xs.drop (Bm xs b.var)
 | []=>by simp [Gh,Bm]
 | x :: xs=>by
  rw [Gh,Bm]
  cases h:strLt x.var b.var with
  | true=>rw [cond_true,WE b xs]; simp
  | false=>simp
noncomputable def CH (u:Sb) (b:Bd):Option Bd:=bif dec ((b.term.ap u.look).name=b.var) then none else some ⟨b.var,b.term.ap u.look⟩
noncomputable def Hq (s u:Sb):List Bd:=s.binds.filterMap (CH u)
noncomputable def ZQ (s u:Sb):List Bd:=u.binds.filter fun b=>!DJ s.binds b.var
noncomputable def Cr (s u:Sb):List Bd:=Hq s u++ZQ s u
noncomputable def Ck (s u:Sb):Sb:=⟨(Cr s u).mergeSort bdLe⟩
theorem Ms:∀ {xs:List Bd},Nl xs→(xs.map Bd.var).Nodup:=by
 intro xs h
 unfold List.Nodup
 rw [yO]
 intro i j hi hj hij e
 rw [zE] at hj
 have:=h i j hij hj
 simp only [yC] at e
 rw [e,Hi] at this
 cases this
theorem WF {xs:List Bd} (hs:Nl xs) (n:ByteArray):DJ xs n=xs.any fun b=>dec (b.var=n):=by
 rw [←MT,Rm hs]
 cases DJ xs n with
 | true=>rw [if_pos rfl]; exact (At (by omega)).symm
 | false=>rw [if_neg (by simp)]; exact (A3 (by omega)).symm
theorem TG {s u:Sb} {b:Bd} (h:b∈Hq s u):∃ c∈s.binds,b.var=c.var∧b.term=c.term.ap u.look:=by
 obtain ⟨c,hc,h⟩:=List.mem_filterMap.1 h
 refine ⟨c,hc,?_⟩
 unfold CH at h
 cases hq:dec ((c.term.ap u.look).name=c.var) with
 | true=>rw [hq] at h; cases h
 | false=>rw [hq] at h; obtain rfl:=yP h; exact ⟨rfl,rfl⟩
theorem KC (u:Sb):∀ xs:List Bd,((xs.filterMap (CH u)).map Bd.var).Sublist (xs.map Bd.var)
  | []=>.slnil
  | x :: xs=>by
    rw [List.filterMap_cons,zJ]
    have h:=KC u xs
    cases hq:CH u x with
    | none=>exact h.cons _
    | some c =>
      have e:c.var=x.var:=by
        unfold CH at hq
        cases hd:dec ((x.term.ap u.look).name=x.var) with
        | true=>rw [hd] at hq; cases hq
        | false=>rw [hd] at hq; obtain rfl:=yP hq; rfl
      simp only [zJ,e]
      exact h.cons_cons _
theorem Nv {s u:Sb} (hs:Nl s.binds) (hu:Nl u.binds):((Cr s u).map Bd.var).Nodup:=by
 unfold Cr
 rw [yD,List.nodup_append]
 refine ⟨(KC u s.binds).nodup (Ms hs),(List.Sublist.map _ List.filter_sublist).nodup (Ms hu),fun a ha b hb e=>?_⟩
 subst e
 obtain ⟨x,hx,rfl⟩:=yI.1 ha
 obtain ⟨y,hy,e⟩:=yI.1 hb
 obtain ⟨c,hc,h1,_⟩:=TG hx
 have hy2:=(List.mem_filter.1 hy).2
 rw [WF hs,Bool.not_eq_true'] at hy2
 have:=List.any_eq_false.1 hy2 c hc
 exact this (At (by rw [←h1,e]))
theorem R5 (s u:Sb):(Cr s u).length≤s.binds.length+u.binds.length:=by
 unfold Cr Hq ZQ
 rw [zU]
 have h1:=List.length_filterMap_le (CH u) s.binds
 have h2:=List.length_filter_le (fun b=>!DJ s.binds b.var) u.binds
 omega
end Go.Proofs.YtibdknkacmimgaaGreatDoor
