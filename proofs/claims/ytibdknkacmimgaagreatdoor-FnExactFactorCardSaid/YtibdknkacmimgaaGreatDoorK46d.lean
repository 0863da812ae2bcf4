/-
  This text holds, one behind the other: This text gives the steps of runs once more, of a kind where no draw is taken back: no function is told apart there. No condition.
  This text tells what the comparison of literals answers, as a function that takes no draw back. No condition.
  This text tells what the equality of terms answers in both packages. No condition.
  This text tells what copies of terms answer in both packages. No condition.
  This text holds a rule for runs of which a part of the answer is left open. No condition.
  This text tells what the reference's copies of terms answer. No condition.
  This text tells what making a clause of a list of literals answers in both packages: the list in order, without repeats. No condition.
  This text tells what the reference's making of a clause answers. No condition.
  This text holds plain laws of the order of names. No condition.
  This text tells what the validity of substitutions answers in both packages, and the place of a binding. No condition.
  This text tells what the search for a binding answers. No condition.
  This text holds the plain laws of applying a substitution to a term. No condition.
  This text tells what applying a substitution answers in both packages. No condition.
  This text holds plain laws of expressions and of the sizes of terms. No condition.
  This text tells what ApplySubstitution answers in both packages. No condition.
  This text holds plain laws of atoms. No condition.
  This text tells what applying a substitution to a clause answers in both packages. No condition.
  This text holds a plain law of atoms. No condition.
  This text tells what the variables of a term answer in both packages. No condition.
  This text tells what the variables of a clause answer. No condition.
  This text tells what the reference's application of a substitution to a clause answers, and ApplyToClause of both packages. No condition.
  This text holds plain laws of renaming variables: maps from names to names, fresh names. No condition.
  This text holds plain laws of numerals: no two numbers have the same; numbered names, the next one that is not taken. No condition.
  This text holds plain laws of renaming the variables of clauses. No condition.
  This text tells what renaming a term by a map and printing a number answer. No condition.
  This text tells what copying, renaming and normalizing a clause answer in the program. No condition.
  This text tells what renaming and normalizing a clause answer in the program. No condition.
  This text tells what renaming a clause apart, and literals left out and joined, answer in the program. No condition.
  This text holds the plain laws of composing substitutions. No condition.
  This text tells what the laws' marks answer. No condition.
  This text tells what the laws read of the marks. No condition.
  This text tells what the laws' marks of a record answer. No condition.
-/
import Derived.Test.YtibdknkacmimgaaGreatDoorK46c
set_option maxHeartbeats 16000000
set_option maxRecDepth 100000
set_option linter.unusedSimpArgs false
set_option linter.unusedVariables false
set_option linter.unusedSectionVars false
namespace Go.Proofs.YtibdknkacmimgaaGreatDoor
open Go.RowKit
namespace Wd
def modes:FuncId→FM:=fun _=>⟨[],.asis,none,false⟩
theorem mode (f:FuncId):modes f=⟨[],.asis,none,false⟩:=rfl
theorem LW:@M1 Px Tryz.prog modes:=fun _ _ _ _ _ _ hg _=>by cases hg
noncomputable def E:FEnv:=ev Tryz.prog modes
noncomputable def calls:CallF:=CQ modes E
theorem E_told {f:FuncId} {xs:List SV} {ob:List Ob} {r:SV} {ob':List Ob} (h:E f xs ob=some (r,ob')):QcK Tryz.prog f xs ob r ob':=@Zg Px _ _ Qbe LW f xs ob r ob' h
noncomputable def run (n0:Nat):SC→St→Option (X × St):=fr Tryz.prog calls (IW n0)
def go (n0:Nat) (sc:SC) (st:St) (K:X→St→Prop):Prop:=∃ x st',run n0 sc st=some (x,st')∧K x st'
def Q3 (n0:Nat) (b:SC) (K:X→St→Prop):X→St→Prop
 | .normal,st=>go n0 b st K
 | .exit i,st=>K (.exit i) st
 | .ret,st=>K .ret st
def blk (id:Nat) (K:X→St→Prop):X→St→Prop
 | .normal,st=>K .normal st
 | .exit i,st=>if i=id then K .normal st else K (.exit i) st
 | .ret,st=>K .ret st
def Q4 (r:Option St) (k:X→St→Prop):Prop :=
 match r with
 | some st=>k .normal st
 | none=>False
def Q5 (anc:List (List Nat)) (r:Option (List Ent × St)) (k:X→St→Prop):Prop :=
 match r with
 | some (es,st)=>obB anc [] (Gt es) 0=true∧k .normal st
 | none=>False
def Ht (v:SV) (a b:Unit→Prop):Prop :=
 match v with
 | .bool true=>a ()
 | .bool false=>b ()
 | _=>False
noncomputable def LX (ops:List SOper) (st:St):Option St:=Pc Tryz.prog calls ops st
noncomputable def LY (ops:List SOper) (acc:List Ent) (st:St):Option (List Ent × St):=HV Tryz.prog calls ops acc st
section
variable {n0:Nat} {st:St} {K:X→St→Prop}
theorem go_skip:go n0 .skip st K=K .normal st:=by
 refine propext ⟨fun ⟨x,st',h,k⟩=>?_,fun k=>⟨_,_,rfl,k⟩⟩
 obtain ⟨rfl,rfl⟩:X.normal=x∧st=st':=by simpa [run,fr] using h
 exact k
theorem Ua {i:Nat}:go n0 (.exit i) st K=K (.exit i) st:=by
 refine propext ⟨fun ⟨x,st',h,k⟩=>?_,fun k=>⟨_,_,rfl,k⟩⟩
 obtain ⟨rfl,rfl⟩:X.exit i=x∧st=st':=by simpa [run,fr] using h
 exact k
theorem go_ret:go n0 .ret st K=K .ret st:=by
 refine propext ⟨fun ⟨x,st',h,k⟩=>?_,fun k=>⟨_,_,rfl,k⟩⟩
 obtain ⟨rfl,rfl⟩:X.ret=x∧st=st':=by simpa [run,fr] using h
 exact k
theorem XK {ops:List SOper}:go n0 (.reg ops) st K=Q4 (LX ops st) K:=by
 unfold Q4 LX
 refine propext ⟨fun ⟨x,st',h,k⟩=>?_,fun k=>?_⟩
 ·simp only [run,fr] at h
  split at h
  ·rename_i s hs
   simp only [Option.some.injEq,Prod.mk.injEq] at h
   obtain ⟨rfl,rfl⟩:=h
   first | exact k | (simp only [hs]; exact k)
  ·cases h
 ·split at k
  ·rename_i s hs
   exact ⟨.normal,s,by simp only [run,fr,hs],k⟩
  ·exact k.elim
theorem Ub {anc:List (List Nat)} {ops:List SOper}:go n0 (.dreg anc ops) st K=Q5 anc (LY ops [] st) K:=by
 unfold Q5 LY
 refine propext ⟨fun ⟨x,st',h,k⟩=>?_,fun k=>?_⟩
 ·simp only [run,fr] at h
  split at h
  ·rename_i es s hs
   obtain ⟨h1,h2⟩:=Ap h
   simp only [Option.some.injEq,Prod.mk.injEq] at h2
   obtain ⟨rfl,rfl⟩:=h2
   first | exact ⟨h1,k⟩ | (simp only [hs]; exact ⟨h1,k⟩)
  ·cases h
 ·split at k
  ·rename_i es s hs
   exact ⟨.normal,s,by simp only [run,fr,hs,k.1,cond_true],k.2⟩
  ·exact k.elim
theorem XL {a b:SC}:go n0 (.seq a b) st K=go n0 a st (Q3 n0 b K):=by
 refine propext ⟨fun ⟨x,st',h,k⟩=>?_,fun ⟨x,st',h,k⟩=>?_⟩
 ·simp only [run,fr,Cw] at h
  split at h
  ·rename_i s hs
   exact ⟨.normal,s,hs,x,st',h,k⟩
  ·rename_i i s hs
   simp only [Option.some.injEq,Prod.mk.injEq] at h
   obtain ⟨rfl,rfl⟩:=h
   exact ⟨_,_,hs,k⟩
  ·rename_i s hs
   simp only [Option.some.injEq,Prod.mk.injEq] at h
   obtain ⟨rfl,rfl⟩:=h
   exact ⟨_,_,hs,k⟩
  ·cases h
 ·simp only [run] at h
  cases x with
  | normal =>
   obtain ⟨x2,st2,h2,k2⟩:=k
   exact ⟨x2,st2,by simp only [run,fr,Cw,h]; exact h2,k2⟩
  | exit i=>exact ⟨_,st',by simp only [run,fr,Cw,h],k⟩
  | ret=>exact ⟨_,st',by simp only [run,fr,Cw,h],k⟩
theorem Q6 {id:Nat} {b:SC}:go n0 (.block id b) st K=go n0 b st (blk id K):=by
  refine propext ⟨fun ⟨x,st',h,k⟩=>?_,fun ⟨x,st',h,k⟩=>?_⟩
  · simp only [run,fr,EG] at h
    split at h
    · rename_i s hs
      simp only [Option.some.injEq,Prod.mk.injEq] at h
      obtain ⟨rfl,rfl⟩:=h
      exact ⟨.normal,s,hs,k⟩
    · rename_i i s hs
      refine ⟨.exit i,s,hs,?_⟩
      simp only [blk]
      by_cases hi:i=id
      · simp only [if_pos hi,Option.some.injEq,Prod.mk.injEq] at h ⊢
        obtain ⟨rfl,rfl⟩:=h
        exact k
      · simp only [if_neg hi,Option.some.injEq,Prod.mk.injEq] at h ⊢
        obtain ⟨rfl,rfl⟩:=h
        exact k
    · rename_i s hs
      simp only [Option.some.injEq,Prod.mk.injEq] at h
      obtain ⟨rfl,rfl⟩:=h
      exact ⟨_,s,hs,k⟩
    · cases h
  · simp only [run] at h
    cases x with
    | normal=>exact ⟨_,st',by simp only [run,fr,EG,h],k⟩
    | exit i =>
      simp only [blk] at k
      by_cases hi:i=id
      · simp only [if_pos hi] at k
        exact ⟨.normal,st',by simp only [run,fr,EG,h,if_pos hi],k⟩
      · simp only [if_neg hi] at k
        exact ⟨.exit i,st',by simp only [run,fr,EG,h,if_neg hi],k⟩
    | ret=>exact ⟨_,st',by simp only [run,fr,EG,h],k⟩
theorem Aa {q:SX} {a b:SC}:go n0 (.cond q a b) st K=Ht (A4 (gets st.sl) q) (fun _=>go n0 a st K) (fun _=>go n0 b st K):=by
 unfold Ht
 refine propext ⟨fun ⟨x,st',h,k⟩=>?_,fun k=>?_⟩
 ·simp only [run,fr] at h
  split at h
  ·rename_i t ht
   simp only [ht]
   cases t with
   | true=>exact ⟨x,st',h,k⟩
   | false=>exact ⟨x,st',h,k⟩
  ·cases h
 ·split at k
  ·rename_i ht
   obtain ⟨x,st',h,k⟩:=k
   exact ⟨x,st',by simp only [run,fr,ht,cond_true]; exact h,k⟩
  ·rename_i ht
   obtain ⟨x,st',h,k⟩:=k
   exact ⟨x,st',by simp only [run,fr,ht,cond_false]; exact h,k⟩
  ·exact k.elim
theorem Uc {a b:Unit→Prop}:Ht (.bool true) a b=a ():=rfl
theorem Ud {a b:Unit→Prop}:Ht (.bool false) a b=b ():=rfl
theorem Ue {t:Bool} {a b:Unit→Prop}:Ht (.bool (!t)) a b=Ht (.bool t) b a:=by cases t <;> rfl
theorem XM {b:SC}:Q3 n0 b K .normal st=go n0 b st K:=rfl
theorem XN {b:SC} {i:Nat}:Q3 n0 b K (.exit i) st=K (.exit i) st:=rfl
theorem XO {b:SC}:Q3 n0 b K .ret st=K .ret st:=rfl
theorem Qb3 {id:Nat}:blk id K .normal st=K .normal st:=rfl
theorem Qb4 {id i:Nat}:blk id K (.exit i) st=if i=id then K .normal st else K (.exit i) st:=rfl
theorem Qb5 {id:Nat}:blk id K .ret st=K .ret st:=rfl
theorem Uf:Q4 (some st) K=K .normal st:=rfl
def quiet:List Ent→Bool
 | []=>true
 | ⟨_,_,[],_⟩ :: r=>quiet r
 | ⟨_,_,_ :: _,_⟩ :: _=>false
theorem GQ {anc:List (List Nat)} {rd:List Nat} {j:Nat}:∀ {l:List Ent} {i:Nat},quiet l=true→RK anc rd [] j (Gt l) i=true
 | [],i,_=>rfl
 | ⟨_,_,[],rdi⟩ :: r,i,h=>by
  have:=GQ (anc:=anc) (rd:=rd) (j:=j) (l:=r) (i:=i+1) h
  simp only [Gt,List.map_cons,List.map_nil] at this ⊢
  simp only [RK,this,Bool.and_true]
  have e1:meets [] (rd++[])=false:=rfl
  have e2:meets rdi []=false:=by cases rdi <;> simp [meets]
  rw [e1,e2]; rfl
theorem NP {l l':List Ent} (h:quiet l=true) (h':quiet l'=true):quiet (l++l')=true:=by
 induction l with
 | nil=>exact h'
 | cons x r ih =>
  obtain ⟨a,b,c,d⟩:=x
  cases c with
  | nil=>exact ih h
  | cons _ _=>cases h
theorem Ix {anc:List (List Nat)}:∀ {l pre:List Ent} {j:Nat},quiet pre=true→quiet l=true→obB anc (Gt pre) (Gt l) j=true
 | [],pre,j,_,_=>rfl
 | ⟨a,b,[],rd⟩ :: r,pre,j,hp,h=>by
  have e:=Ix (anc:=anc) (l:=r) (pre:=pre++[⟨a,b,[],rd⟩]) (j:=j+1) (NP hp rfl) h
  have e2:=GQ (anc:=anc) (rd:=rd) (j:=j) (i:=0) hp
  simp only [Gt,List.map_append,List.map_cons,List.map_nil] at e e2 ⊢
  simp only [obB,e2,e,Bool.and_self]
theorem Ug {anc:List (List Nat)} {es:List Ent}:Q5 anc (some (es,st)) K=match quiet es with
  | true=>K .normal st
  | false=>obB anc [] (Gt es) 0=true∧K .normal st:=by
 show (obB anc [] (Gt es) 0=true∧K .normal st)=_
 cases h:quiet es with
 | true=>exact propext ⟨fun h=>h.2,fun h'=>⟨Ix (pre:=[]) rfl h,h'⟩⟩
 | false=>rfl
noncomputable def XP (r:List SOper) (e:Option (Ent × St)):Option St :=
 match e with
 | some (_,st)=>LX r st
 | none=>none
noncomputable def XQ (r:List SOper) (acc:List Ent) (e:Option (Ent × St)):Option (List Ent × St) :=
 match e with
 | some (x,st)=>LY r (acc++[x]) st
 | none=>none
noncomputable def opF (so:SOp) (sl:List SV) (ob:List Ob):Option R3:=fOp Tryz.prog calls so sl ob
theorem Q7:LX [] st=some st:=rfl
theorem NQ {d:Option Tmp} {so:SOp} {r:List SOper} {sl:List SV} {ob:List Ob}:LX (⟨d,none,so⟩ :: r) ⟨sl,ob⟩=XP r (GC d ⟨sl,ob⟩ (opF so sl ob)):=rfl
noncomputable def gdF (d:Option Tmp) (so:SOp) (want:Bool) (sl:List SV) (ob:List Ob) (v:SV):Option (Ent × St) :=
 match v with
 | .bool b=>bif RN b want then GC d ⟨sl,ob⟩ (opF so sl ob) else some (⟨false,.tup [],[],[]⟩,⟨E6 sl d (.tup []),ob⟩)
 | .tup []=>some (⟨false,.tup [],[],[]⟩,⟨E6 sl d (.tup []),ob⟩)
 | _=>none
theorem Uh {d:Option Tmp} {k:Nat} {want:Bool} {so:SOp} {r:List SOper} {sl:List SV} {ob:List Ob}:LX (⟨d,some (k,want),so⟩ :: r) ⟨sl,ob⟩=XP r (gdF d so want sl ob (gets sl k)):=rfl
theorem Q8 {acc:List Ent}:LY [] acc st=some (acc,st):=rfl
theorem NR {d:Option Tmp} {so:SOp} {r:List SOper} {acc:List Ent} {sl:List SV} {ob:List Ob}:LY (⟨d,none,so⟩ :: r) acc ⟨sl,ob⟩=XQ r acc (GC d ⟨sl,ob⟩ (opF so sl ob)):=rfl
theorem Ui {d:Option Tmp} {k:Nat} {want:Bool} {so:SOp} {r:List SOper} {acc:List Ent} {sl:List SV} {ob:List Ob}:LY (⟨d,some (k,want),so⟩ :: r) acc ⟨sl,ob⟩=XQ r acc (gdF d so want sl ob (gets sl k)):=rfl
theorem XR {r:List SOper} {e:Ent}:XP r (some (e,st))=LX r st:=rfl
theorem XS {r:List SOper} {acc:List Ent} {e:Ent}:XQ r acc (some (e,st))=LY r (acc++[e]) st:=rfl
theorem Qb6 {d:Option Tmp} {so:SOp} {sl:List SV} {ob:List Ob}:gdF d so true sl ob (.bool true)=GC d ⟨sl,ob⟩ (opF so sl ob):=rfl
theorem XT {d:Option Tmp} {so:SOp} {sl:List SV} {ob:List Ob}:gdF d so false sl ob (.bool false)=GC d ⟨sl,ob⟩ (opF so sl ob):=rfl
theorem XU {d:Option Tmp} {so:SOp} {sl:List SV} {ob:List Ob}:gdF d so true sl ob (.bool false)=some (⟨false,.tup [],[],[]⟩,⟨E6 sl d (.tup []),ob⟩):=rfl
theorem XV {d:Option Tmp} {so:SOp} {sl:List SV} {ob:List Ob}:gdF d so false sl ob (.bool true)=some (⟨false,.tup [],[],[]⟩,⟨E6 sl d (.tup []),ob⟩):=rfl
theorem Qb7 {d:Option Tmp} {so:SOp} {want:Bool} {sl:List SV} {ob:List Ob}:gdF d so want sl ob (.tup [])=some (⟨false,.tup [],[],[]⟩,⟨E6 sl d (.tup []),ob⟩):=rfl
theorem XW {d:Option Tmp} {x:SV} {rd:List Nat}:GC d st (some (x,[],rd))=some (⟨true,x,[],rd⟩,⟨E6 st.sl d x,st.ob⟩):=rfl
theorem XX {d:Option Tmp} {x:SV} {q:Nat × Ob} {u:List (Nat × Ob)} {rd:List Nat}:GC d st (some (x,q :: u,rd))=bif V3 (Dd st.ob (q :: u)).length (q :: u) then some (⟨true,x,q :: u,rd⟩,⟨E6 st.sl d x,Dd st.ob (q :: u)⟩) else none:=rfl
def Kg (ob:List Ob) (xs:List SV) (sel:List Nat) (r:Option (SV × List Ob)) (n:Nat):Option R3 :=
 match r with
 | some (r,fob')=>bif decide (n≤fob'.length) then some (DX sel (Bh sel xs) ob.length r fob') else none
 | none=>none
def XY (hd:List Bool) (f:FuncId) (xs:List SV) (ob:List Ob) (sel:List Nat) (e:List SV→List Ob→Option (SV × List Ob)) (b:Option (List Ob)):Option R3 :=
 match b with
 | some fob=>bif nodupB sel&&HW ob.length sel&&F2 fob.length fob then Kg ob xs sel (e (Fe hd (Ao ob) sel xs) fob) fob.length else none
 | none=>none
def Q9 (hd:List Bool) (f:FuncId) (xs:List SV) (ob:List Ob) (sel:List Nat) (e:List SV→List Ob→Option (SV × List Ob)):Option R3:=XY hd f xs ob sel e (Ev sel ob sel)
theorem QA {f:FuncId} {xs:List SV} {ob:List Ob}:calls f xs ob=Ek (modes f).res (Q9 (modes f).hand f xs ob (reach ob 64 (FF (modes f).hand xs) []) (E f)):=rfl
theorem XZ {r:Option R3}:Ek .asis r=r:=rfl
theorem Ya {r:Option R3}:Ek .frz r=r:=rfl
theorem Yb {l:List (Option (Nat × Nat))} {r:Option R3}:Ek (.own l) r=r:=rfl
theorem Yc {l:List (Option (Nat × Nat))} {r:Option R3}:Ek (.tr l) r=r:=rfl
theorem Yd {l:List Nat} {r:Option R3}:Ek (.frl l) r=r:=rfl
theorem Ye {r:R3}:Ek .late (some r)=Qa r:=rfl
theorem E9:∀ u:List (Nat × Ob),CK [] u=u
 | []=>rfl
 | (g,o) :: u=>by rw [CK,E9 u]; rfl
theorem Yf {m:RM} {b:Bool} {u:List (Nat × Ob)} {rd:List Nat}:Ek m (some (.bool b,u,rd))=some (.bool b,u,rd):=by
 cases m <;> first | rfl | (show some (SV.bool b,CK [] u,rd)=_; rw [E9])
theorem Yg {m:RM} {k:IntKind} {n:Int} {u:List (Nat × Ob)} {rd:List Nat}:Ek m (some (.int k n,u,rd))=some (.int k n,u,rd):=by
 cases m <;> first | rfl | (show some (SV.int k n,CK [] u,rd)=_; rw [E9])
theorem NS {hd:List Bool} {f:FuncId} {xs:List SV} {ob:List Ob} {e:List SV→List Ob→Option (SV × List Ob)}:Q9 hd f xs ob [] e=Kg ob xs [] (e (Fe hd (Ao ob) [] xs) []) 0:=rfl
theorem LZ {hd:List Bool} {f:FuncId} {xs:List SV} {ob:List Ob} {g:Nat} {r:List Nat} {e:List SV→List Ob→Option (SV × List Ob)}:Q9 hd f xs ob (g :: r) e=XY hd f xs ob (g :: r) e (Ev (g :: r) ob (g :: r)):=rfl
theorem Uj {ob:List Ob} {xs:List SV} {r:SV} {fob':List Ob}:Kg ob xs [] (some (r,fob')) 0=some (DX [] (Bh [] xs) ob.length r fob'):=rfl
theorem Uk {ob:List Ob} {xs:List SV} {sel:List Nat} {r:SV} {fob':List Ob} {n:Nat}:Kg ob xs sel (some (r,fob')) n=bif decide (n≤fob'.length) then some (DX sel (Bh sel xs) ob.length r fob') else none:=rfl
theorem Yh {hd:List Bool} {f:FuncId} {xs:List SV} {ob:List Ob} {sel:List Nat} {fob:List Ob} {e:List SV→List Ob→Option (SV × List Ob)}:XY hd f xs ob sel e (some fob)=bif nodupB sel&&HW ob.length sel&&F2 fob.length fob then Kg ob xs sel (e (Fe hd (Ao ob) sel xs) fob) fob.length else none:=rfl
theorem NT {p:Nat} {r:SV}:DX [] [] p r []=(r.ren (sgp [] p),[],[]):=rfl
def DG {α:Type} (n0:Nat) (keep:List Nat) (H:α→St) (R:α→Prop) (μ:α→Nat) (a:α) (K:X→St→Prop):X→St→Prop
 | .normal,st'=>∃ y,R y∧μ y < μ a∧canon n0 keep st'=H y
 | .exit i,st'=>K (.exit i) st'
 | .ret,st'=>K .ret st'
theorem QB {α:Type} {keep:List Nat} {H:α→St} {R:α→Prop} {μ:α→Nat} {a:α} {st':St}:DG n0 keep H R μ a K .normal st'=∃ y,R y∧μ y < μ a∧canon n0 keep st'=H y:=rfl
theorem QC {α:Type} {keep:List Nat} {H:α→St} {R:α→Prop} {μ:α→Nat} {a:α} {i:Nat} {st':St}:DG n0 keep H R μ a K (.exit i) st'=K (.exit i) st':=rfl
theorem QD {α:Type} {keep:List Nat} {H:α→St} {R:α→Prop} {μ:α→Nat} {a:α} {st':St}:DG n0 keep H R μ a K .ret st'=K .ret st':=rfl
theorem go_loop {α:Type} {keep:List Nat} {b:SC} (H:α→St) (R:α→Prop) (μ:α→Nat) (a0:α) (hR:R a0) (h0:canon n0 keep st=H a0) (round:∀ a,R a→go n0 b (H a) (DG n0 keep H R μ a K)):go n0 (.loop keep b) st K:=by
  have key:∀ (n:Nat) (a:α) (st:St),μ a≤n→R a→canon n0 keep st=H a→∃ x st',Ql n0 keep (run n0 b) st=some (x,st')∧K x st':=by
    intro n
    induction n with
    | zero =>
      intro a st hn hR hc
      obtain ⟨x,st',h,k⟩:=round a hR
      cases x with
      | normal =>
        obtain ⟨y,_,h2,_⟩:=k
        omega
      | exit i=>exact ⟨_,st',by rw [El,hc,h]; rfl,k⟩
      | ret=>exact ⟨_,st',by rw [El,hc,h]; rfl,k⟩
    | succ n ih =>
      intro a st hn hR hc
      obtain ⟨x,st',h,k⟩:=round a hR
      cases x with
      | normal =>
        obtain ⟨y,h1,h2,h3⟩:=k
        obtain ⟨x2,st2,h4,k2⟩:=ih y st' (by omega) h1 h3
        exact ⟨x2,st2,by rw [El,hc,h]; exact h4,k2⟩
      | exit i=>exact ⟨_,st',by rw [El,hc,h]; rfl,k⟩
      | ret=>exact ⟨_,st',by rw [El,hc,h]; rfl,k⟩
  exact key (μ a0) a0 st (Nat.le_refl _) hR h0
def Jb (n0:Nat) (keep keepO:List Nat) (H:EL→St) (F:X × St) (p:EL):X→St→Prop
 | .normal,st'=>canon n0 keep st'=H p
 | .exit i,st'=>F=(.exit i,canon n0 keepO st')
 | .ret,st'=>F=(.ret,canon n0 keepO st')
def VO (n0:Nat) (keepO:List Nat) (F:X × St):X→St→Prop
 | .normal,_=>False
 | .exit i,st'=>F=(.exit i,canon n0 keepO st')
 | .ret,st'=>F=(.ret,canon n0 keepO st')
theorem NU {keep keepO:List Nat} {H:EL→St} {F:X × St} {p:EL} {st':St}:Jb n0 keep keepO H F p .normal st'=(canon n0 keep st'=H p):=rfl
theorem NV {keep keepO:List Nat} {H:EL→St} {F:X × St} {p:EL} {i:Nat} {st':St}:Jb n0 keep keepO H F p (.exit i) st'=(F=(.exit i,canon n0 keepO st')):=rfl
theorem NW {keep keepO:List Nat} {H:EL→St} {F:X × St} {p:EL} {st':St}:Jb n0 keep keepO H F p .ret st'=(F=(.ret,canon n0 keepO st')):=rfl
theorem Ul {keepO:List Nat} {F:X × St} {i:Nat} {st':St}:VO n0 keepO F (.exit i) st'=(F=(.exit i,canon n0 keepO st')):=rfl
theorem Um {keepO:List Nat} {F:X × St} {st':St}:VO n0 keepO F .ret st'=(F=(.ret,canon n0 keepO st')):=rfl
end
def slots:Nat→Nat→List (Nat × SV)→List SV
 | 0,_,_=>[]
 | n+1,k,[]=>.any :: slots n (k+1) []
 | n+1,k,(j,x) :: r=>bif j == k then x :: slots n (k+1) r else .any :: slots n (k+1) ((j,x) :: r)
def RV (res:RM) (n0:Nat) (rs:List RX) (out:SV × List Ob) (x:X) (st:St):Prop:=fin res n0 rs x st=some out
def Yi (res:RM) (n0:Nat) (r:Option (SV × List Ob)):Option (SV × List Ob) :=
 match r with
 | some (r,ob)=>order res n0 r ob
 | none=>none
def MA (res:RM) (n0:Nat) (ob:List Ob) (r:Option SV):Option (SV × List Ob) :=
 match r with
 | some r0=>Yi res n0 (gc n0 r0 ob)
 | none=>none
theorem Yj {res:RM} {n0:Nat} {rs:List RX} {out:SV × List Ob} {sl:List SV} {ob:List Ob}:RV res n0 rs out .ret ⟨sl,ob⟩=(MA res n0 ob (N9 ⟨sl,ob⟩ rs)=some out):=rfl
theorem Yk {res:RM} {n0:Nat} {rs:List RX} {out:SV × List Ob} {sl:List SV} {ob:List Ob}:RV res n0 rs out .normal ⟨sl,ob⟩=(MA res n0 ob (N9 ⟨sl,ob⟩ rs)=some out):=rfl
theorem Un {res:RM} {n0:Nat} {ob:List Ob} {r:SV}:MA res n0 ob (some r)=Yi res n0 (gc n0 r ob):=rfl
theorem Yl {n0:Nat} {r:SV} {ob:List Ob} {res:RM}:Yi res n0 (some (r,ob))=order res n0 r ob:=rfl
theorem Ah {f:FuncId} {fc:FC} {hand:List Bool} {res:RM} {tr:Bool} {xs:List SV} {ob:List Ob} {out:SV × List Ob} (hc:codeOf Tryz.prog f=some fc) (hr:modes f=⟨hand,res,none,tr⟩) (hn:xs.length≤fc.nt) (h:go ob.length (Hq res fc.sc) ⟨xs++Ll (fc.nt-xs.length),entry tr ob⟩ (RV res ob.length fc.rs out)):E f xs ob=some out:=by
 obtain ⟨x,st',h1,h2⟩:=h
 unfold E
 rw [Qbp]
 unfold GF
 rw [hc,hr]
 simp only
 rw [decide_eq_true hn,cond_true]
 have h1:fr Tryz.prog (CQ modes (ev Tryz.prog modes)) (IW ob.length) (Hq res fc.sc) ⟨xs++Ll (fc.nt-xs.length),entry tr ob⟩=some (x,st'):=h1
 rw [h1]
 exact h2
end Wd
namespace Wd
attribute [local go_sem] Fe SF SV.isNil Ob.idsB SV.idsB SV.Mu List.getElem?_cons_zero List.getElem?_cons_succ OT.AN OT.Dc OT.full entry toTree VA SM V9 FZ G0 EF YS PE Xp OT.erss OT.ers OT.er OT.Cq OT.EC OT.noSh quiet obB RK Gt meets IN go_skip Ua go_ret XK Ub XL Q6 Uc Ud Ue XM XN XO Qb3 Qb4 Qb5 Uf Ug Q7 NQ Uh Q8 NR Ui XR XS Qb6 XT XU XV Qb7 XW XX QA XZ Ya Yb Yc Yd Ye Yf Yg Qa SJ CK seen NS LZ Uj Uk Yh NT DX QB QC QD Yj Yk Un Yl order opF fOp Fh Vw Qbf Vu Vv YR IS eqK A4 gets Ao PP E6 Dd LO Pb AM V3 SV.cellsN SV.one JL splice Ee TF JK Lu DD B8 Cb B4 JM JN Va eOp.mkEs eOp.addS D.sv OT.sv D.ot HU nodupB reach SV.refs SV.PY SV.ptrs SV.PZ Ob.refs Ob.liveB FF Ev SV.back SV.Mw Ob.back HT Ir C8 Bh Bs HW F2 SV.ren SV.LQ Ob.ren mkU sgp gc My names LU YW YX YY ND ZV Za Zb Zc Zd Ze Zf SC.mark Qf FG slots N9 Vq rxV Ll SI SV.noSh SV.Mt Ob.noSh SV.own SV.RO FY cond_true cond_false List.length_cons List.length_nil List.map_cons List.map_nil List.drop_succ_cons List.drop_zero List.drop_nil List.take_succ_cons List.take_zero List.take_nil List.append_nil List.nil_append List.cons_append List.all_cons List.all_nil List.getD_cons_zero List.getD_cons_succ List.any_cons List.any_nil List.contains_cons List.contains_nil List.isEmpty_nil List.isEmpty_cons List.flatten_cons List.flatten_nil List.replicate_succ List.replicate_zero List.set_cons_zero List.set_cons_succ Nat.add_zero Nat.zero_add Nat.le_refl Nat.zero_le Bool.and_true Bool.true_and Bool.and_self Bool.or_false Bool.false_or Bool.true_or Bool.or_true Bool.not_true Bool.not_false Bool.false_and Bool.and_false decide_true decide_false beq_self_eq_true if_true if_false Option.map_some Option.map_none Option.some.injEq Option.getD_some Option.getD_none Int.toNat_natCast true_and and_true and_self eq_self_iff_true List.length_map Bool.false_eq_true Bool.true_eq_false Prod.mk.injEq SV.int.injEq SV.bool.injEq SV.str.injEq SV.agg.injEq SV.tup.injEq SV.arr.injEq List.cons.injEq St.mk.injEq Int.zero_add Qb8 Qb9 Zn Ay A8 QdB svK svD ZJ svM MV.sv UZ Vy PX Vz GA St.app TN MK.sv NU NV NW Ul Um mode
def C0:SC:=(.seq (.reg [⟨some 2,none,.mv (.c (.bool false))⟩]) (.seq (.reg [⟨some 3,none,.mv (.t 0)⟩,⟨some 4,none,.mv (.t 0)⟩,⟨some 5,none,.bin .neq false (.t 3) (.t 4)⟩,⟨some 2,none,.mv (.t 5)⟩]) .ret))
theorem EB:codeOf Tryz.prog 168=some ⟨6,C0,[(.tmp 2)]⟩:=by kernel_rfl
theorem Bf:modes 168=⟨[],.asis,none,false⟩:=by unfold modes; rfl
def Du:SC:=(.seq (.reg [⟨some 2,none,.mv (.c (.bool false))⟩]) (.seq (.reg [⟨some 3,none,.mv (.t 0)⟩,⟨some 4,none,.mv (.t 0)⟩,⟨some 5,none,.bin .neq false (.t 3) (.t 4)⟩,⟨some 2,none,.mv (.t 5)⟩]) .ret))
theorem Gb:codeOf Tryz.prog 156=some ⟨6,Du,[(.tmp 2)]⟩:=by kernel_rfl
theorem B5:modes 156=⟨[],.asis,none,false⟩:=by unfold modes; rfl
def AQ:SC:=(.seq (.reg [⟨some 4,none,.mv (.c (.int .i64 0))⟩]) (.seq (.reg [⟨some 7,none,.mv (.t 0)⟩,⟨some 8,none,.call 168 [(.t 7)]⟩,⟨some 5,none,.mv (.t 8)⟩]) (.seq (.reg [⟨some 9,none,.mv (.t 1)⟩,⟨some 10,none,.call 168 [(.t 9)]⟩,⟨some 6,none,.mv (.t 10)⟩]) (.seq (.seq (.reg [⟨some 11,none,.mv (.t 5)⟩]) (.cond (.t 11) (.seq (.seq (.reg [⟨some 12,none,.mv (.t 6)⟩]) (.cond (.t 12) (.seq (.reg [⟨some 4,none,.mv (.c (.int .i64 0))⟩]) .ret) .skip)) (.seq (.reg [⟨some 4,none,.mv (.c (.int .i64 (-(0+1))))⟩]) .ret)) .skip)) (.seq (.seq (.reg [⟨some 13,none,.mv (.t 6)⟩]) (.cond (.t 13) (.seq (.reg [⟨some 4,none,.mv (.c (.int .i64 1))⟩]) .ret) .skip)) (.seq (.seq (.reg [⟨some 14,none,.mv (.t 0)⟩,⟨some 15,none,.mv (.t 1)⟩,⟨some 16,none,.bin .lss false (.t 14) (.t 15)⟩]) (.cond (.t 16) (.seq (.reg [⟨some 4,none,.mv (.c (.int .i64 (-(0+1))))⟩]) .ret) .skip)) (.seq (.seq (.reg [⟨some 17,none,.mv (.t 0)⟩,⟨some 18,none,.mv (.t 1)⟩,⟨some 19,none,.bin .gtr false (.t 17) (.t 18)⟩]) (.cond (.t 19) (.seq (.reg [⟨some 4,none,.mv (.c (.int .i64 1))⟩]) .ret) .skip)) (.seq (.reg [⟨some 4,none,.mv (.c (.int .i64 0))⟩]) .ret))))))))
theorem Bu:codeOf Tryz.prog 136=some ⟨20,AQ,[(.tmp 4)]⟩:=by kernel_rfl
theorem AA:modes 136=⟨[],.asis,none,false⟩:=by unfold modes; rfl
def Bn:SC:=(.seq (.reg [⟨some 4,none,.mv (.c (.int .i64 0))⟩]) (.seq (.reg [⟨some 7,none,.mv (.t 0)⟩,⟨some 8,none,.call 156 [(.t 7)]⟩,⟨some 5,none,.mv (.t 8)⟩]) (.seq (.reg [⟨some 9,none,.mv (.t 1)⟩,⟨some 10,none,.call 156 [(.t 9)]⟩,⟨some 6,none,.mv (.t 10)⟩]) (.seq (.seq (.reg [⟨some 11,none,.mv (.t 5)⟩]) (.cond (.t 11) (.seq (.seq (.reg [⟨some 12,none,.mv (.t 6)⟩]) (.cond (.t 12) (.seq (.reg [⟨some 4,none,.mv (.c (.int .i64 0))⟩]) .ret) .skip)) (.seq (.reg [⟨some 4,none,.mv (.c (.int .i64 (-(0+1))))⟩]) .ret)) .skip)) (.seq (.seq (.reg [⟨some 13,none,.mv (.t 6)⟩]) (.cond (.t 13) (.seq (.reg [⟨some 4,none,.mv (.c (.int .i64 1))⟩]) .ret) .skip)) (.seq (.seq (.reg [⟨some 14,none,.mv (.t 0)⟩,⟨some 15,none,.mv (.t 1)⟩,⟨some 16,none,.bin .lss false (.t 14) (.t 15)⟩]) (.cond (.t 16) (.seq (.reg [⟨some 4,none,.mv (.c (.int .i64 (-(0+1))))⟩]) .ret) .skip)) (.seq (.seq (.reg [⟨some 17,none,.mv (.t 0)⟩,⟨some 18,none,.mv (.t 1)⟩,⟨some 19,none,.bin .gtr false (.t 17) (.t 18)⟩]) (.cond (.t 19) (.seq (.reg [⟨some 4,none,.mv (.c (.int .i64 1))⟩]) .ret) .skip)) (.seq (.reg [⟨some 4,none,.mv (.c (.int .i64 0))⟩]) .ret))))))))
theorem BI:codeOf Tryz.prog 122=some ⟨20,Bn,[(.tmp 4)]⟩:=by kernel_rfl
theorem AH:modes 122=⟨[],.asis,none,false⟩:=by unfold modes; rfl
def EO:SC:=(.seq (.reg [⟨some 2,none,.mv (.c (.int .i64 0))⟩]) (.seq (.reg [⟨some 3,none,.mv (.c (.int .i64 0))⟩]) (.seq (.seq (.reg [⟨some 6,none,.mv (.t 0)⟩,⟨some 7,none,.len false (.t 6)⟩,⟨some 8,none,.mv (.c (.int .i64 0))⟩]) (.block 0 (.loop [0,0,0,1,0,0,1,1,1,0,0,0,0,0,0,0,0,0] (.seq (.reg [⟨some 9,none,.bin .lss false (.t 8) (.t 7)⟩]) (.seq (.cond (.t 9) .skip (.exit 0)) (.seq (.block 1 (.seq (.reg [⟨some 10,none,.iaddr 1 (.t 6) (.t 8)⟩,⟨some 11,none,.load false 1 (.t 10)⟩,⟨some 5,none,.mv (.t 11)⟩]) (.seq (.reg [⟨some 12,none,.mv (.t 5)⟩,⟨some 13,none,.mv (.t 3)⟩,⟨some 14,none,.bin .neq false (.t 12) (.t 13)⟩]) (.cond (.t 14) (.seq (.reg [⟨some 15,none,.mv (.t 5)⟩,⟨some 2,none,.mv (.t 15)⟩]) .ret) .skip)))) (.reg [⟨some 16,none,.bin .add false (.t 8) (.c (.int .i64 1))⟩,⟨some 8,none,.mv (.t 16)⟩]))))))) (.seq (.reg [⟨some 17,none,.mv (.t 3)⟩,⟨some 2,none,.mv (.t 17)⟩]) .ret))))
theorem Jh:codeOf Tryz.prog 120=some ⟨18,EO,[(.tmp 2)]⟩:=by kernel_rfl
theorem Cr:modes 120=⟨[],.asis,none,false⟩:=by unfold modes; rfl
theorem Kk (a:ByteArray):E 168 [.str a] []=some (.bool false,[]):=by
 refine Ah EB Bf (of_decide_eq_true rfl) ?_
 simp (disch:=omega) only [C0,go_sem,Aa]
theorem Kl (a:Int):E 156 [.int .i64 a] []=some (.bool false,[]):=by
 refine Ah Gb B5 (of_decide_eq_true rfl) ?_
 simp (disch:=omega) only [Du,go_sem,Aa]
theorem Ji (a b:ByteArray):E 136 [.str a,.str b] []=some (.int .i64 (E8 a b),[]):=by
 have h1:=Kk a
 have h2:=Kk b
 unfold E8
 cases h3:strLt a b
 ·cases h4:dec (a=b)
  ·refine Ah Bu AA (of_decide_eq_true rfl) ?_
   simp (disch:=omega) only [AQ,go_sem,Aa,h1,h2,h3,h4,Bf]
  ·refine Ah Bu AA (of_decide_eq_true rfl) ?_
   simp (disch:=omega) only [AQ,go_sem,Aa,h1,h2,h3,h4,Bf]
 ·refine Ah Bu AA (of_decide_eq_true rfl) ?_
  simp (disch:=omega) only [AQ,go_sem,Aa,h1,h2,h3,Bf]
theorem GW (a b:Int):E 122 [.int .i64 a,.int .i64 b] []=some (.int .i64 (GK a b),[]):=by
 have h1:=Kl a
 have h2:=Kl b
 unfold GK
 cases h3:dec (a<b)
 ·cases h4:dec (b<a)
  ·refine Ah BI AH (of_decide_eq_true rfl) ?_
   simp (disch:=omega) only [Bn,go_sem,Aa,h1,h2,h3,h4,B5]
  ·refine Ah BI AH (of_decide_eq_true rfl) ?_
   simp (disch:=omega) only [Bn,go_sem,Aa,h1,h2,h3,h4,B5]
 ·refine Ah BI AH (of_decide_eq_true rfl) ?_
  simp (disch:=omega) only [Bn,go_sem,Aa,h1,h2,h3,B5]
def orL:List Int→Int
 | []=>0
 | x :: xs=>if x=0 then orL xs else x
theorem QdH (xs:List Int) (hl:xs.length≤1099511627776):E 120 [.arr (xs.map fun n=>[D.int n])] []=some (.int .i64 (orL xs),[]):=by
 refine Ah Jh Cr (of_decide_eq_true rfl) ?_
 simp (disch:=omega) only [EO,go_sem,Aa]
 refine go_loop (α:=Int) (fun a=>⟨slots 18 0 [(3,.int .i64 0),(6,.arr (xs.map fun n=>[D.int n])),(7,.int .i64 xs.length),(8,.int .i64 a)],[]⟩) (fun a=>∃ k:Nat,a=k∧k≤(xs).length∧orL (xs.drop k)=orL xs) (fun a=>(xs).length-(a).toNat) 0 ⟨0,rfl,Nat.zero_le _,by rw [List.drop_zero]⟩ (by simp (disch:=omega) only [go_sem,Aa]) ?_
 rintro i ⟨k,hi,hk,hR⟩
 have hni:i.toNat=k:=by omega
 have hni1:(i+1).toNat=k+1:=by omega
 rcases Nat.lt_or_ge k (xs).length with hlt | hge
 ·have hg:=get_at (fun n=>[D.int n]) hlt
  rw [List.drop_eq_getElem_cons hlt,orL] at hR
  by_cases h0:xs[k]=0
  ·rw [if_pos h0] at hR
   simp (disch:=omega) only [go_sem,Aa,hni,hg,h0]
   exact ⟨i+1,⟨k+1,by omega,hlt,hR⟩,by omega,by first | trivial | rfl⟩
  ·rw [if_neg h0] at hR
   simp (disch:=omega) only [go_sem,Aa,hni,hg,h0]
   exact hR
 ·rw [List.drop_eq_nil_of_le hge,orL] at hR
  simp (disch:=omega) only [go_sem,Aa,hni]
  exact hR
theorem VV (a b:Int):E 120 [.arr [[.int a],[.int b]]] []=some (.int .i64 (orZ a b),[]):=by
 have h:=QdH [a,b] (by simp)
 have e:orL [a,b]=orZ a b:=by
  simp only [orL,orZ]
  split
  ·split <;> omega
  ·rfl
 rw [e] at h
 exact h
def C1:SC:=(.seq (.reg [⟨some 2,none,.mv (.c (.bool false))⟩]) (.seq (.reg [⟨some 3,none,.mv (.t 0)⟩,⟨some 4,none,.bin .geq false (.t 3) (.c (.int .u8 65))⟩,⟨some 5,none,.mv (.t 4)⟩,⟨(some 6),(some (5,true)),(.mv (.t 0))⟩,⟨(some 7),(some (5,true)),(.bin .leq false (.t 6) (.c (.int .u8 90)))⟩,⟨some 8,none,.pick (.t 5) (.t 7) (.c (.bool false))⟩,⟨some 2,none,.mv (.t 8)⟩]) .ret))
theorem DK:codeOf Tryz.prog 129=some ⟨9,C1,[(.tmp 2)]⟩:=by kernel_rfl
theorem C2:modes 129=⟨[],.asis,none,false⟩:=by unfold modes; rfl
def EP:SC:=(.seq (.reg [⟨some 1,none,.boxv 71 2 (.t 0)⟩,⟨some 2,none,.mv (.c (.bool false))⟩]) (.seq (.reg [⟨some 3,none,.faddr 0 (.t 1)⟩,⟨some 4,none,.load false 1 (.t 3)⟩,⟨some 5,none,.idx (.t 4) (.c (.int .i64 0))⟩,⟨some 6,none,.call 129 [(.t 5)]⟩,⟨some 2,none,.mv (.t 6)⟩]) .ret))
theorem Jj:codeOf Tryz.prog 89=some ⟨7,EP,[(.tmp 2)]⟩:=by kernel_rfl
theorem Ak:modes 89=⟨[],.asis,none,false⟩:=by unfold modes; rfl
theorem Oc (n:Int):E 129 [.int .u8 n] []=some (.bool (dec (65≤n)&&dec (n≤90)),[]):=by
 cases h1:dec (65≤n)
 ·refine Ah DK C2 (of_decide_eq_true rfl) ?_
  simp (disch:=omega) only [C1,go_sem,Aa,h1]
 ·refine Ah DK C2 (of_decide_eq_true rfl) ?_
  simp (disch:=omega) only [C1,go_sem,Aa,h1]
theorem CU (x:Tm) (h:x.cok=true):E 89 [x.sv] []=some (.bool (Aq x.name),[]):=by
 rw [Tm.Kd,Bool.and_eq_true] at h
 obtain ⟨h1,h2⟩:=Tn h.1
 have h3:=Oc (IO x.name 0)
 rw [h2] at h3
 refine Ah Jj Ak (of_decide_eq_true rfl) ?_
 simp (disch:=omega) only [EP,go_sem,Aa,h3,C2]
def As:SC:=(.seq (.reg [⟨some 6,none,.mv (.c (.int .i64 0))⟩]) (.seq (.seq (.reg [⟨some 11,none,.mv (.t 0)⟩,⟨some 12,none,.len false (.t 11)⟩,⟨some 13,none,.mv (.c (.int .i64 0))⟩]) (.block 0 (.loop [1,1,1,0,0,0,0,0,0,0,0,1,1,1,0,0,0,0,0,0,0,0,0,0,0,0,0,0,0,0,0,0,0,0,0,0,0,0,0] (.seq (.reg [⟨some 14,none,.bin .lss false (.t 13) (.t 12)⟩]) (.seq (.cond (.t 14) .skip (.exit 0)) (.seq (.block 1 (.seq (.reg [⟨some 15,none,.mv (.t 13)⟩,⟨some 16,none,.iaddr 2 (.t 11) (.t 13)⟩,⟨some 17,none,.load true 2 (.t 16)⟩,⟨(some 8),none,(.alloc 71 [(.str ⟨#[]⟩),.nil])⟩,⟨some 7,none,.mv (.t 15)⟩,⟨none,none,(.store 2 (.t 8) (.t 17))⟩]) (.seq (.seq (.reg [⟨some 18,none,.mv (.t 7)⟩,⟨some 19,none,.mv (.t 1)⟩,⟨some 20,none,.len false (.t 19)⟩,⟨some 21,none,.bin .geq false (.t 18) (.t 20)⟩]) (.cond (.t 21) (.seq (.reg [⟨some 6,none,.mv (.c (.int .i64 1))⟩]) .ret) .skip)) (.seq (.reg [⟨some 22,none,.mv (.t 1)⟩,⟨some 23,none,.mv (.t 7)⟩,⟨some 24,none,.iaddr 2 (.t 22) (.t 23)⟩,⟨some 25,none,.load true 2 (.t 24)⟩,⟨(some 9),none,(.alloc 71 [(.str ⟨#[]⟩),.nil])⟩,⟨none,none,(.store 2 (.t 9) (.t 25))⟩]) (.seq (.reg [⟨some 26,none,.mv (.t 2)⟩,⟨some 27,none,.load true 2 (.t 8)⟩,⟨some 28,none,.load true 2 (.t 9)⟩,⟨some 29,none,.callv (.t 26) [(.t 27),(.t 28)]⟩,⟨some 10,none,.mv (.t 29)⟩]) (.seq (.reg [⟨some 30,none,.mv (.t 10)⟩,⟨some 31,none,.bin .neq false (.t 30) (.c (.int .i64 0))⟩]) (.cond (.t 31) (.seq (.reg [⟨some 32,none,.mv (.t 10)⟩,⟨some 6,none,.mv (.t 32)⟩]) .ret) .skip))))))) (.reg [⟨some 33,none,.bin .add false (.t 13) (.c (.int .i64 1))⟩,⟨some 13,none,.mv (.t 33)⟩]))))))) (.seq (.seq (.reg [⟨some 34,none,.mv (.t 0)⟩,⟨some 35,none,.len false (.t 34)⟩,⟨some 36,none,.mv (.t 1)⟩,⟨some 37,none,.len false (.t 36)⟩,⟨some 38,none,.bin .lss false (.t 35) (.t 37)⟩]) (.cond (.t 38) (.seq (.reg [⟨some 6,none,.mv (.c (.int .i64 (-(0+1))))⟩]) .ret) .skip)) (.seq (.reg [⟨some 6,none,.mv (.c (.int .i64 0))⟩]) .ret))))
theorem AB:codeOf Tryz.prog 155=some ⟨39,As,[(.tmp 6)]⟩:=by kernel_rfl
theorem At:modes 155=⟨[],.asis,none,false⟩:=by unfold modes; rfl
def By:SC:=(.seq (.reg [⟨some 2,none,.boxv 71 2 (.t 0)⟩,⟨some 3,none,.boxv 71 2 (.t 1)⟩,⟨some 4,none,.mv (.c (.int .i64 0))⟩]) (.seq (.dreg [[],[0],[],[2,1,0],[1,0,3,2],[3,2,1,0,4]] [⟨some 8,none,.load true 2 (.t 2)⟩,⟨some 9,none,.call 89 [(.t 8)]⟩,⟨some 10,none,.load true 2 (.t 3)⟩,⟨some 11,none,.call 89 [(.t 10)]⟩,⟨some 5,none,.mv (.t 9)⟩,⟨some 6,none,.mv (.t 11)⟩]) (.seq (.block 0 (.seq (.reg [⟨some 13,none,.mv (.t 5)⟩,⟨some 14,none,.mv (.t 13)⟩,⟨(some 15),(some (14,true)),(.mv (.t 6))⟩,⟨(some 16),(some (14,true)),(.un .not (.t 15))⟩,⟨some 17,none,.pick (.t 14) (.t 16) (.c (.bool false))⟩,⟨some 12,none,.mv (.t 17)⟩]) (.cond (.t 12) (.seq (.reg [⟨some 4,none,.mv (.c (.int .i64 (-(0+1))))⟩]) .ret) (.seq (.reg [⟨some 19,none,.mv (.t 6)⟩,⟨some 20,none,.mv (.t 19)⟩,⟨(some 21),(some (20,true)),(.mv (.t 5))⟩,⟨(some 22),(some (20,true)),(.un .not (.t 21))⟩,⟨some 23,none,.pick (.t 20) (.t 22) (.c (.bool false))⟩,⟨some 18,none,.mv (.t 23)⟩]) (.cond (.t 18) (.seq (.reg [⟨some 4,none,.mv (.c (.int .i64 1))⟩]) .ret) .skip))))) (.seq (.seq (.dreg [[],[0],[],[2],[1,0,3,2],[],[5],[6,5],[],[8],[9,8],[7,6,5,10,9,8,4,1,0,3,2],[4,1,0,3,2,11,7,6,5,10,9,8],[12,4,1,0,3,2,11,7,6,5,10,9,8],[13,12,4,1,0,3,2,11,7,6,5,10,9,8]] [⟨some 24,none,.faddr 0 (.t 2)⟩,⟨some 25,none,.load false 1 (.t 24)⟩,⟨some 26,none,.faddr 0 (.t 3)⟩,⟨some 27,none,.load false 1 (.t 26)⟩,⟨some 28,none,.call 136 [(.t 25),(.t 27)]⟩,⟨some 29,none,.faddr 1 (.t 2)⟩,⟨some 30,none,.load false 1 (.t 29)⟩,⟨some 31,none,.len false (.t 30)⟩,⟨some 32,none,.faddr 1 (.t 3)⟩,⟨some 33,none,.load false 1 (.t 32)⟩,⟨some 34,none,.len false (.t 33)⟩,⟨some 35,none,.call 122 [(.t 31),(.t 34)]⟩,⟨some 36,none,.mkrow 3 1 [(.int .i64 0)] 2 [(0,(.t 28)),(1,(.t 35))]⟩,⟨some 37,none,.call 120 [(.t 36)]⟩,⟨some 7,none,.mv (.t 37)⟩]) (.seq (.reg [⟨some 38,none,.mv (.t 7)⟩,⟨some 39,none,.bin .neq false (.t 38) (.c (.int .i64 0))⟩]) (.cond (.t 39) (.seq (.reg [⟨some 40,none,.mv (.t 7)⟩,⟨some 4,none,.mv (.t 40)⟩]) .ret) .skip))) (.seq (.reg [⟨some 41,none,.faddr 1 (.t 2)⟩,⟨some 42,none,.load false 1 (.t 41)⟩,⟨some 43,none,.faddr 1 (.t 3)⟩,⟨some 44,none,.load false 1 (.t 43)⟩,⟨some 45,none,.call 155 [(.t 42),(.t 44),(.c (.fn 121 []))]⟩,⟨some 4,none,.mv (.t 45)⟩]) .ret)))))
theorem Cn:codeOf Tryz.prog 121=some ⟨46,By,[(.tmp 4)]⟩:=by kernel_rfl
theorem AW:modes 121=⟨[],.asis,none,false⟩:=by unfold modes; rfl
theorem Eh:Lk Tryz.prog 121=true:=by kernel_rfl
theorem Ib (fid:Nat) (xs ys:List Tm) (hl:xs.length≤1099511627776) (hl':ys.length≤1099511627776) (hg:Lk Tryz.prog fid=true) (hm:(modes fid).hand=[]) (hE:∀ x∈xs,∀ y∈ys,E fid [x.sv,y.sv] []=some (.int .i64 (x.cmp y),[])):E 155 [.arr (xs.map Tm.d),.arr (ys.map Tm.d),.fn fid []] []=some (.int .i64 (Tm.cmpL xs ys),[]):=by
  refine Ah AB At (of_decide_eq_true rfl) ?_
  simp (disch:=omega) only [As,go_sem,Aa]
  refine go_loop (α:=Int) (fun a=>⟨slots 39 0 [(0,.arr (xs.map Tm.d)),(1,.arr (ys.map Tm.d)),(2,.fn fid []),(11,.arr (xs.map Tm.d)),(12,.int .i64 xs.length),(13,.int .i64 a)],[]⟩) (fun a=>∃ k:Nat,a=k∧k≤(xs).length∧k≤ys.length∧Tm.cmpL (xs.drop k) (ys.drop k)=Tm.cmpL xs ys) (fun a=>(xs).length-(a).toNat) 0 ⟨0,rfl,Nat.zero_le _,Nat.zero_le _,by rw [List.drop_zero,List.drop_zero]⟩ (by simp (disch:=omega) only [go_sem,Aa]) ?_
  rintro i ⟨k,hi,hk,hR⟩
  have hni:i.toNat=k:=by omega
  have hni1:(i+1).toNat=k+1:=by omega
  rcases Nat.lt_or_ge k (xs).length with hlt | hge
  · obtain ⟨hk',hR⟩:=hR
    have hgx:=get_at Tm.d hlt
    rw [Tm.d_eq] at hgx
    rcases Nat.lt_or_ge k ys.length with hlt' | hge'
    · have hgy:=get_at Tm.d hlt'
      rw [Tm.d_eq] at hgy
      have hc:=hE xs[k] (List.getElem_mem hlt) ys[k] (List.getElem_mem hlt')
      rw [NZ hlt hlt'] at hR
      by_cases h0:xs[k].cmp ys[k]=0
      · rw [orZ,if_pos h0] at hR
        rw [h0] at hc
        simp (disch:=omega) only [go_sem,Aa,hni,hgx,hgy,hc,hg,hm]
        exact ⟨i+1,⟨k+1,by omega,hlt,hlt',hR⟩,by omega,by first | trivial | rfl⟩
      · rw [orZ,if_neg h0] at hR
        simp (disch:=omega) only [go_sem,Aa,hni,hgx,hgy,hc,hg,hm,h0]
        exact hR
    · rw [QL hlt hge'] at hR
      simp (disch:=omega) only [go_sem,Aa,hni,hgx]
      exact hR
  · obtain ⟨hk',hR⟩:=hR
    obtain rfl:k=xs.length:=by omega
    rcases Nat.lt_or_ge xs.length ys.length with hlt' | hge'
    · rw [VU (Nat.le_refl _) hlt'] at hR
      simp (disch:=omega) only [go_sem,Aa,hni]
      exact hR
    · rw [Oa (Nat.le_refl _) hge'] at hR
      simp (disch:=omega) only [go_sem,Aa,hni]
      exact hR
abbrev Sa (f:FuncId) (x y:Tm):Prop:=x.cok=true→y.cok=true→x.nodes≤1099511627776→y.nodes≤1099511627776→E f [x.sv,y.sv] []=some (.int .i64 (x.cmp y),[])
theorem Gc (x:Tm) (ih:∀ x'∈x.args,∀ y,Sa 121 x' y) (y:Tm):Sa 121 x y:=by
 intro hx hy hnx hny
 have lx:=Tm.length_le x.args
 have ly:=Tm.length_le y.args
 have nx:=Tm.An x
 have ny:=Tm.An y
 have h1:=CU x hx
 have h2:=CU y hy
 have h3:=Ji x.name y.name
 have h4:=GW x.args.length y.args.length
 have h5:=VV (E8 x.name y.name) (GK x.args.length y.args.length)
 rw [Tm.Kd,Bool.and_eq_true] at hx hy
 have h6:=Ib 121 x.args y.args (by omega) (by omega) Eh (by rw [AW]) fun x' hx' y' hy'=>ih x' hx' y' (Tm.GM hx.2 hx') (Tm.GM hy.2 hy') (by have:=Tm.AU hx'; omega) (by have:=Tm.AU hy'; omega)
 rw [Tm.TV]
 cases vx:Aq x.name <;> rw [vx] at h1 <;> cases vy:Aq y.name <;> rw [vy] at h2
 all_goals
  simp only [Bool.not_true,Bool.not_false,Bool.and_true,Bool.and_false,Bool.true_and,Bool.false_and,if_true,if_false,Bool.false_eq_true]
  by_cases h0:orZ (E8 x.name y.name) (GK x.args.length y.args.length)=0
  ·rw [h0] at h5
   try rw [h0]
   refine Ah Cn AW (of_decide_eq_true rfl) ?_
   simp (disch:=omega) only [By,go_sem,Aa,h1,h2,h3,h4,h5,h6,Ak,AA,AH,Cr,At]
   try rfl
  ·try rw [orZ.eq_1 (orZ _ _) _,if_neg h0]
   refine Ah Cn AW (of_decide_eq_true rfl) ?_
   simp (disch:=omega) only [By,go_sem,Aa,h0,h1,h2,h3,h4,h5,Ak,AA,AH,Cr]
theorem DL (x y:Tm):Sa 121 x y:=Gc x (fun x' hx' y'=>DL x' y') y
termination_by SizeOf.sizeOf x
decreasing_by exact Tm.Aw hx'
def DM:SC:=(.seq (.reg [⟨some 2,none,.mv (.c (.int .i64 0))⟩]) (.seq (.seq (.reg [⟨some 3,none,.mv (.t 0)⟩]) (.cond (.t 3) (.seq (.reg [⟨some 2,none,.mv (.c (.int .i64 1))⟩]) .ret) .skip)) (.seq (.reg [⟨some 2,none,.mv (.c (.int .i64 0))⟩]) .ret)))
theorem FK:codeOf Tryz.prog 123=some ⟨4,DM,[(.tmp 2)]⟩:=by kernel_rfl
theorem DN:modes 123=⟨[],.asis,none,false⟩:=by unfold modes; rfl
def BJ:SC:=(.seq (.reg [⟨some 2,none,.boxv 73 3 (.t 0)⟩,⟨some 3,none,.boxv 73 3 (.t 1)⟩,⟨some 4,none,.mv (.c (.int .i64 0))⟩]) (.seq (.dreg [[],[0],[],[2],[1,0,3,2],[],[5],[6,5,4,1,0,3,2],[],[8],[9,8,7,6,5,4,1,0,3,2],[7,6,5,4,1,0,3,2,10,9,8],[4,1,0,3,2,11,7,6,5,10,9,8],[12,4,1,0,3,2,11,7,6,5,10,9,8],[13,12,4,1,0,3,2,11,7,6,5,10,9,8]] [⟨some 5,none,.faddr 1 (.t 2)⟩,⟨some 6,none,.load true 2 (.t 5)⟩,⟨some 7,none,.faddr 1 (.t 3)⟩,⟨some 8,none,.load true 2 (.t 7)⟩,⟨some 9,none,.call 121 [(.t 6),(.t 8)]⟩,⟨some 10,none,.faddr 0 (.t 2)⟩,⟨some 11,none,.load false 1 (.t 10)⟩,⟨some 12,none,.call 123 [(.t 11)]⟩,⟨some 13,none,.faddr 0 (.t 3)⟩,⟨some 14,none,.load false 1 (.t 13)⟩,⟨some 15,none,.call 123 [(.t 14)]⟩,⟨some 16,none,.call 122 [(.t 12),(.t 15)]⟩,⟨some 17,none,.mkrow 3 1 [(.int .i64 0)] 2 [(0,(.t 9)),(1,(.t 16))]⟩,⟨some 18,none,.call 120 [(.t 17)]⟩,⟨some 4,none,.mv (.t 18)⟩]) .ret))
theorem Dl:codeOf Tryz.prog 83=some ⟨19,BJ,[(.tmp 4)]⟩:=by kernel_rfl
theorem Bg:modes 83=⟨[],.asis,none,false⟩:=by unfold modes; rfl
theorem QM (b:Bool):E 123 [.bool b] []=some (.int .i64 (GN b),[]):=by
 cases b
 ·refine Ah FK DN (of_decide_eq_true rfl) ?_
  simp (disch:=omega) only [DM,go_sem,Aa]
  rfl
 ·refine Ah FK DN (of_decide_eq_true rfl) ?_
  simp (disch:=omega) only [DM,go_sem,Aa]
  rfl
theorem compareLiterals_E (x y:Lt) (hx:x.atom.cok=true) (hy:y.atom.cok=true) (hnx:x.atom.nodes≤1099511627776) (hny:y.atom.nodes≤1099511627776):E 83 [x.sv,y.sv] []=some (.int .i64 (x.cmp y),[]):=by
 have h1:=DL x.atom y.atom hx hy hnx hny
 have h2:=QM x.pos
 have h3:=QM y.pos
 have h4:=GW (GN x.pos) (GN y.pos)
 have h5:=VV (x.atom.cmp y.atom) (GK (GN x.pos) (GN y.pos))
 unfold Lt.cmp
 refine Ah Dl Bg (of_decide_eq_true rfl) ?_
 simp (disch:=omega) only [BJ,go_sem,Aa,h1,h2,h3,h4,h5,AW,DN,AH,Cr]
end Wd
theorem MM (x y:Lt) (hx:x.atom.cok=true) (hy:y.atom.cok=true) (hnx:x.atom.nodes≤1099511627776) (hny:y.atom.nodes≤1099511627776):QcK Tryz.prog 83 [x.sv,y.sv] [] (.int .i64 (x.cmp y)) []:=Wd.E_told (Wd.compareLiterals_E x y hx hy hnx hny)
def AC:SC:=(.seq (.reg [⟨some 6,none,.mv (.c (.bool false))⟩]) (.seq (.seq (.reg [⟨some 10,none,.mv (.t 0)⟩,⟨some 11,none,.len false (.t 10)⟩,⟨some 12,none,.mv (.t 1)⟩,⟨some 13,none,.len false (.t 12)⟩,⟨some 14,none,.bin .neq false (.t 11) (.t 13)⟩]) (.cond (.t 14) (.seq (.reg [⟨some 6,none,.mv (.c (.bool false))⟩]) .ret) .skip)) (.seq (.seq (.reg [⟨some 15,none,.mv (.t 0)⟩,⟨some 16,none,.len false (.t 15)⟩,⟨some 17,none,.mv (.c (.int .i64 0))⟩]) (.block 0 (.loop [0,1,1,0,0,0,0,0,0,0,0,0,0,0,0,1,1,1,0,0,0,0,0,0,0,0,0,0,0,0,0,0] (.seq (.reg [⟨some 18,none,.bin .lss false (.t 17) (.t 16)⟩]) (.seq (.cond (.t 18) .skip (.exit 0)) (.seq (.block 1 (.seq (.reg [⟨some 19,none,.mv (.t 17)⟩,⟨some 20,none,.iaddr 2 (.t 15) (.t 17)⟩,⟨some 21,none,.load true 2 (.t 20)⟩,⟨(some 8),none,(.alloc 71 [(.str ⟨#[]⟩),.nil])⟩,⟨some 7,none,.mv (.t 19)⟩,⟨none,none,(.store 2 (.t 8) (.t 21))⟩]) (.seq (.reg [⟨some 22,none,.mv (.t 1)⟩,⟨some 23,none,.mv (.t 7)⟩,⟨some 24,none,.iaddr 2 (.t 22) (.t 23)⟩,⟨some 25,none,.load true 2 (.t 24)⟩,⟨(some 9),none,(.alloc 71 [(.str ⟨#[]⟩),.nil])⟩,⟨none,none,(.store 2 (.t 9) (.t 25))⟩]) (.seq (.reg [⟨some 26,none,.mv (.t 2)⟩,⟨some 27,none,.load true 2 (.t 8)⟩,⟨some 28,none,.load true 2 (.t 9)⟩,⟨some 29,none,.callv (.t 26) [(.t 27),(.t 28)]⟩,⟨some 30,none,.un .not (.t 29)⟩]) (.cond (.t 30) (.seq (.reg [⟨some 6,none,.mv (.c (.bool false))⟩]) .ret) .skip))))) (.reg [⟨some 31,none,.bin .add false (.t 17) (.c (.int .i64 1))⟩,⟨some 17,none,.mv (.t 31)⟩]))))))) (.seq (.reg [⟨some 6,none,.mv (.c (.bool true))⟩]) .ret))))
theorem AZ:codeOf Tryz.prog 128=some ⟨32,AC,[(.tmp 6)]⟩:=by kernel_rfl
theorem AD:modes 128=⟨[],.asis,none,false⟩:=by unfold modes; rfl
def ER:SC:=(.seq (.reg [⟨some 2,none,.boxv 71 2 (.t 0)⟩,⟨some 3,none,.boxv 71 2 (.t 1)⟩,⟨some 4,none,.mv (.c (.bool false))⟩]) (.seq (.reg [⟨some 5,none,.faddr 0 (.t 2)⟩,⟨some 6,none,.load false 1 (.t 5)⟩,⟨some 7,none,.faddr 0 (.t 3)⟩,⟨some 8,none,.load false 1 (.t 7)⟩,⟨some 9,none,.bin .eql false (.t 6) (.t 8)⟩,⟨some 10,none,.mv (.t 9)⟩,⟨(some 11),(some (10,true)),(.faddr 1 (.t 2))⟩,⟨(some 12),(some (10,true)),(.load false 1 (.t 11))⟩,⟨(some 13),(some (10,true)),(.faddr 1 (.t 3))⟩,⟨(some 14),(some (10,true)),(.load false 1 (.t 13))⟩,⟨(some 15),(some (10,true)),(.call 128 [(.t 12),(.t 14),(.c (.fn 88 []))])⟩,⟨some 16,none,.pick (.t 10) (.t 15) (.c (.bool false))⟩,⟨some 4,none,.mv (.t 16)⟩]) .ret))
theorem Hy:codeOf Tryz.prog 88=some ⟨17,ER,[(.tmp 4)]⟩:=by kernel_rfl
theorem Ad:modes 88=⟨[],.asis,none,false⟩:=by unfold modes; rfl
theorem MN:Lk Tryz.prog 88=true:=by kernel_rfl
def F5:SC:=(.seq (.reg [⟨some 2,none,.boxv 71 2 (.t 0)⟩,⟨some 3,none,.boxv 71 2 (.t 1)⟩,⟨some 4,none,.mv (.c (.bool false))⟩]) (.seq (.seq (.reg [⟨some 6,none,.faddr 0 (.t 2)⟩,⟨some 7,none,.load false 1 (.t 6)⟩,⟨some 8,none,.faddr 0 (.t 3)⟩,⟨some 9,none,.load false 1 (.t 8)⟩,⟨some 10,none,.bin .neq false (.t 7) (.t 9)⟩,⟨some 11,none,.mv (.t 10)⟩,⟨(some 12),(some (11,false)),(.faddr 1 (.t 2))⟩,⟨(some 13),(some (11,false)),(.load false 1 (.t 12))⟩,⟨(some 14),(some (11,false)),(.len false (.t 13))⟩,⟨(some 15),(some (11,false)),(.faddr 1 (.t 3))⟩,⟨(some 16),(some (11,false)),(.load false 1 (.t 15))⟩,⟨(some 17),(some (11,false)),(.len false (.t 16))⟩,⟨(some 18),(some (11,false)),(.bin .neq false (.t 14) (.t 17))⟩,⟨some 19,none,.pick (.t 11) (.c (.bool true)) (.t 18)⟩]) (.cond (.t 19) (.seq (.reg [⟨some 4,none,.mv (.c (.bool false))⟩]) .ret) .skip)) (.seq (.seq (.reg [⟨some 5,none,.mv (.c (.int .i64 0))⟩]) (.block 0 (.loop [0,0,1,1,0,1,0,0,0,0,0,0,0,0,0,0,0,0,0,0,0,0,0,0,0,0,0,0,0,0,0,0,0,0,0,0,0,0,0] (.seq (.seq (.reg [⟨some 20,none,.mv (.t 5)⟩,⟨some 21,none,.faddr 1 (.t 2)⟩,⟨some 22,none,.load false 1 (.t 21)⟩,⟨some 23,none,.len false (.t 22)⟩,⟨some 24,none,.bin .lss false (.t 20) (.t 23)⟩]) (.cond (.t 24) .skip (.exit 0))) (.seq (.block 1 (.seq (.dreg [[],[0],[],[1,0,2],[3,1,0,2],[],[5],[],[6,5,7],[8,6,5,7],[4,3,1,0,2,9,8,6,5,7],[10,4,3,1,0,2,9,8,6,5,7]] [⟨some 27,none,.faddr 1 (.t 2)⟩,⟨some 28,none,.load false 1 (.t 27)⟩,⟨some 29,none,.mv (.t 5)⟩,⟨some 30,none,.iaddr 2 (.t 28) (.t 29)⟩,⟨some 31,none,.load true 2 (.t 30)⟩,⟨some 32,none,.faddr 1 (.t 3)⟩,⟨some 33,none,.load false 1 (.t 32)⟩,⟨some 34,none,.mv (.t 5)⟩,⟨some 35,none,.iaddr 2 (.t 33) (.t 34)⟩,⟨some 36,none,.load true 2 (.t 35)⟩,⟨some 37,none,.call 68 [(.t 31),(.t 36)]⟩,⟨some 38,none,.un .not (.t 37)⟩]) (.cond (.t 38) (.seq (.reg [⟨some 4,none,.mv (.c (.bool false))⟩]) .ret) .skip))) (.reg [⟨some 25,none,.mv (.t 5)⟩,⟨some 26,none,.bin .add false (.t 25) (.c (.int .i64 1))⟩,⟨some 5,none,.mv (.t 26)⟩])))))) (.seq (.reg [⟨some 4,none,.mv (.c (.bool true))⟩]) .ret))))
theorem Ie:codeOf Tryz.prog 68=some ⟨39,F5,[(.tmp 4)]⟩:=by kernel_rfl
theorem Ai:modes 68=⟨[],.asis,none,false⟩:=by unfold modes; rfl
theorem ON {α:Type} {xs ys:List α} {k:Nat} (hx:k<xs.length) (hy:k<ys.length):xs.drop k=ys.drop k ↔ xs[k]=ys[k]∧xs.drop (k+1)=ys.drop (k+1):=by
 rw [List.drop_eq_getElem_cons hx,List.drop_eq_getElem_cons hy,List.cons.injEq]
theorem VW (fid:Nat) (xs ys:List Tm) (hl:xs.length≤1099511627776) (hl':ys.length≤1099511627776) (hg:Lk Tryz.prog fid=true) (hm:(modes fid).hand=[]) (hE:∀ x∈xs,∀ y∈ys,E fid [x.sv,y.sv] []=some (.bool (dec (x=y)),[])):E 128 [.arr (xs.map Tm.d),.arr (ys.map Tm.d),.fn fid []] []=some (.bool (dec (xs=ys)),[]):=by
  by_cases hlen:xs.length=ys.length
  · have hq:((xs.length:Int)=(ys.length:Int))=True:=by first | exact eq_true (by omega) | exact eq_false (by omega)
    refine Ah AZ AD (of_decide_eq_true rfl) ?_
    simp (disch:=omega) only [AC,go_sem,Aa,hq]
    refine go_loop (α:=Int) (fun a=>⟨slots 32 0 [(1,.arr (ys.map Tm.d)),(2,.fn fid []),(15,.arr (xs.map Tm.d)),(16,.int .i64 xs.length),(17,.int .i64 a)],[]⟩) (fun a=>∃ k:Nat,a=k∧k≤(xs).length∧dec (xs.drop k=ys.drop k)=dec (xs=ys)) (fun a=>(xs).length-(a).toNat) 0 ⟨0,rfl,Nat.zero_le _,by rw [List.drop_zero,List.drop_zero]⟩ (by simp (disch:=omega) only [go_sem,Aa]) ?_
    rintro i ⟨k,hi,hk,hR⟩
    have hni:i.toNat=k:=by omega
    have hni1:(i+1).toNat=k+1:=by omega
    rcases Nat.lt_or_ge k (xs).length with hlt | hge
    · have hgx:=get_at Tm.d hlt
      rw [Tm.d_eq] at hgx
      have hlt':k<ys.length:=by omega
      have hgy:=get_at Tm.d hlt'
      rw [Tm.d_eq] at hgy
      have hc:=hE xs[k] (List.getElem_mem hlt) ys[k] (List.getElem_mem hlt')
      rw [EJ (ON hlt hlt')] at hR
      by_cases h0:xs[k]=ys[k]
      · rw [Ay h0] at hc
        rw [EJ (and_iff_right h0)] at hR
        simp (disch:=omega) only [go_sem,Aa,hni,hgx,hgy,hc,hg,hm]
        exact ⟨i+1,⟨k+1,by omega,hlt,hR⟩,by omega,by first | trivial | rfl⟩
      · rw [A8 h0] at hc
        rw [A8 (fun h=>h0 h.1)] at hR
        simp (disch:=omega) only [go_sem,Aa,hni,hgx,hgy,hc,hg,hm]
        exact hR
    · rw [List.drop_eq_nil_of_le hge,List.drop_eq_nil_of_le (by omega),Dr] at hR
      simp (disch:=omega) only [go_sem,Aa,hni]
      exact hR
  · have hq:((xs.length:Int)=(ys.length:Int))=False:=by first | exact eq_true (by omega) | exact eq_false (by omega)
    have he:dec (xs=ys)=false:=A8 fun h=>hlen (by rw [h])
    rw [he]
    refine Ah AZ AD (of_decide_eq_true rfl) ?_
    simp (disch:=omega) only [AC,go_sem,Aa,hq]
theorem Tm.eq_iff (x y:Tm):x=y ↔ x.name=y.name∧x.args=y.args:=by
 obtain ⟨n,a⟩:=x
 obtain ⟨m,b⟩:=y
 rw [Tm.mk.injEq]; rfl
theorem Sc (x:Tm) (y:Tm) (hnx:x.nodes≤1099511627776) (hny:y.nodes≤1099511627776) (ih:∀ x'∈x.args,∀ y':Tm,x'.nodes≤1099511627776→y'.nodes≤1099511627776→E 88 [x'.sv,y'.sv] []=some (.bool (dec (x'=y')),[])):E 88 [x.sv,y.sv] []=some (.bool (dec (x=y)),[]):=by
 have lx:=Tm.length_le x.args
 have ly:=Tm.length_le y.args
 have nx:=Tm.An x
 have ny:=Tm.An y
 have h6:=VW 88 x.args y.args (by omega) (by omega) MN (by rw [Ad]) fun x' hx' y' hy'=>ih x' hx' y' (by have:=Tm.AU hx'; omega) (by have:=Tm.AU hy'; omega)
 rw [EJ (Tm.eq_iff x y)]
 by_cases h0:x.name=y.name
 ·rw [EJ (and_iff_right h0)]
  have hq:(x.name=y.name)=True:=by simp [h0]
  refine Ah Hy Ad (of_decide_eq_true rfl) ?_
  simp (disch:=omega) only [ER,go_sem,Aa,hq,h6,AD]
 ·have hq:(x.name=y.name)=False:=by simp [h0]
  rw [A8 (fun h=>h0 h.1)]
  refine Ah Hy Ad (of_decide_eq_true rfl) ?_
  simp (disch:=omega) only [ER,go_sem,Aa,hq]
theorem Ea (x y:Tm) (hnx:x.nodes≤1099511627776) (hny:y.nodes≤1099511627776):E 88 [x.sv,y.sv] []=some (.bool (dec (x=y)),[]) :=
 Sc x y hnx hny fun x' hx' y' h h'=>Ea x' y' h h'
termination_by SizeOf.sizeOf x
decreasing_by exact Tm.Aw hx'
theorem Qaq (x:Tm) (y:Tm) (hnx:x.nodes≤1099511627776) (hny:y.nodes≤1099511627776) (ih:∀ x'∈x.args,∀ y':Tm,x'.nodes≤1099511627776→y'.nodes≤1099511627776→E 68 [x'.sv,y'.sv] []=some (.bool (dec (x'=y')),[])):E 68 [x.sv,y.sv] []=some (.bool (dec (x=y)),[]):=by
  have lx:=Tm.length_le x.args
  have ly:=Tm.length_le y.args
  have nx:=Tm.An x
  have ny:=Tm.An y
  rw [EJ (Tm.eq_iff x y)]
  by_cases h0:x.name=y.name
  · rw [EJ (and_iff_right h0)]
    have hq:(x.name=y.name)=True:=by simp [h0]
    by_cases hlen:x.args.length=y.args.length
    · have hq2:((x.args.length:Int)=(y.args.length:Int))=True:=by first | exact eq_true (by omega) | exact eq_false (by omega)
      refine Ah Ie Ai (of_decide_eq_true rfl) ?_
      simp (disch:=omega) only [F5,go_sem,Aa,hq,hq2]
      refine go_loop (α:=Int) (fun a=>⟨slots 39 0 [(2,.ptr 0 0),(3,.ptr 1 0),(5,.int .i64 a)],[.box 71 [.str x.name,.arr (x.args.map Tm.d)],.box 71 [.str y.name,.arr (y.args.map Tm.d)]]⟩) (fun a=>∃ k:Nat,a=k∧k≤(x.args).length∧dec (x.args.drop k=y.args.drop k)=dec (x.args=y.args)) (fun a=>(x.args).length-(a).toNat) 0 ⟨0,rfl,Nat.zero_le _,by rw [List.drop_zero,List.drop_zero]⟩ (by simp (disch:=omega) only [go_sem,Aa]) ?_
      rintro i ⟨k,hi,hk,hR⟩
      have hni:i.toNat=k:=by omega
      have hni1:(i+1).toNat=k+1:=by omega
      rcases Nat.lt_or_ge k (x.args).length with hlt | hge
      · have hgx:=get_at Tm.d hlt
        rw [Tm.d_eq] at hgx
        have hlt':k<y.args.length:=by omega
        have hgy:=get_at Tm.d hlt'
        rw [Tm.d_eq] at hgy
        have hc:=ih x.args[k] (List.getElem_mem hlt) y.args[k] (by have:=Tm.AU (List.getElem_mem hlt); omega) (by have:=Tm.AU (List.getElem_mem hlt'); omega)
        rw [EJ (ON hlt hlt')] at hR
        by_cases h0:x.args[k]=y.args[k]
        · rw [Ay h0] at hc
          rw [EJ (and_iff_right h0)] at hR
          simp (disch:=omega) only [go_sem,Aa,hni,hgx,hgy,hc,Ai]
          exact ⟨i+1,⟨k+1,by omega,hlt,hR⟩,by omega,by first | trivial | rfl⟩
        · rw [A8 h0] at hc
          rw [A8 (fun h=>h0 h.1)] at hR
          simp (disch:=omega) only [go_sem,Aa,hni,hgx,hgy,hc,Ai]
          exact hR
      · rw [List.drop_eq_nil_of_le hge,List.drop_eq_nil_of_le (by omega),Dr] at hR
        simp (disch:=omega) only [go_sem,Aa,hni]
        exact hR
    · have hq2:((x.args.length:Int)=(y.args.length:Int))=False:=by first | exact eq_true (by omega) | exact eq_false (by omega)
      have he:dec (x.args=y.args)=false:=A8 fun h=>hlen (by rw [h])
      rw [he]
      refine Ah Ie Ai (of_decide_eq_true rfl) ?_
      simp (disch:=omega) only [F5,go_sem,Aa,hq,hq2]
  · have hq:(x.name=y.name)=False:=by simp [h0]
    rw [A8 (fun h=>h0 h.1)]
    refine Ah Ie Ai (of_decide_eq_true rfl) ?_
    simp (disch:=omega) only [F5,go_sem,Aa,hq]
theorem Kn (x y:Tm) (hnx:x.nodes≤1099511627776) (hny:y.nodes≤1099511627776):E 68 [x.sv,y.sv] []=some (.bool (dec (x=y)),[]) :=
 Qaq x y hnx hny fun x' hx' y' h h'=>Kn x' y' h h'
termination_by SizeOf.sizeOf x
decreasing_by exact Tm.Aw hx'
def Fs:SC:=(.seq (.reg [⟨some 2,none,.mv (.c .nil)⟩]) (.seq (.seq (.reg [⟨some 6,none,.mv (.t 0)⟩,⟨some 7,none,.len false (.t 6)⟩,⟨some 8,none,.bin .eql false (.t 7) (.c (.int .i64 0))⟩]) (.cond (.t 8) (.seq (.reg [⟨some 2,none,.mv (.c .nil)⟩]) .ret) .skip)) (.seq (.reg [⟨some 9,none,.mv (.t 0)⟩,⟨some 10,none,.len false (.t 9)⟩,⟨(some 11),none,(.mkslice 71 2 40 [(.str ⟨#[]⟩),.nil] (.t 10))⟩,⟨some 3,none,.mv (.t 11)⟩]) (.seq (.seq (.reg [⟨some 12,none,.mv (.t 0)⟩,⟨some 13,none,.len false (.t 12)⟩,⟨some 14,none,.mv (.c (.int .i64 0))⟩]) (.block 0 (.loop [0,0,0,1,0,0,0,0,0,0,0,0,1,1,1,0,0,0,0,0,0,0,0,0,0,0] (.seq (.reg [⟨some 15,none,.bin .lss false (.t 14) (.t 13)⟩]) (.seq (.cond (.t 15) .skip (.exit 0)) (.seq (.block 1 (.seq (.reg [⟨some 16,none,.mv (.t 14)⟩,⟨some 17,none,.iaddr 2 (.t 12) (.t 14)⟩,⟨some 18,none,.load true 2 (.t 17)⟩,⟨(some 5),none,(.alloc 71 [(.str ⟨#[]⟩),.nil])⟩,⟨some 4,none,.mv (.t 16)⟩,⟨none,none,(.store 2 (.t 5) (.t 18))⟩]) (.reg [⟨some 19,none,.mv (.t 3)⟩,⟨some 20,none,.mv (.t 4)⟩,⟨some 21,none,.load true 2 (.t 5)⟩,⟨some 22,none,.call 133 [(.t 21)]⟩,⟨some 23,none,.iaddr 2 (.t 19) (.t 20)⟩,⟨none,none,(.store 2 (.t 23) (.t 22))⟩]))) (.reg [⟨some 24,none,.bin .add false (.t 14) (.c (.int .i64 1))⟩,⟨some 14,none,.mv (.t 24)⟩]))))))) (.seq (.reg [⟨some 25,none,.mv (.t 3)⟩,⟨some 2,none,.mv (.t 25)⟩]) .ret)))))
theorem I1:codeOf Tryz.prog 165=some ⟨26,Fs,[(.tmp 2)]⟩:=by kernel_rfl
theorem Ft:modes 165=⟨[],.own [some (71,2)],none,false⟩:=by unfold modes; rfl
def Jz:SC:=(.seq (.reg [⟨some 1,none,.boxv 71 2 (.t 0)⟩,⟨(some 2),none,(.alloc 71 [(.str ⟨#[]⟩),.nil])⟩]) (.seq (.dreg [[],[0],[],[2],[3,2],[1,0,4,3,2],[5,1,0,4,3,2]] [⟨some 3,none,.faddr 0 (.t 1)⟩,⟨some 4,none,.load false 1 (.t 3)⟩,⟨some 5,none,.faddr 1 (.t 1)⟩,⟨some 6,none,.load false 1 (.t 5)⟩,⟨some 7,none,.call 165 [(.t 6)]⟩,⟨(some 8),none,(.build [(.str ⟨#[]⟩),.nil] [(0,(1,(.t 4))),(1,(1,(.t 7)))])⟩,⟨none,none,(.store 2 (.t 2) (.t 8))⟩]) .ret))
theorem Pg:codeOf Tryz.prog 133=some ⟨9,Jz,[(.cell 2 true 2)]⟩:=by kernel_rfl
theorem AX:modes 133=⟨[],.asis,none,false⟩:=by unfold modes; rfl
def MO:SC:=(.seq (.reg [⟨some 1,none,.boxv 71 2 (.t 0)⟩,⟨(some 2),none,(.alloc 71 [(.str ⟨#[]⟩),.nil])⟩]) (.seq (.reg [⟨some 5,none,.faddr 0 (.t 1)⟩,⟨some 6,none,.load false 1 (.t 5)⟩,⟨(some 7),none,(.build [(.str ⟨#[]⟩),.nil] [(0,(1,(.t 6)))])⟩,⟨(some 3),none,(.alloc 71 [(.str ⟨#[]⟩),.nil])⟩,⟨none,none,(.store 2 (.t 3) (.t 7))⟩]) (.seq (.seq (.reg [⟨some 4,none,.mv (.c (.int .i64 0))⟩]) (.block 0 (.loop [0,1,1,1,1,0,0,0,0,0,0,0,0,0,0,0,0,0,0,0,0,0,0,0,0,0,0] (.seq (.seq (.reg [⟨some 8,none,.mv (.t 4)⟩,⟨some 9,none,.faddr 1 (.t 1)⟩,⟨some 10,none,.load false 1 (.t 9)⟩,⟨some 11,none,.len false (.t 10)⟩,⟨some 12,none,.bin .lss false (.t 8) (.t 11)⟩]) (.cond (.t 12) .skip (.exit 0))) (.seq (.block 1 (.dreg [[],[0],[],[2],[],[3,2,4],[5,3,2,4],[6,5,3,2,4],[7,6,5,3,2,4],[1,0,8,7,6,5,3,2,4],[0,1,2,3,4,5,6,7,8,9],[10,0,1,2,3,4,5,6,7,8,9]] [⟨some 15,none,.faddr 1 (.t 3)⟩,⟨some 16,none,.load false 1 (.t 15)⟩,⟨some 17,none,.faddr 1 (.t 1)⟩,⟨some 18,none,.load false 1 (.t 17)⟩,⟨some 19,none,.mv (.t 4)⟩,⟨some 20,none,.iaddr 2 (.t 18) (.t 19)⟩,⟨some 21,none,.load true 2 (.t 20)⟩,⟨some 22,none,.call 148 [(.t 21)]⟩,⟨(some 23),none,(.mkrow 71 2 [(.str ⟨#[]⟩),.nil] 1 [(0,(.t 22))])⟩,⟨(some 24),none,(.append 71 2 40 [(.str ⟨#[]⟩),.nil] (.t 16) (.t 23))⟩,⟨some 25,none,.faddr 1 (.t 3)⟩,⟨none,none,(.store 1 (.t 25) (.t 24))⟩])) (.reg [⟨some 13,none,.mv (.t 4)⟩,⟨some 14,none,.bin .add false (.t 13) (.c (.int .i64 1))⟩,⟨some 4,none,.mv (.t 14)⟩])))))) (.seq (.reg [⟨some 26,none,.load true 2 (.t 3)⟩,⟨none,none,(.store 2 (.t 2) (.t 26))⟩]) .ret))))
theorem Uq:codeOf Tryz.prog 148=some ⟨27,MO,[(.cell 2 true 2)]⟩:=by kernel_rfl
theorem CF:modes 148=⟨[],.frz,none,false⟩:=by unfold modes; rfl
theorem Ur (xs:List Tm) (hl:xs.length≤1099511627776) (h:∀ x∈xs,E 133 [x.sv] []=some (x.osv,x.obs)):E 165 [.arr (xs.map Tm.d)] []=some (.ref 0,[.row 71 2 (xs.map Tm.o)]):=by
 cases xs with
 | nil =>
  refine Ah I1 Ft (of_decide_eq_true rfl) ?_
  simp (disch:=omega) only [Fs,go_sem,Aa]
 | cons x0 xs0 =>
 generalize hxs:x0 :: xs0=xs at *
 have hpos:0<xs.length:=by rw [←hxs]; simp
 refine Ah I1 Ft (of_decide_eq_true rfl) ?_
 simp (disch:=omega) only [Fs,go_sem,Aa]
 refine go_loop (α:=Int) (fun a=>⟨slots 26 0 [(3,.ref 0),(12,.arr (xs.map Tm.d)),(13,.int .i64 xs.length),(14,.int .i64 a)],[.row 71 2 (FH Tm.o [.str ⟨#[]⟩,.ow []] xs a.toNat)]⟩) (fun a=>∃ k:Nat,a=k∧k≤(xs).length) (fun a=>(xs).length-(a).toNat) 0 ⟨0,rfl,Nat.zero_le _⟩ (by simp (disch:=omega) only [go_sem,Aa,Je,Int.toNat_zero]) ?_
 rintro i ⟨k,hi,hk⟩
 have hni:i.toNat=k:=by omega
 have hni1:(i+1).toNat=k+1:=by omega
 rcases Nat.lt_or_ge k (xs).length with hlt | hge
 ·have hg:=get_at Tm.d hlt
  rw [Tm.d_eq] at hg
  have hz:=La Tm.o [.str ⟨#[]⟩,.ow []] hlt
  have hc:=h xs[k] (List.getElem_mem hlt)
  have hs:=Lb Tm.o [.str ⟨#[]⟩,.ow []] hlt
  rw [Tm.o_eq] at hs
  simp (disch:=omega) only [go_sem,Aa,hni,hg,hc,hz,KY,AX,Tm.osv,Tm.obs]
  refine ⟨i+1,⟨k+1,by omega,hlt⟩,by omega,?_⟩
  simp (disch:=omega) only [go_sem,Aa,hni1,hs]
 ·obtain rfl:k=xs.length:=by omega
  simp (disch:=omega) only [go_sem,Aa,hni,KZ]
theorem VX (x:Tm) (h:E 165 [.arr (x.args.map Tm.d)] []=some (.ref 0,[.row 71 2 (x.args.map Tm.o)])):E 133 [x.sv] []=some (x.osv,x.obs):=by
 refine Ah Pg AX (of_decide_eq_true rfl) ?_
 simp (disch:=omega) only [Jz,go_sem,Aa,h,Ft]
theorem Jk (x:Tm) (hn:x.nodes≤1099511627776):E 133 [x.sv] []=some (x.osv,x.obs) :=
 VX x (Ur x.args (by have:=Tm.An x; have:=Tm.length_le x.args; omega) fun y hy=>Jk y (by have:=Tm.AU hy; have:=Tm.An x; omega))
termination_by SizeOf.sizeOf x
decreasing_by exact Tm.Aw hy
def Qef (res:RM) (n0:Nat) (rs:List RX) (Q:SV × List Ob→Prop) (x:X) (st:St):Prop:=∃ out,RV res n0 rs out x st∧Q out
theorem exq {α:Type} {a:α} {Q:α→Prop}:(∃ out,some a=some out∧Q out)=Q a:=propext ⟨fun ⟨o,h,q⟩=>by obtain rfl:=Option.some.inj h; exact q,fun q=>⟨a,rfl,q⟩⟩
theorem QdI {res:RM} {n0:Nat} {rs:List RX} {Q:SV × List Ob→Prop} {sl:List SV} {ob:List Ob}:Qef res n0 rs Q .ret ⟨sl,ob⟩=∃ out,MA res n0 ob (N9 ⟨sl,ob⟩ rs)=some out∧Q out:=rfl
theorem QdJ {res:RM} {n0:Nat} {rs:List RX} {Q:SV × List Ob→Prop} {sl:List SV} {ob:List Ob}:Qef res n0 rs Q .normal ⟨sl,ob⟩=∃ out,MA res n0 ob (N9 ⟨sl,ob⟩ rs)=some out∧Q out:=rfl
attribute [go_sem] QdI QdJ exq
def Tm.osh (x:Tm):List OT:=[.str x.name,.sh (x.args.map Tm.d)]
theorem Tm.QO (x:Tm):x.osh=[.str x.name,.sh (x.args.map Tm.d)]:=rfl
theorem Tm.MP:∀ xs:List Tm,OT.AN (xs.map Tm.osh)=true
 | []=>rfl
 | x :: xs=>by rw [List.map_cons,Tm.QO]; simp [OT.AN,OT.Dc,OT.full,Tm.MP xs]
theorem Tm.Us:∀ xs:List Tm,OT.erss (xs.map Tm.osh)=xs.map Tm.d
 | []=>rfl
 | x :: xs=>by rw [List.map_cons,List.map_cons,Tm.QO,Tm.d_eq]; simp [OT.erss,OT.ers,OT.er,Tm.Us xs]
theorem Dv {α β:Type} (f:α→β) {xs:List α} {k:Nat} (h:k<xs.length):(xs.take k).map f++[f xs[k]]=(xs.take (k+1)).map f:=by
 rw [List.take_succ_eq_append_getElem h,List.map_append]; rfl
theorem QbH (x:Tm) (hn:x.nodes≤1099511627776) (ih:∀ y∈x.args,E 148 [y.sv] []=some (y.sv,[])):E 148 [x.sv] []=some (x.sv,[]):=by
 have hl:=Tm.length_le x.args
 have hne:=Tm.An x
 have h10:((1:Int)=0)=False:=by simp
 have hfu:=Tm.MP x.args
 have her:=Tm.Us x.args
 refine Ah Uq CF (of_decide_eq_true rfl) ?_
 simp (disch:=omega) only [MO,go_sem,Aa]
 refine go_loop (α:=Int) (fun a=>⟨slots 27 0 [(1,.ptr 0 0),(2,.ptr 1 0),(3,.ptr 2 0),(4,.int .i64 a)],(if a=0 then [.box 71 [.str x.name,.arr (x.args.map Tm.d)],.box 71 [.str ⟨#[]⟩,.nil],.box 71 [.str x.name,.nil]] else [.box 71 [.str x.name,.arr (x.args.map Tm.d)],.box 71 [.str ⟨#[]⟩,.nil],.box 71 [.str x.name,.ref 3],.row 71 2 ((x.args.take a.toNat).map Tm.osh)])⟩) (fun a=>∃ k:Nat,a=k∧k≤(x.args).length) (fun a=>(x.args).length-(a).toNat) 0 ⟨0,rfl,Nat.zero_le _⟩ (by simp (disch:=omega) only [go_sem,Aa,eq_self,if_true]) ?_
 rintro i ⟨k,hi,hk⟩
 have hni:i.toNat=k:=by omega
 have hni1:(i+1).toNat=k+1:=by omega
 rcases Nat.lt_or_ge k (x.args).length with hlt | hge
 ·have hg:=get_at Tm.d hlt
  rw [Tm.d_eq] at hg
  have hc:=ih x.args[k] (List.getElem_mem hlt)
  have hs:=Dv Tm.osh hlt
  rw [Tm.QO] at hs
  rcases Nat.eq_zero_or_pos k with h0 | h0
  ·subst h0
   obtain rfl:i=0:=hi
   rw [List.take_zero,List.map_nil,List.nil_append] at hs
   simp (disch:=omega) only [go_sem,Aa,hni,hg,hc,CF,eq_self,if_true]
   refine ⟨1,⟨1,rfl,hlt⟩,by omega,?_⟩
   simp (disch:=omega) only [go_sem,Aa,h10,if_false,hs]
  ·have hi0:(i=0)=False:=by simp; omega
   have hi1:(i+1=0)=False:=by simp; omega
   have htl:(x.args.take k).length=k:=by rw [List.length_take]; omega
   simp (disch:=omega) only [go_sem,Aa,hni,hg,hc,CF,hi0,if_false,htl]
   refine ⟨i+1,⟨k+1,by omega,hlt⟩,by omega,?_⟩
   simp (disch:=omega) only [go_sem,Aa,hni1,hi1,if_false,hs]
 ·obtain rfl:k=x.args.length:=by omega
  have ht:x.args.take x.args.length=x.args:=List.take_length
  rcases Nat.eq_zero_or_pos x.args.length with h0 | h0
  ·have hx:x.args=[]:=List.eq_nil_of_length_eq_zero h0
   obtain rfl:i=0:=by omega
   simp (disch:=omega) only [go_sem,Aa,hni,hx,eq_self,if_true,List.map_nil,List.length_nil]
  ·have hi0:(i=0)=False:=by simp; omega
   simp (disch:=omega) only [go_sem,Aa,hni,hi0,if_false,ht,hfu,her]
theorem P1 (x:Tm) (hn:x.nodes≤1099511627776):E 148 [x.sv] []=some (x.sv,[]) :=
 QbH x hn fun y hy=>P1 y (by have:=Tm.AU hy; have:=Tm.An x; omega)
termination_by SizeOf.sizeOf x
decreasing_by exact Tm.Aw hy
def GX:SC:=(.seq (.reg [⟨some 1,none,.boxv 73 3 (.t 0)⟩,⟨(some 2),none,(.alloc 73 [(.bool false),(.str ⟨#[]⟩),.nil])⟩]) (.seq (.dreg [[],[0],[],[2],[3,2],[1,0,4,3,2],[5,1,0,4,3,2]] [⟨some 3,none,.faddr 0 (.t 1)⟩,⟨some 4,none,.load false 1 (.t 3)⟩,⟨some 5,none,.faddr 1 (.t 1)⟩,⟨some 6,none,.load true 2 (.t 5)⟩,⟨some 7,none,.call 133 [(.t 6)]⟩,⟨(some 8),none,(.build [(.bool false),(.str ⟨#[]⟩),.nil] [(0,(1,(.t 4))),(1,(2,(.t 7)))])⟩,⟨none,none,(.store 3 (.t 2) (.t 8))⟩]) .ret))
theorem Mc:codeOf Tryz.prog 169=some ⟨9,GX,[(.cell 2 true 3)]⟩:=by kernel_rfl
theorem C3:modes 169=⟨[],.own [none,none,some (71,2)],none,false⟩:=by unfold modes; rfl
def GY:SC:=(.seq (.reg [⟨some 2,none,.boxv 73 3 (.t 0)⟩,⟨some 3,none,.boxv 73 3 (.t 1)⟩,⟨some 4,none,.mv (.c (.bool false))⟩]) (.seq (.reg [⟨some 5,none,.faddr 0 (.t 2)⟩,⟨some 6,none,.load false 1 (.t 5)⟩,⟨some 7,none,.faddr 0 (.t 3)⟩,⟨some 8,none,.load false 1 (.t 7)⟩,⟨some 9,none,.bin .eql true (.t 6) (.t 8)⟩,⟨some 10,none,.mv (.t 9)⟩,⟨(some 11),(some (10,true)),(.faddr 1 (.t 2))⟩,⟨(some 12),(some (10,true)),(.load true 2 (.t 11))⟩,⟨(some 13),(some (10,true)),(.faddr 1 (.t 3))⟩,⟨(some 14),(some (10,true)),(.load true 2 (.t 13))⟩,⟨(some 15),(some (10,true)),(.call 88 [(.t 12),(.t 14)])⟩,⟨some 16,none,.pick (.t 10) (.t 15) (.c (.bool false))⟩,⟨some 4,none,.mv (.t 16)⟩]) .ret))
theorem Md:codeOf Tryz.prog 101=some ⟨17,GY,[(.tmp 4)]⟩:=by kernel_rfl
theorem Me:modes 101=⟨[],.asis,none,false⟩:=by unfold modes; rfl
def J0:SC:=(.seq (.reg [⟨some 2,none,.alloc 28 [.nil]⟩]) (.seq (.reg [⟨some 6,none,.build [.nil] []⟩,⟨some 3,none,.alloc 28 [.nil]⟩,⟨none,none,(.store 1 (.t 3) (.t 6))⟩]) (.seq (.seq (.reg [⟨some 7,none,.mv (.t 0)⟩,⟨some 8,none,.len false (.t 7)⟩,⟨some 9,none,.mv (.c (.int .i64 0))⟩]) (.block 0 (.loop [0,0,1,1,0,0,0,1,1,1,0,0,0,0,0,0,0,0,0,0,0,0,0,0,0,0,0,0,0] (.seq (.reg [⟨some 10,none,.bin .lss false (.t 9) (.t 8)⟩]) (.seq (.cond (.t 10) .skip (.exit 0)) (.seq (.block 1 (.seq (.reg [⟨some 11,none,.iaddr 3 (.t 7) (.t 9)⟩,⟨some 12,none,.load true 3 (.t 11)⟩,⟨(some 5),none,(.alloc 73 [(.bool false),(.str ⟨#[]⟩),.nil])⟩,⟨none,none,(.store 3 (.t 5) (.t 12))⟩]) (.dreg [[],[0],[],[2],[3,2],[1,0,4,3,2],[0,1,2,3,4,5],[6,0,1,2,3,4,5]] [⟨some 13,none,.faddr 0 (.t 3)⟩,⟨some 14,none,.load false 1 (.t 13)⟩,⟨some 15,none,.load true 3 (.t 5)⟩,⟨some 16,none,.call 169 [(.t 15)]⟩,⟨(some 17),none,(.mkrow 73 3 [(.bool false),(.str ⟨#[]⟩),.nil] 1 [(0,(.t 16))])⟩,⟨(some 18),none,(.append 73 3 48 [(.bool false),(.str ⟨#[]⟩),.nil] (.t 14) (.t 17))⟩,⟨some 19,none,.faddr 0 (.t 3)⟩,⟨none,none,(.store 1 (.t 19) (.t 18))⟩]))) (.reg [⟨some 20,none,.bin .add false (.t 9) (.c (.int .i64 1))⟩,⟨some 9,none,.mv (.t 20)⟩]))))))) (.seq (.reg [⟨some 21,none,.faddr 0 (.t 3)⟩,⟨some 22,none,.load false 1 (.t 21)⟩,⟨some 23,none,.call 170 [(.t 22),(.c (.fn 83 []))]⟩]) (.seq (.reg [⟨some 24,none,.faddr 0 (.t 3)⟩,⟨some 25,none,.load false 1 (.t 24)⟩,⟨some 26,none,.call 171 [(.t 25),(.c (.fn 101 []))]⟩,⟨some 27,none,.faddr 0 (.t 3)⟩,⟨none,none,(.store 1 (.t 27) (.t 26))⟩]) (.seq (.reg [⟨some 28,none,.load true 1 (.t 3)⟩,⟨none,none,(.store 1 (.t 2) (.t 28))⟩]) .ret))))))
theorem Ph:codeOf Tryz.prog 138=some ⟨29,J0,[(.cell 2 true 1)]⟩:=by kernel_rfl
theorem CA:modes 138=⟨[],.own [some (73,3)],none,false⟩:=by unfold modes; rfl
def L5:SC:=(.seq (.reg [⟨some 2,none,.alloc 28 [.nil]⟩]) (.seq (.reg [⟨(some 7),none,(.mkrow 73 3 [(.bool false),(.str ⟨#[]⟩),.nil] 0 [])⟩,⟨some 3,none,.mv (.t 7)⟩]) (.seq (.seq (.reg [⟨some 4,none,.mv (.c (.int .i64 0))⟩]) (.block 0 (.loop [1,0,1,1,1,0,0,0,0,0,0,0,0,0,0,0,0,0,0,0,0,0,0,0,0,0,0,0,0,0,0,0,0,0,0,0,0,0,0,0,0,0,0,0,0,0,0,0,0,0,0,0,0,0,0,0,0,0,0,0,0,0,0,0,0,0,0,0,0,0,0,0,0,0] (.seq (.seq (.reg [⟨some 8,none,.mv (.t 4)⟩,⟨some 9,none,.mv (.t 0)⟩,⟨some 10,none,.len false (.t 9)⟩,⟨some 11,none,.bin .lss false (.t 8) (.t 10)⟩]) (.cond (.t 11) .skip (.exit 0))) (.seq (.block 1 (.seq (.reg [⟨some 5,none,.mv (.c (.int .i64 0))⟩]) (.seq (.block 2 (.loop [1,0,1,1,1,1,0,0,0,0,0,0,0,0,0,0,0,0,0,0,0,0,0,0,0,0,0,0,0,0,0,0,0,0,0,0,0,0,0,0,0,0,0,0,0,0,0,0,0,0,0,0,0,0,0,0,0,0,0,0,0,0,0,0,0,0,0,0,0,0,0,0,0,0] (.seq (.seq (.dreg [[],[],[1],[0,2,1],[3,0,2,1],[4,3,0,2,1],[4,3,0,2,1],[5,4,3,0,2,1,6],[7,5,4,3,0,2,1,6],[4,3,0,2,1],[4,3,0,2,1],[9,4,3,0,2,1,10],[11,9,4,3,0,2,1,10],[8,7,5,4,3,0,2,1,6,12,11,9,10],[13,8,7,5,4,3,0,2,1,6,12,11,9,10],[4,3,0,2,1,14,13,8,7,5,6,12,11,9,10]] [⟨some 14,none,.mv (.t 5)⟩,⟨some 15,none,.mv (.t 3)⟩,⟨some 16,none,.len false (.t 15)⟩,⟨some 17,none,.bin .lss false (.t 14) (.t 16)⟩,⟨some 18,none,.mv (.t 17)⟩,⟨(some 19),(some (18,true)),(.mv (.t 3))⟩,⟨(some 20),(some (18,true)),(.mv (.t 5))⟩,⟨(some 21),(some (18,true)),(.iaddr 3 (.t 19) (.t 20))⟩,⟨(some 22),(some (18,true)),(.load true 3 (.t 21))⟩,⟨(some 23),(some (18,true)),(.mv (.t 0))⟩,⟨(some 24),(some (18,true)),(.mv (.t 4))⟩,⟨(some 25),(some (18,true)),(.iaddr 3 (.t 23) (.t 24))⟩,⟨(some 26),(some (18,true)),(.load true 3 (.t 25))⟩,⟨(some 27),(some (18,true)),(.call 73 [(.t 22),(.t 26)])⟩,⟨(some 28),(some (18,true)),(.bin .lss false (.t 27) (.c (.int .i64 0)))⟩,⟨some 29,none,.pick (.t 18) (.t 28) (.c (.bool false))⟩]) (.cond (.t 29) .skip (.exit 2))) (.block 3 (.reg [⟨some 30,none,.mv (.t 5)⟩,⟨some 31,none,.bin .add false (.t 30) (.c (.int .i64 1))⟩,⟨some 5,none,.mv (.t 31)⟩]))))) (.seq (.seq (.dreg [[],[],[1],[0,2,1],[3,0,2,1],[4,3,0,2,1],[4,3,0,2,1],[5,4,3,0,2,1,6],[7,5,4,3,0,2,1,6],[4,3,0,2,1],[4,3,0,2,1],[9,4,3,0,2,1,10],[11,9,4,3,0,2,1,10],[8,7,5,4,3,0,2,1,6,12,11,9,10],[13,8,7,5,4,3,0,2,1,6,12,11,9,10],[4,3,0,2,1,14,13,8,7,5,6,12,11,9,10]] [⟨some 32,none,.mv (.t 5)⟩,⟨some 33,none,.mv (.t 3)⟩,⟨some 34,none,.len false (.t 33)⟩,⟨some 35,none,.bin .lss false (.t 32) (.t 34)⟩,⟨some 36,none,.mv (.t 35)⟩,⟨(some 37),(some (36,true)),(.mv (.t 3))⟩,⟨(some 38),(some (36,true)),(.mv (.t 5))⟩,⟨(some 39),(some (36,true)),(.iaddr 3 (.t 37) (.t 38))⟩,⟨(some 40),(some (36,true)),(.load true 3 (.t 39))⟩,⟨(some 41),(some (36,true)),(.mv (.t 0))⟩,⟨(some 42),(some (36,true)),(.mv (.t 4))⟩,⟨(some 43),(some (36,true)),(.iaddr 3 (.t 41) (.t 42))⟩,⟨(some 44),(some (36,true)),(.load true 3 (.t 43))⟩,⟨(some 45),(some (36,true)),(.call 73 [(.t 40),(.t 44)])⟩,⟨(some 46),(some (36,true)),(.bin .eql false (.t 45) (.c (.int .i64 0)))⟩,⟨some 47,none,.pick (.t 36) (.t 46) (.c (.bool false))⟩]) (.cond (.t 47) (.exit 1) .skip)) (.seq (.dreg [[],[],[0,1],[2,0,1],[3,2,0,1],[],[],[5,6],[7,5,6],[8,7,5,6],[9,8,7,5,6],[4,3,2,0,1,10,9,8,7,5,6],[],[12,11,4,3,2,0,1,10,9,8,7,5,6]] [⟨some 48,none,.mv (.t 0)⟩,⟨some 49,none,.mv (.t 4)⟩,⟨some 50,none,.iaddr 3 (.t 48) (.t 49)⟩,⟨some 51,none,.faddr 0 (.t 50)⟩,⟨some 52,none,.load false 1 (.t 51)⟩,⟨some 53,none,.mv (.t 0)⟩,⟨some 54,none,.mv (.t 4)⟩,⟨some 55,none,.iaddr 3 (.t 53) (.t 54)⟩,⟨some 56,none,.faddr 1 (.t 55)⟩,⟨some 57,none,.load true 2 (.t 56)⟩,⟨some 58,none,.call 148 [(.t 57)]⟩,⟨(some 59),none,(.build [(.bool false),(.str ⟨#[]⟩),.nil] [(0,(1,(.t 52))),(1,(2,(.t 58)))])⟩,⟨(some 6),none,(.alloc 73 [(.bool false),(.str ⟨#[]⟩),.nil])⟩,⟨none,none,(.store 3 (.t 6) (.t 59))⟩]) (.dreg [[],[],[],[1,2],[0,3,1,2],[],[5],[4,0,3,1,2,6,5],[],[],[8,9],[7,4,0,3,1,2,6,5,10,8,9],[11,7,4,0,3,1,2,6,5,10,8,9]] [⟨(some 60),none,(.mkrow 73 3 [(.bool false),(.str ⟨#[]⟩),.nil] 0 [])⟩,⟨some 61,none,.mv (.t 3)⟩,⟨some 62,none,.mv (.t 5)⟩,⟨some 63,none,.slice false 3 (.t 61) none (some (.t 62))⟩,⟨(some 64),none,(.append 73 3 48 [(.bool false),(.str ⟨#[]⟩),.nil] (.t 60) (.t 63))⟩,⟨some 65,none,.load true 3 (.t 6)⟩,⟨(some 66),none,(.mkrow 73 3 [(.bool false),(.str ⟨#[]⟩),.nil] 1 [(0,(.t 65))])⟩,⟨(some 67),none,(.append 73 3 48 [(.bool false),(.str ⟨#[]⟩),.nil] (.t 64) (.t 66))⟩,⟨some 68,none,.mv (.t 3)⟩,⟨some 69,none,.mv (.t 5)⟩,⟨some 70,none,.slice false 3 (.t 68) (some (.t 69)) none⟩,⟨(some 71),none,(.append 73 3 48 [(.bool false),(.str ⟨#[]⟩),.nil] (.t 67) (.t 70))⟩,⟨some 3,none,.mv (.t 71)⟩])))))) (.reg [⟨some 12,none,.mv (.t 4)⟩,⟨some 13,none,.bin .add false (.t 12) (.c (.int .i64 1))⟩,⟨some 4,none,.mv (.t 13)⟩])))))) (.seq (.reg [⟨some 72,none,.mv (.t 3)⟩,⟨some 73,none,.build [.nil] [(0,(1,(.t 72)))]⟩,⟨none,none,(.store 1 (.t 2) (.t 73))⟩]) .ret))))
theorem Sd:codeOf Tryz.prog 117=some ⟨74,L5,[(.cell 2 true 1)]⟩:=by kernel_rfl
theorem CM:modes 117=⟨[],.frl [10],none,false⟩:=by unfold modes; rfl
theorem L6 (x:Lt) (hn:x.atom.nodes≤1099511627776):E 169 [x.sv] []=some (x.osv,x.obs):=by
 have h:=Jk x.atom hn
 refine Ah Mc C3 (of_decide_eq_true rfl) ?_
 simp (disch:=omega) only [GX,go_sem,Aa,h,AX,Tm.osv,Tm.obs]
theorem Lt.QdK (x y:Lt):dec (x=y)=(bif RN x.pos y.pos then dec (x.atom=y.atom) else false):=by
 obtain ⟨p,a⟩:=x
 obtain ⟨q,b⟩:=y
 have e:((⟨p,a⟩:Lt)=⟨q,b⟩) ↔ (p=q∧a=b):=by rw [Lt.mk.injEq]
 rw [EJ e]
 cases p <;> cases q
 ·show _=dec (a=b)
  exact EJ (and_iff_right rfl)
 ·exact A8 fun h=>by cases h.1
 ·exact A8 fun h=>by cases h.1
 ·show _=dec (a=b)
  exact EJ (and_iff_right rfl)
theorem Se (x y:Lt) (hnx:x.atom.nodes≤1099511627776) (hny:y.atom.nodes≤1099511627776):E 101 [x.sv,y.sv] []=some (.bool (dec (x=y)),[]):=by
 have h:=Ea x.atom y.atom hnx hny
 have b1:(false == true)=false:=rfl
 have b2:(true == false)=false:=rfl
 rw [Lt.QdK]
 cases hp:x.pos <;> cases hq:y.pos
 all_goals
  refine Ah Md Me (of_decide_eq_true rfl) ?_
  simp (disch:=omega) only [GY,go_sem,Aa,h,hp,hq,b1,b2,RN,Ad]
def Lt.fine (x:Lt):Prop:=x.atom.cok=true∧x.atom.nodes≤1099511627776
theorem AJ:modes 170=⟨[true],.asis,some Hs,false⟩:=by unfold modes; rfl
theorem Qda (t:TypeId) (l:List Lt) (hl:l.length≤1099511627776) (hc:∀ x∈l,x.fine):E 170 [.ref 0,.fn 83 []] [.row t 3 (l.map Lt.o)]=some (.tup [],[.row t 3 ((M6 l).map Lt.o)]):=by
 rw [Jc (g:=Hs) (congrArg FM.ext AJ)]
 unfold Hs
 simp only
 rw [Ay ⟨by first | trivial | rfl,by first | trivial | rfl,by simpa using hl,l,rfl,fun x hx y hy=>MM x y (hc x hx).1 (hc y hy).1 (hc x hx).2 (hc y hy).2⟩,cond_true,P0]
theorem Qar:E 170 [.nil,.fn 83 []] []=some (.tup [],[]):=by
 rw [Jc (g:=Hs) (congrArg FM.ext AJ)]
 unfold Hs
 simp only
 rw [Ay (by first | trivial | rfl),cond_true]
theorem AF:modes 171=⟨[true],.asis,some DF,false⟩:=by unfold modes; rfl
theorem Yo (t:TypeId) (l:List Lt) (hl:l.length≤1099511627776) (hc:∀ x∈l,x.fine):E 171 [.ref 0,.fn 101 []] [.row t 3 (l.map Lt.o)]=some (.ref 1,[.gone,.row t 3 ((GP l).map Lt.o)]):=by
 rw [Jc (g:=DF) (congrArg FM.ext AF)]
 unfold DF
 simp only
 rw [Ay ⟨by first | trivial | rfl,by first | trivial | rfl,by simpa using hl,l,rfl,fun x hx y hy=>E_told (Se x y (hc x hx).2 (hc y hy).2)⟩,cond_true,P0]
theorem Ut:E 171 [.nil,.fn 101 []] []=some (.nil,[]):=by
 rw [Jc (g:=DF) (congrArg FM.ext AF)]
 unfold DF
 simp only
 rw [Ay (by first | trivial | rfl),cond_true]
noncomputable def mkC (l:List Lt):Cl:=⟨GP (M6 l)⟩
theorem Qdb:(mkC []).lits=[]:=by
 have e0:M6 []=[]:=List.mergeSort_nil
 unfold mkC
 rw [e0]; rfl
theorem Mf (l:List Lt):Dk (mkC l).lits:=TY (OI l)
theorem P2 (l:List Lt) (z:Lt):z∈(mkC l).lits ↔ z∈l:=by
 show z∈GP (M6 l) ↔ _
 rw [Qae]
 exact (G4 l).mem_iff
theorem Zt (l:List Lt):(mkC l).lits.length≤l.length:=by
 show (GP (M6 l)).length≤_
 rw [NM]
 have:=Zl (GO (M6 l)) (M6 l).length
 rw [(G4 l).length_eq] at this
 exact Nat.le_trans (by rw [(G4 l).length_eq]; exact Nat.le_refl _) this
theorem QP (l:List Lt) (hl:l.length≤1048576) (hf:∀ x∈l,x.fine):E 138 [.arr (l.map Lt.d)] []=some ((mkC l).osv,(mkC l).obs):=by
 have h10:((1:Int)=0)=False:=by simp
 have hsn:=Qar
 have hcn:=Ut
 have hs1:=Qda 73 l (by omega) hf
 have hs2:=Yo 73 (M6 l) (by rw [(G4 l).length_eq]; omega) (fun x hx=>hf x ((G4 l).mem_iff.1 hx))
 refine Ah Ph CA (of_decide_eq_true rfl) ?_
 simp (disch:=omega) only [J0,go_sem,Aa]
 refine go_loop (α:=Int) (fun a=>⟨slots 29 0 [(2,.ptr 0 0),(3,.ptr 1 0),(7,.arr (l.map Lt.d)),(8,.int .i64 l.length),(9,.int .i64 a)],(if a=0 then [.box 28 [.nil],.box 28 [.nil]] else [.box 28 [.nil],.box 28 [.ref 2],.row 73 3 ((l.take a.toNat).map Lt.o)])⟩) (fun a=>∃ k:Nat,a=k∧k≤(l).length) (fun a=>(l).length-(a).toNat) 0 ⟨0,rfl,Nat.zero_le _⟩ (by simp (disch:=omega) only [go_sem,Aa,eq_self,if_true]) ?_
 rintro i ⟨k,hi,hk⟩
 have hni:i.toNat=k:=by omega
 have hni1:(i+1).toNat=k+1:=by omega
 rcases Nat.lt_or_ge k (l).length with hlt | hge
 ·have hg:=get_at Lt.d hlt
  rw [Lt.d_eq] at hg
  have hc:=L6 l[k] (hf _ (List.getElem_mem hlt)).2
  have hs:=Dv Lt.o hlt
  rw [Lt.o_eq] at hs
  rcases Nat.eq_zero_or_pos k with h0 | h0
  ·subst h0
   obtain rfl:i=0:=hi
   rw [List.take_zero,List.map_nil,List.nil_append] at hs
   simp (disch:=omega) only [go_sem,Aa,hni,hg,hc,C3,eq_self,if_true]
   refine ⟨1,⟨1,rfl,hlt⟩,by omega,?_⟩
   simp (disch:=omega) only [go_sem,Aa,h10,if_false,hs]
  ·have hi0:(i=0)=False:=by simp; omega
   have hi1:(i+1=0)=False:=by simp; omega
   have htl:(l.take k).length=k:=by rw [List.length_take]; omega
   simp (disch:=omega) only [go_sem,Aa,hni,hg,hc,C3,hi0,if_false,htl]
   refine ⟨i+1,⟨k+1,by omega,hlt⟩,by omega,?_⟩
   simp (disch:=omega) only [go_sem,Aa,hni1,hi1,if_false,hs]
 ·obtain rfl:k=l.length:=by omega
  have ht:l.take l.length=l:=List.take_length
  rcases Nat.eq_zero_or_pos l.length with h0 | h0
  ·have hx:l=[]:=List.eq_nil_of_length_eq_zero h0
   obtain rfl:i=0:=by omega
   have hm:(mkC l).lits=[]:=by rw [hx]; exact Qdb
   simp (disch:=omega) only [go_sem,Aa,hni,eq_self,if_true,hsn,hcn,hm,List.map_nil,AJ,AF]
  ·have hi0:(i=0)=False:=by simp; omega
   have hm:(GP (M6 l))=(mkC l).lits:=rfl
   simp (disch:=omega) only [go_sem,Aa,hni,hi0,if_false,ht,hs1,hs2,hm,AJ,AF]
noncomputable def CT:List Lt→Lt→Nat
 | [],_=>0
 | y :: r,x=>if y.cmp x < 0 then CT r x+1 else 0
noncomputable def Hl:List Lt→Lt→List Lt
 | [],x=>[x]
 | y :: r,x=>if y.cmp x < 0 then y :: Hl r x else if y.cmp x=0 then y :: r else x :: y :: r
theorem Zu (x:Lt):∀ xs:List Lt,CT xs x≤xs.length
 | []=>Nat.le_refl _
 | y :: r=>by
  rw [CT]
  have:=Zu x r
  split <;> simp <;> omega
theorem Qas {xs:List Lt} {x:Lt} {k:Nat} (h:k+CT (xs.drop k) x=CT xs x) (hk:k<xs.length):(xs[k].cmp x<0∧k+1+CT (xs.drop (k+1)) x=CT xs x)∨(¬ xs[k].cmp x<0∧k=CT xs x):=by
 rw [List.drop_eq_getElem_cons hk,CT] at h
 by_cases hq:xs[k].cmp x<0
 ·rw [if_pos hq] at h; exact .inl ⟨hq,by omega⟩
 ·rw [if_neg hq] at h; exact .inr ⟨hq,by omega⟩
theorem QQ {x:Lt}:∀ {xs:List Lt} (hlt:CT xs x<xs.length),xs[CT xs x].cmp x=0→Hl xs x=xs
  | [],hlt,_=>by simp at hlt
  | y :: r,hlt,h=>by
    rw [Hl]
    by_cases hq:y.cmp x<0
    · have e:CT (y :: r) x=CT r x+1:=by rw [CT,if_pos hq]
      rw [if_pos hq]
      simp only [e,List.length_cons,List.getElem_cons_succ] at hlt h
      rw [QQ (by omega) h]
    · have e:CT (y :: r) x=0:=by rw [CT,if_neg hq]
      simp only [e,List.getElem_cons_zero] at h
      rw [if_neg hq,if_pos h]
theorem QR {x:Lt}:∀ {xs:List Lt},(∀ hlt:CT xs x<xs.length,xs[CT xs x].cmp x≠0)→Hl xs x=xs.take (CT xs x)++[x]++xs.drop (CT xs x)
  | [],_=>rfl
  | y :: r,h=>by
    rw [Hl]
    by_cases hq:y.cmp x<0
    · have e:CT (y :: r) x=CT r x+1:=by rw [CT,if_pos hq]
      rw [if_pos hq,e,List.take_succ_cons,List.drop_succ_cons,List.cons_append,List.cons_append]
      rw [QR fun hlt=>?_]
      have:=h (by rw [e]; simpa using hlt)
      simp only [e,List.getElem_cons_succ] at this
      exact this
    · have e:CT (y :: r) x=0:=by rw [CT,if_neg hq]
      have:=h (by rw [e]; simp)
      simp only [e,List.getElem_cons_zero] at this
      rw [if_neg hq,if_neg this,e]
      rfl
theorem MQ (x z:Lt):∀ xs:List Lt,z∈Hl xs x ↔ z=x∨z∈xs
  | []=>by simp [Hl]
  | y :: r=>by
    rw [Hl]
    split
    · rw [List.mem_cons,MQ x z r,List.mem_cons]
      constructor
      · rintro (h | h | h) <;> simp [h]
      · rintro (h | h | h) <;> simp [h]
    · split
      · rename_i h0
        have e:y=x:=(Lt.cmp_ord y x x).zero.1 h0
        subst e
        simp
      · simp
theorem OO (x:Lt):∀ {xs:List Lt},Dk xs→Dk (Hl xs x)
  | [],_=>List.pairwise_singleton _ _
  | y :: r,h=>by
    obtain ⟨h1,h2⟩:=List.pairwise_cons.1 h
    rw [Hl]
    split
    · rename_i hq
      refine List.pairwise_cons.2 ⟨fun z hz=>?_,OO x h2⟩
      rcases (MQ x z r).1 hz with rfl | hz
      · exact hq
      · exact h1 z hz
    · split
      · exact h
      · rename_i hq h0
        have ha:=(Lt.cmp_ord y x x).anti
        have hxy:x.cmp y<0:=by omega
        refine List.pairwise_cons.2 ⟨fun z hz=>?_,h⟩
        rcases List.mem_cons.1 hz with rfl | hz
        · exact hxy
        · exact (Lt.cmp_ord x y z).trans hxy (h1 z hz)
theorem VY (x:Lt):∀ xs:List Lt,(Hl xs x).length≤xs.length+1
 | []=>Nat.le_refl _
 | y :: r=>by
  rw [Hl]
  have:=VY x r
  split
  ·simpa using this
  ·split <;> simp
noncomputable def Ko (out l:List Lt):List Lt:=l.foldl Hl out
theorem To (z:Lt):∀ (l out:List Lt),z∈Ko out l ↔ z∈out∨z∈l
 | [],out=>by simp [Ko]
 | x :: l,out=>by
  show z∈Ko (Hl out x) l ↔ _
  rw [To z l,MQ,List.mem_cons]
  constructor
  ·rintro ((h | h) | h) <;> simp [h]
  ·rintro (h | h | h) <;> simp [h]
theorem MR:∀ (l:List Lt) {out:List Lt},Dk out→Dk (Ko out l)
 | [],_,h=>h
 | x :: l,_,h=>MR l (OO x h)
theorem Qat (l:List Lt):Ko [] l=(mkC l).lits:=Ja (MR l List.Pairwise.nil) (Mf l) fun z=>by
 rw [To,P2]; simp
theorem Lt.ot_take (xs:List Lt) (k:Nat):((xs.map Lt.d).take k).map (fun x=>x.map D.ot)=(xs.take k).map fun b=>b.d.map D.ot:=by
 rw [←List.map_take,List.map_map]; rfl
theorem Lt.ot_drop (xs:List Lt) (k:Nat):((xs.map Lt.d).drop k).map (fun x=>x.map D.ot)=(xs.drop k).map fun b=>b.d.map D.ot:=by
 rw [←List.map_drop,List.map_map]; rfl
theorem Lt.al3 (xs:List Lt):((xs.map fun b=>b.d.map D.ot).all fun l=>l.length == 3)=true:=by
 rw [List.all_map,List.all_eq_true]
 intro x _
 show ((x.d.map D.ot).length == 3)=true
 rw [Lt.d_eq]; rfl
theorem Lt.ald3 (xs:List Lt):((xs.map Lt.d).all fun l=>l.length == 3)=true:=by
 rw [List.all_map,List.all_eq_true]
 intro x _
 show (x.d.length == 3)=true
 rw [Lt.d_eq]; rfl
theorem Lt.dfu:∀ xs:List Lt,OT.AN (xs.map fun b=>b.d.map D.ot)=true
 | []=>rfl
 | x :: xs=>by rw [List.map_cons,Lt.d_eq]; simp [OT.AN,OT.Dc,OT.full,D.ot,Lt.dfu xs]
theorem Lt.der:∀ xs:List Lt,OT.erss (xs.map fun b=>b.d.map D.ot)=xs.map Lt.d
 | []=>rfl
 | x :: xs=>by rw [List.map_cons,List.map_cons,Lt.d_eq]; simp [OT.erss,OT.ers,OT.er,D.ot,Lt.der xs]
theorem QS (l:List Lt) (hl:l.length≤1048576) (hf:∀ x∈l,x.fine):E 117 [.arr (l.map Lt.d)] []=some ((mkC l).sv,[]):=by
  have hsv:(mkC l).sv=.agg [.arr ((Ko [] l).map Lt.d)]:=by rw [Qat]
  rw [hsv]
  refine Ah Sd CM (of_decide_eq_true rfl) ?_
  simp (disch:=omega) only [L5,go_sem,Aa]
  refine go_loop (α:=Int × List Lt) (fun a=>⟨slots 74 0 [(0,.arr (l.map Lt.d)),(2,.ptr 0 0),(3,.arr (a.2.map Lt.d)),(4,.int .i64 a.1)],[.box 28 [.nil]]⟩) (fun a=>∃ k:Nat,a.1=k∧k≤l.length∧Ko a.2 (l.drop k)=Ko [] l∧a.2.length≤k∧∀ y∈a.2,y.fine) (fun a=>l.length-a.1.toNat) (0,[]) ⟨0,rfl,Nat.zero_le _,by rw [List.drop_zero],Nat.le_refl _,fun y hy=>by cases hy⟩ (by simp (disch:=omega) only [go_sem,Aa]) ?_
  rintro ⟨i,out⟩ ⟨k,hi,hk,hR,hol,hof⟩
  dsimp only at hi hR hol hof
  have hni:i.toNat=k:=by omega
  rcases Nat.lt_or_ge k l.length with hlt | hge
  · have hg := get_at Lt.d hlt
    rw [Lt.d_eq] at hg
    have hxf:=hf l[k] (List.getElem_mem hlt)
    have hxn:∀ out2:List Lt,Hl out l[k]=out2→Ko out2 (l.drop (k+1))=Ko [] l:=fun out2 h=>by
      rw [List.drop_eq_getElem_cons hlt] at hR
      rw [←h]
      exact hR
    simp (disch:=omega) only [go_sem,Aa,hni,hg]
    refine go_loop (α:=Int) (fun a=>⟨slots 74 0 [(0,.arr (l.map Lt.d)),(2,.ptr 0 0),(3,.arr (out.map Lt.d)),(4,.int .i64 i),(5,.int .i64 a)],[.box 28 [.nil]]⟩) (fun a=>∃ m:Nat,a=m∧m≤out.length∧m+CT (out.drop m) l[k]=CT out l[k]) (fun a=>out.length-a.toNat) 0 ⟨0,rfl,Nat.zero_le _,by rw [List.drop_zero,Nat.zero_add]⟩ (by simp (disch:=omega) only [go_sem,Aa]) ?_
    rintro j ⟨m,hj,hm,hR2⟩
    have hnj:j.toNat=m:=by omega
    have ho:=P1 l[k].atom hxf.2
    have e1:=Lt.ot_take out (CT out l[k])
    have e2:=Lt.ot_drop out (CT out l[k])
    have e3:=Lt.al3 (out.take (CT out l[k]))
    have e4:=Lt.al3 (out.drop (CT out l[k]))
    have e5:=Lt.ald3 out
    have l1:=Zu l[k] out
    have e6:(out.map Lt.d).take out.length=out.map Lt.d:=List.take_of_length_le (by simp)
    have e7:(out.take (CT out l[k])).length=CT out l[k]:=by rw [List.length_take]; omega
    have e8:(out.drop (CT out l[k])).length=out.length-CT out l[k]:=List.length_drop
    have hfu:=Lt.dfu (Hl out l[k])
    have her:=Lt.der (Hl out l[k])
    have hpl:=VY l[k] out
    have hpf:∀ y∈Hl out l[k],y.fine:=fun y hy=>by
      rcases (MQ l[k] y out).1 hy with rfl | hy
      · exact hxf
      · exact hof y hy
    rcases Nat.lt_or_ge m out.length with hltm | hgem
    · have hgm:=get_at Lt.d hltm
      rw [Lt.d_eq] at hgm
      have hof2:=hof out[m] (List.getElem_mem hltm)
      have hc:=ML out[m] l[k] hof2.1 hxf.1 hof2.2 hxf.2
      rcases Qas hR2 hltm with ⟨q,hR'⟩ | ⟨q,hm'⟩
      · simp (disch:=omega) only [go_sem,Aa,hni,hg,hnj,hgm,hc,Bo,q]
        exact ⟨j+1,⟨m+1,by omega,hltm,hR'⟩,by omega,by first | trivial | rfl⟩
      · subst hm'
        by_cases h0:out[CT out l[k]].cmp l[k]=0
        · have hp:=QQ hltm h0
          rw [h0] at hc
          simp (disch:=omega) only [go_sem,Aa,hni,hg,hnj,hgm,hc,Bo,q,h0]
          exact ⟨(i+1,out),⟨k+1,by dsimp only; omega,hlt,hxn _ hp,by dsimp only; omega,hof⟩,by dsimp only; omega,by first | trivial | rfl⟩
        · have hp:=QR (fun _=>h0)
          have hx2:(out.take (CT out l[k])).map (fun b=>b.d.map D.ot)++[[OT.bool l[k].pos,.str l[k].atom.name,.sh (l[k].atom.args.map Tm.d)]]++(out.drop (CT out l[k])).map (fun b=>b.d.map D.ot)=(Hl out l[k]).map fun b=>b.d.map D.ot:=by
            rw [hp]
            simp only [List.map_append,List.map_cons,List.append_assoc,List.cons_append,List.nil_append]
            rw [Lt.d_eq]; rfl
          simp (disch:=omega) only [go_sem,Aa,hni,hg,hnj,hgm,hc,Bo,q,h0,e1,e2,e3,e4,e5,e6,e7,e8,hx2,hfu,her,ho,List.length_append,Int.toNat_zero,CF]
          exact ⟨(i+1,Hl out l[k]),⟨k+1,by dsimp only; omega,hlt,hxn _ rfl,by dsimp only; omega,hpf⟩,by dsimp only; omega,by first | trivial | rfl⟩
    · obtain rfl:m=out.length:=by omega
      have hk':out.length=CT out l[k]:=by rw [←hR2,List.drop_eq_nil_of_le (Nat.le_refl _)]; simp [CT]
      have hp:=QR (x:=l[k]) (xs:=out) (fun hlt=>by omega)
      have hx2:(out.take (CT out l[k])).map (fun b=>b.d.map D.ot)++[[OT.bool l[k].pos,.str l[k].atom.name,.sh (l[k].atom.args.map Tm.d)]]++(out.drop (CT out l[k])).map (fun b=>b.d.map D.ot)=(Hl out l[k]).map fun b=>b.d.map D.ot:=by
        rw [hp]
        simp only [List.map_append,List.map_cons,List.append_assoc,List.cons_append,List.nil_append]
        rw [Lt.d_eq]; rfl
      rw [hk'] at hnj
      simp (disch:=omega) only [go_sem,Aa,hni,hg,hnj,e1,e2,e3,e4,e5,e6,e7,e8,hx2,hfu,her,ho,List.length_append,Int.toNat_zero,CF]
      exact ⟨(i+1,Hl out l[k]),⟨k+1,by dsimp only; omega,hlt,hxn _ rfl,by dsimp only; omega,hpf⟩,by dsimp only; omega,by first | trivial | rfl⟩
  · rw [List.drop_eq_nil_of_le hge] at hR
    have hR:out=Ko [] l:=hR
    rw [←hR]
    simp (disch:=omega) only [go_sem,Aa,hni]
theorem QT:∀ x y:List UInt8,Op.bytesLess x y=true→Op.bytesLess y x=false
  | [],[],h=>by simp [Op.bytesLess] at h
  | [],_ :: _,_=>rfl
  | _ :: _,[],h=>by simp [Op.bytesLess] at h
  | a :: x,b :: y,h=>by
    simp only [Op.bytesLess,Bool.or_eq_true,decide_eq_true_eq,Bool.and_eq_true,beq_iff_eq] at h
    simp only [Op.bytesLess,Bool.or_eq_false_iff,decide_eq_false_iff_not]
    rcases h with h | ⟨rfl,h⟩
    · have h2:¬ b<a:=by intro h3; exact absurd (UInt8.lt_trans h h3) (UInt8.lt_irrefl _)
      have h3:(b == a)=false:=by
        rw [beq_eq_false_iff_ne]; rintro rfl; exact UInt8.lt_irrefl _ h
      exact ⟨h2,by rw [h3]; rfl⟩
    · exact ⟨UInt8.lt_irrefl _,by rw [QT x y h]; simp⟩
theorem QU:∀ x y:List UInt8,Op.bytesLess x y=false→Op.bytesLess y x=false→x=y
  | [],[],_,_=>rfl
  | [],_ :: _,h,_=>by simp [Op.bytesLess] at h
  | _ :: _,[],_,h=>by simp [Op.bytesLess] at h
  | a :: x,b :: y,h,k=>by
    simp only [Op.bytesLess,Bool.or_eq_false_iff,decide_eq_false_iff_not] at h k
    have hab:a=b:=by
      have h1:=h.1; have h2:=k.1
      rw [UInt8.lt_iff_toNat_lt] at h1 h2
      exact UInt8.toNat_inj.1 (by omega)
    subst hab
    have h1:Op.bytesLess x y=false:=by simpa using h.2
    have h2:Op.bytesLess y x=false:=by simpa using k.2
    rw [QU x y h1 h2]
theorem Kp {a b:ByteArray} (h:strLt a b=true):strLt b a=false:=QT _ _ h
theorem Kq {a b:ByteArray} (h:strLt a b=false) (h':strLt b a=false):a=b:=NA (QU _ _ h h')
theorem I3 (a b:ByteArray):(strLt a b || dec (a=b))=!strLt b a:=by
 cases h:strLt b a with
 | false =>
  cases h2:strLt a b with
  | false=>rw [Ay (Kq h2 h)]; rfl
  | true=>rfl
 | true =>
  rw [Kp h,A8 (by rintro rfl; rw [GV] at h; cases h)]
  rfl
theorem QV:∀ x y z:List UInt8,Op.bytesLess x y=true→Op.bytesLess y z=true→Op.bytesLess x z=true
  | _,_,[],_,h=>by simp [Op.bytesLess] at h
  | [],[],_ :: _,h,_=>by simp [Op.bytesLess] at h
  | [],_ :: _,_ :: _,_,_=>rfl
  | _ :: _,[],_ :: _,h,_=>by simp [Op.bytesLess] at h
  | a :: x,b :: y,c :: z,h,k=>by
    simp only [Op.bytesLess,Bool.or_eq_true,decide_eq_true_eq,Bool.and_eq_true,beq_iff_eq] at h k ⊢
    rcases h with h | ⟨rfl,h⟩
    · rcases k with k | ⟨rfl,k⟩
      · exact .inl (UInt8.lt_trans h k)
      · exact .inl h
    · rcases k with k | ⟨rfl,k⟩
      · exact .inl k
      · exact .inr ⟨rfl,QV x y z h k⟩
theorem Kr {a b c:ByteArray} (h:strLt a b=true) (k:strLt b c=true):strLt a c=true:=QV _ _ _ h k
theorem VZ {a b:ByteArray} (h:strLt a b=true):¬ a=b:=by rintro rfl; rw [GV] at h; cases h
theorem Wa (a b:ByteArray):dec (E8 a b<0)=strLt a b:=by
 unfold E8
 cases strLt a b
 ·cases dec (a=b)
  ·exact A8 (by simp)
  ·exact A8 (by simp)
 ·exact Ay (by simp)
theorem Qau (a b:ByteArray):dec (E8 a b=0)=dec (a=b):=by
 unfold E8
 cases h:strLt a b
 ·cases h2:dec (a=b)
  ·exact A8 (by simp)
  ·exact Ay (by simp)
 ·rw [A8 (VZ h)]
  exact A8 (by simp)
theorem wrap_u64 {n:Int} (h0:0≤n) (h1:n≤18446744073709551615):IntKind.u64.wrap n=n:=Vd (by
 have e1:IntKind.u64.min=0:=by decide
 have e2:IntKind.u64.max=18446744073709551615:=by decide
 unfold inK
 rw [e1,e2]
 exact ⟨h0,h1⟩)
noncomputable def Hm (x:Bd):Bool:=Aq x.var&&(x.term.valid&&!dec (x.term.name=x.var))
noncomputable def Wb (xs:List Bd) (k:Nat):Bool:=match xs[k]? with
 | none=>true
 | some x=>Hm x&&(match k with
  | 0=>true
  | j+1=>match xs[j]? with
   | none=>true
   | some y=>strLt y.var x.var)
noncomputable def I4 (xs:List Bd):Nat→Bool
 | 0=>true
 | k+1=>I4 xs k&&Wb xs k
theorem Qav {xs:List Bd} {k n:Nat} (h:I4 xs k=false) (hn:k≤n):I4 xs n=false:=by
  induction n with
  | zero =>
            obtain rfl:k=0:=by omega
            exact h
  | succ n ih =>
    rcases Nat.lt_or_ge n k with h1 | h1
    · obtain rfl:k=n+1:=by omega
      exact h
    · rw [I4,ih h1]; rfl
theorem I5 {xs:List Bd} (h:0<xs.length):Wb xs 0=Hm xs[0]:=by
 unfold Wb
 rw [List.getElem?_eq_getElem h]
 simp
theorem G7 {xs:List Bd} {j:Nat} (h:j+1<xs.length):Wb xs (j+1)=(Hm xs[j+1]&&strLt xs[j].var xs[j+1].var):=by
 unfold Wb
 rw [List.getElem?_eq_getElem h]
 simp only [List.getElem?_eq_getElem (show j<xs.length by omega)]
theorem Zv {xs:List Bd} {k j:Nat} (h:I4 xs k=true) (hj:j<k):Wb xs j=true:=by
 induction k with
 | zero=>omega
 | succ k ih =>
  rw [I4,Bool.and_eq_true] at h
  rcases Nat.lt_or_ge j k with h1 | h1
  ·exact ih h.1 h1
  ·obtain rfl:j=k:=by omega
   exact h.2
theorem Qdc {xs:List Bd} {j:Nat} (hl:j<xs.length) (h:Wb xs j=true):Hm xs[j]=true:=by
 cases j with
 | zero=>rw [←I5 hl]; exact h
 | succ j=>rw [G7 hl,Bool.and_eq_true] at h; exact h.1
noncomputable def Sb.ok (x:Sb):Bool:=decide (x.binds.length≤12)&&I4 x.binds x.binds.length
theorem Sb.not_ok {x:Sb} {k:Nat} (h:I4 x.binds k=true) (h':Wb x.binds k=false) (hk:k<x.binds.length):x.ok=false:=by
 have:I4 x.binds x.binds.length=false:=Qav (k:=k+1) (by rw [I4,h,h']; rfl) (by omega)
 unfold Sb.ok
 rw [this,Bool.and_false]
def Sb.tame (x:Sb):Prop:=x.binds.length≤1099511627776∧∀ y∈x.binds,y.term.nodes≤1099511627776
theorem Sb.tame_at {x:Sb} (h:x.tame) {k:Nat} (hk:k<x.binds.length):x.binds[k].term.nodes≤1099511627776:=h.2 _ (List.getElem_mem hk)
def DO:SC:=(.seq (.reg [⟨some 1,none,.boxv 76 1 (.t 0)⟩,⟨some 2,none,.mv (.c (.bool false))⟩]) (.seq (.seq (.reg [⟨some 5,none,.faddr 0 (.t 1)⟩,⟨some 6,none,.load false 1 (.t 5)⟩,⟨some 7,none,.len false (.t 6)⟩,⟨some 8,none,.mv (.c (.int .i64 0))⟩]) (.block 0 (.loop [0,1,0,0,0,0,1,1,1,0,0,0,0,0,0,0,0,0,0,0,0,0,0,0,0,0,0,0,0,0,0,0,0,0,0,0,0,0,0,0,0,0,0,0,0,0,0,0,0,0,0,0] (.seq (.reg [⟨some 9,none,.bin .lss false (.t 8) (.t 7)⟩]) (.seq (.cond (.t 9) .skip (.exit 0)) (.seq (.block 1 (.seq (.reg [⟨some 10,none,.mv (.t 8)⟩,⟨some 11,none,.iaddr 3 (.t 6) (.t 8)⟩,⟨some 12,none,.load true 3 (.t 11)⟩,⟨(some 4),none,(.alloc 139 [(.str ⟨#[]⟩),(.str ⟨#[]⟩),.nil])⟩,⟨some 3,none,.mv (.t 10)⟩,⟨none,none,(.store 3 (.t 4) (.t 12))⟩]) (.seq (.dreg [[],[0],[1,0],[2,1,0],[3,2,1,0],[4,3,2,1,0],[5,4,3,2,1,0],[6,5,4,3,2,1,0],[7,6,5,4,3,2,1,0],[8,7,6,5,4,3,2,1,0],[7,6,5,4,3,2,1,0],[10,7,6,5,4,3,2,1,0],[7,6,5,4,3,2,1,0],[12,7,6,5,4,3,2,1,0],[11,10,7,6,5,4,3,2,1,0,13,12],[14,11,10,7,6,5,4,3,2,1,0,13,12],[15,14,11,10,7,6,5,4,3,2,1,0,13,12],[9,8,7,6,5,4,3,2,1,0,16,15,14,11,10,13,12],[7,6,5,4,3,2,1,0,17,9,8,16,15,14,11,10,13,12],[4,3,2,1,0,18,7,6,5,17,9,8,16,15,14,11,10,13,12],[19,4,3,2,1,0,18,7,6,5,17,9,8,16,15,14,11,10,13,12],[20,19,4,3,2,1,0,18,7,6,5,17,9,8,16,15,14,11,10,13,12],[21,20,19,4,3,2,1,0,18,7,6,5,17,9,8,16,15,14,11,10,13,12],[22,21,20,19,4,3,2,1,0,18,7,6,5,17,9,8,16,15,14,11,10,13,12],[23,22,21,20,19,4,3,2,1,0,18,7,6,5,17,9,8,16,15,14,11,10,13,12],[20,19,4,3,2,1,0,18,7,6,5,17,9,8,16,15,14,11,10,13,12,24,23,22,21],[25,20,19,4,3,2,1,0,18,7,6,5,17,9,8,16,15,14,11,10,13,12,24,23,22,21],[26,25,20,19,4,3,2,1,0,18,7,6,5,17,9,8,16,15,14,11,10,13,12,24,23,22,21],[27,26,25,20,19,4,3,2,1,0,18,7,6,5,17,9,8,16,15,14,11,10,13,12,24,23,22,21],[28,27,26,25,20,19,4,3,2,1,0,18,7,6,5,17,9,8,16,15,14,11,10,13,12,24,23,22,21],[26,25,20,19,4,3,2,1,0,18,7,6,5,17,9,8,16,15,14,11,10,13,12,24,23,22,21],[30,26,25,20,19,4,3,2,1,0,18,7,6,5,17,9,8,16,15,14,11,10,13,12,24,23,22,21],[29,28,27,26,25,20,19,4,3,2,1,0,18,7,6,5,17,9,8,16,15,14,11,10,13,12,24,23,22,21,31,30],[26,25,20,19,4,3,2,1,0,18,7,6,5,17,9,8,16,15,14,11,10,13,12,24,23,22,21,32,29,28,27,31,30]] [⟨some 13,none,.faddr 0 (.t 4)⟩,⟨some 14,none,.load false 1 (.t 13)⟩,⟨some 15,none,.call 162 [(.t 14)]⟩,⟨some 16,none,.un .not (.t 15)⟩,⟨some 17,none,.mv (.t 16)⟩,⟨(some 18),(some (17,false)),(.mv (.t 3))⟩,⟨(some 19),(some (17,false)),(.bin .gtr false (.t 18) (.c (.int .i64 0)))⟩,⟨(some 20),(some (17,false)),(.mv (.t 19))⟩,⟨(some 21),(some (20,true)),(.faddr 0 (.t 4))⟩,⟨(some 22),(some (20,true)),(.load false 1 (.t 21))⟩,⟨(some 23),(some (20,true)),(.faddr 0 (.t 1))⟩,⟨(some 24),(some (20,true)),(.load false 1 (.t 23))⟩,⟨(some 25),(some (20,true)),(.mv (.t 3))⟩,⟨(some 26),(some (20,true)),(.bin .sub false (.t 25) (.c (.int .i64 1)))⟩,⟨(some 27),(some (20,true)),(.iaddr 3 (.t 24) (.t 26))⟩,⟨(some 28),(some (20,true)),(.faddr 0 (.t 27))⟩,⟨(some 29),(some (20,true)),(.load false 1 (.t 28))⟩,⟨(some 30),(some (20,true)),(.bin .leq false (.t 22) (.t 29))⟩,⟨(some 31),(some (17,false)),(.pick (.t 20) (.t 30) (.c (.bool false)))⟩,⟨some 32,none,.pick (.t 17) (.c (.bool true)) (.t 31)⟩,⟨some 33,none,.mv (.t 32)⟩,⟨(some 34),(some (33,false)),(.faddr 1 (.t 4))⟩,⟨(some 35),(some (33,false)),(.load true 2 (.t 34))⟩,⟨(some 36),(some (33,false)),(.call 154 [(.t 35)])⟩,⟨(some 37),(some (33,false)),(.un .not (.t 36))⟩,⟨some 38,none,.pick (.t 33) (.c (.bool true)) (.t 37)⟩,⟨some 39,none,.mv (.t 38)⟩,⟨(some 40),(some (39,false)),(.faddr 1 (.t 4))⟩,⟨(some 41),(some (39,false)),(.faddr 0 (.t 40))⟩,⟨(some 42),(some (39,false)),(.load false 1 (.t 41))⟩,⟨(some 43),(some (39,false)),(.faddr 0 (.t 4))⟩,⟨(some 44),(some (39,false)),(.load false 1 (.t 43))⟩,⟨(some 45),(some (39,false)),(.bin .eql false (.t 42) (.t 44))⟩,⟨some 46,none,.pick (.t 39) (.c (.bool true)) (.t 45)⟩]) (.cond (.t 46) (.seq (.reg [⟨some 2,none,.mv (.c (.bool false))⟩]) .ret) .skip)))) (.reg [⟨some 47,none,.bin .add false (.t 8) (.c (.int .i64 1))⟩,⟨some 8,none,.mv (.t 47)⟩]))))))) (.seq (.reg [⟨some 48,none,.faddr 0 (.t 1)⟩,⟨some 49,none,.load false 1 (.t 48)⟩,⟨some 50,none,.len false (.t 49)⟩,⟨some 51,none,.bin .leq false (.t 50) (.c (.int .i64 12))⟩,⟨some 2,none,.mv (.t 51)⟩]) .ret)))
theorem GZ:codeOf Tryz.prog 131=some ⟨52,DO,[(.tmp 2)]⟩:=by kernel_rfl
theorem Ax:modes 131=⟨[],.asis,none,false⟩:=by unfold modes; rfl
def L7:SC:=(.seq (.reg [⟨some 1,none,.boxv 76 1 (.t 0)⟩,⟨some 2,none,.mv (.c (.bool false))⟩]) (.seq (.seq (.reg [⟨some 3,none,.mv (.c (.int .i64 0))⟩]) (.block 0 (.loop [0,1,0,1,0,0,0,0,0,0,0,0,0,0,0,0,0,0,0,0,0,0,0,0,0,0,0,0,0,0,0,0,0,0,0,0,0,0,0,0,0,0,0,0,0,0,0,0,0,0,0,0,0,0,0] (.seq (.seq (.reg [⟨some 5,none,.mv (.t 3)⟩,⟨some 6,none,.faddr 0 (.t 1)⟩,⟨some 7,none,.load false 1 (.t 6)⟩,⟨some 8,none,.len false (.t 7)⟩,⟨some 9,none,.bin .lss false (.t 5) (.t 8)⟩]) (.cond (.t 9) .skip (.exit 0))) (.seq (.block 1 (.seq (.reg [⟨some 12,none,.faddr 0 (.t 1)⟩,⟨some 13,none,.load false 1 (.t 12)⟩,⟨some 14,none,.mv (.t 3)⟩,⟨some 15,none,.iaddr 3 (.t 13) (.t 14)⟩,⟨some 16,none,.load true 3 (.t 15)⟩,⟨(some 4),none,(.alloc 139 [(.str ⟨#[]⟩),(.str ⟨#[]⟩),.nil])⟩,⟨none,none,(.store 3 (.t 4) (.t 16))⟩]) (.seq (.dreg [[],[0],[1,0],[2,1,0],[3,2,1,0],[4,3,2,1,0],[5,4,3,2,1,0],[6,5,4,3,2,1,0],[7,6,5,4,3,2,1,0],[4,3,2,1,0,8,7,6,5],[9,4,3,2,1,0,8,7,6,5],[10,9,4,3,2,1,0,8,7,6,5],[11,10,9,4,3,2,1,0,8,7,6,5],[12,11,10,9,4,3,2,1,0,8,7,6,5],[10,9,4,3,2,1,0,8,7,6,5],[14,10,9,4,3,2,1,0,8,7,6,5],[13,12,11,10,9,4,3,2,1,0,8,7,6,5,15,14],[10,9,4,3,2,1,0,8,7,6,5,16,13,12,11,15,14],[17,10,9,4,3,2,1,0,8,7,6,5,16,13,12,11,15,14],[18,17,10,9,4,3,2,1,0,8,7,6,5,16,13,12,11,15,14],[19,18,17,10,9,4,3,2,1,0,8,7,6,5,16,13,12,11,15,14],[20,19,18,17,10,9,4,3,2,1,0,8,7,6,5,16,13,12,11,15,14],[21,20,19,18,17,10,9,4,3,2,1,0,8,7,6,5,16,13,12,11,15,14],[22,21,20,19,18,17,10,9,4,3,2,1,0,8,7,6,5,16,13,12,11,15,14],[21,20,19,18,17,10,9,4,3,2,1,0,8,7,6,5,16,13,12,11,15,14],[24,21,20,19,18,17,10,9,4,3,2,1,0,8,7,6,5,16,13,12,11,15,14],[23,22,21,20,19,18,17,10,9,4,3,2,1,0,8,7,6,5,16,13,12,11,15,14,25,24],[26,23,22,21,20,19,18,17,10,9,4,3,2,1,0,8,7,6,5,16,13,12,11,15,14,25,24],[27,26,23,22,21,20,19,18,17,10,9,4,3,2,1,0,8,7,6,5,16,13,12,11,15,14,25,24],[21,20,19,18,17,10,9,4,3,2,1,0,8,7,6,5,16,13,12,11,15,14],[29,21,20,19,18,17,10,9,4,3,2,1,0,8,7,6,5,16,13,12,11,15,14],[28,27,26,23,22,21,20,19,18,17,10,9,4,3,2,1,0,8,7,6,5,16,13,12,11,15,14,25,24,30,29],[21,20,19,18,17,10,9,4,3,2,1,0,8,7,6,5,16,13,12,11,15,14,31,28,27,26,23,22,25,24,30,29],[18,17,10,9,4,3,2,1,0,8,7,6,5,16,13,12,11,15,14,32,21,20,19,31,28,27,26,23,22,25,24,30,29]] [⟨some 17,none,.faddr 0 (.t 4)⟩,⟨some 18,none,.load false 1 (.t 17)⟩,⟨some 19,none,.call 77 [(.t 18)]⟩,⟨some 20,none,.un .not (.t 19)⟩,⟨some 21,none,.mv (.t 20)⟩,⟨(some 22),(some (21,false)),(.faddr 1 (.t 4))⟩,⟨(some 23),(some (21,false)),(.load true 2 (.t 22))⟩,⟨(some 24),(some (21,false)),(.call 106 [(.t 23)])⟩,⟨(some 25),(some (21,false)),(.un .not (.t 24))⟩,⟨some 26,none,.pick (.t 21) (.c (.bool true)) (.t 25)⟩,⟨some 27,none,.mv (.t 26)⟩,⟨(some 28),(some (27,false)),(.faddr 1 (.t 4))⟩,⟨(some 29),(some (27,false)),(.faddr 0 (.t 28))⟩,⟨(some 30),(some (27,false)),(.load false 1 (.t 29))⟩,⟨(some 31),(some (27,false)),(.faddr 0 (.t 4))⟩,⟨(some 32),(some (27,false)),(.load false 1 (.t 31))⟩,⟨(some 33),(some (27,false)),(.bin .eql false (.t 30) (.t 32))⟩,⟨some 34,none,.pick (.t 27) (.c (.bool true)) (.t 33)⟩,⟨some 35,none,.mv (.t 34)⟩,⟨(some 36),(some (35,false)),(.mv (.t 3))⟩,⟨(some 37),(some (35,false)),(.bin .gtr false (.t 36) (.c (.int .i64 0)))⟩,⟨(some 38),(some (35,false)),(.mv (.t 37))⟩,⟨(some 39),(some (38,true)),(.faddr 0 (.t 1))⟩,⟨(some 40),(some (38,true)),(.load false 1 (.t 39))⟩,⟨(some 41),(some (38,true)),(.mv (.t 3))⟩,⟨(some 42),(some (38,true)),(.bin .sub false (.t 41) (.c (.int .i64 1)))⟩,⟨(some 43),(some (38,true)),(.iaddr 3 (.t 40) (.t 42))⟩,⟨(some 44),(some (38,true)),(.faddr 0 (.t 43))⟩,⟨(some 45),(some (38,true)),(.load false 1 (.t 44))⟩,⟨(some 46),(some (38,true)),(.faddr 0 (.t 4))⟩,⟨(some 47),(some (38,true)),(.load false 1 (.t 46))⟩,⟨(some 48),(some (38,true)),(.bin .geq false (.t 45) (.t 47))⟩,⟨(some 49),(some (35,false)),(.pick (.t 38) (.t 48) (.c (.bool false)))⟩,⟨some 50,none,.pick (.t 35) (.c (.bool true)) (.t 49)⟩]) (.cond (.t 50) (.seq (.reg [⟨some 2,none,.mv (.c (.bool false))⟩]) .ret) .skip)))) (.reg [⟨some 10,none,.mv (.t 3)⟩,⟨some 11,none,.bin .add false (.t 10) (.c (.int .i64 1))⟩,⟨some 3,none,.mv (.t 11)⟩])))))) (.seq (.reg [⟨some 51,none,.faddr 0 (.t 1)⟩,⟨some 52,none,.load false 1 (.t 51)⟩,⟨some 53,none,.len false (.t 52)⟩,⟨some 54,none,.bin .leq false (.t 53) (.c (.int .i64 12))⟩,⟨some 2,none,.mv (.t 54)⟩]) .ret)))
theorem Sf:codeOf Tryz.prog 109=some ⟨55,L7,[(.tmp 2)]⟩:=by kernel_rfl
theorem Cc:modes 109=⟨[],.asis,none,false⟩:=by unfold modes; rfl
def L8:SC:=(.seq (.reg [⟨some 2,none,.boxv 76 1 (.t 0)⟩,⟨some 4,none,.mv (.c (.int .i64 0))⟩]) (.seq (.seq (.reg [⟨some 5,none,.mv (.c (.int .i64 0))⟩]) (.block 0 (.loop [0,1,1,0,0,1,0,0,0,0,0,0,0,0,0,0,0,0,0,0,0,0] (.seq (.seq (.reg [⟨some 6,none,.mv (.t 5)⟩,⟨some 7,none,.faddr 0 (.t 2)⟩,⟨some 8,none,.load false 1 (.t 7)⟩,⟨some 9,none,.len false (.t 8)⟩,⟨some 10,none,.bin .lss false (.t 6) (.t 9)⟩]) (.cond (.t 10) .skip (.exit 0))) (.seq (.block 1 (.seq (.reg [⟨some 13,none,.faddr 0 (.t 2)⟩,⟨some 14,none,.load false 1 (.t 13)⟩,⟨some 15,none,.mv (.t 5)⟩,⟨some 16,none,.iaddr 3 (.t 14) (.t 15)⟩,⟨some 17,none,.faddr 0 (.t 16)⟩,⟨some 18,none,.load false 1 (.t 17)⟩,⟨some 19,none,.mv (.t 1)⟩,⟨some 20,none,.bin .eql false (.t 18) (.t 19)⟩]) (.cond (.t 20) (.seq (.reg [⟨some 21,none,.mv (.t 5)⟩,⟨some 4,none,.mv (.t 21)⟩]) .ret) .skip))) (.reg [⟨some 11,none,.mv (.t 5)⟩,⟨some 12,none,.bin .add false (.t 11) (.c (.int .i64 1))⟩,⟨some 5,none,.mv (.t 12)⟩])))))) (.seq (.reg [⟨some 4,none,.mv (.c (.int .i64 (-(0+1))))⟩]) .ret)))
theorem Sg:codeOf Tryz.prog 147=some ⟨22,L8,[(.tmp 4)]⟩:=by kernel_rfl
theorem BF:modes 147=⟨[],.asis,none,false⟩:=by unfold modes; rfl
theorem D7 (x:Sb) (hn:x.tame):E 131 [x.sv] []=some (.bool x.ok,[]):=by
  have hl:=hn.1
  refine Ah GZ Ax (of_decide_eq_true rfl) ?_
  simp (disch:=omega) only [DO,go_sem,Aa]
  refine go_loop (α:=Int) (fun a=>⟨slots 52 0 [(1,.ptr 0 0),(6,.arr (x.binds.map Bd.d)),(7,.int .i64 x.binds.length),(8,.int .i64 a)],[.box 76 [.arr (x.binds.map Bd.d)]]⟩) (fun a=>∃ k:Nat,a=k∧k≤(x.binds).length∧I4 x.binds k=true) (fun a=>(x.binds).length-(a).toNat) 0 ⟨0,rfl,Nat.zero_le _,by rw [I4]⟩ (by simp (disch:=omega) only [go_sem,Aa]) ?_
  rintro i ⟨k,hi,hk,hR⟩
  have hni:i.toNat=k:=by omega
  have hni1:(i+1).toNat=k+1:=by omega
  rcases Nat.lt_or_ge k (x.binds).length with hlt | hge
  · have hg:=get_at Bd.d hlt
    rw [Bd.d_eq] at hg
    have hv:=L3 x.binds[k].term (Sb.tame_at hn hlt)
    cases k with
    | zero =>
      obtain rfl:i=0:=hi
      cases hA:Aq x.binds[0].var <;> cases hV:x.binds[0].term.valid <;> cases hD:dec (x.binds[0].term.name=x.binds[0].var)
      all_goals
        first
        | (have e:x.ok=false:=Sb.not_ok hR (by rw [I5 hlt,Hm,hA,hV,hD]; rfl) hlt
           rw [e]
           simp (disch:=omega) only [go_sem,Aa,hni,hg,hv,hA,hV,hD,AI,Bm,DY]
           done)
        | (simp (disch:=omega) only [go_sem,Aa,hni,hg,hv,hA,hV,hD,AI,Bm,DY]
           exact ⟨1,⟨1,rfl,hlt,by rw [I4,hR,I5 hlt,Hm,hA,hV,hD]; rfl⟩,by omega,by first | trivial | rfl⟩)
    | succ j =>
      have hj:j<x.binds.length:=by omega
      have hg2:=get_at Bd.d hj
      rw [Bd.d_eq] at hg2
      have hni2:(i-1).toNat=j:=by omega
      have hLe:=I3 x.binds[j+1].var x.binds[j].var
      cases hS:strLt x.binds[j].var x.binds[j+1].var <;> cases hA:Aq x.binds[j+1].var <;> cases hV:x.binds[j+1].term.valid <;> cases hD:dec (x.binds[j+1].term.name=x.binds[j+1].var)
      all_goals
        first
        | (have e:x.ok=false:=Sb.not_ok hR (by rw [G7 hlt,Hm,hA,hV,hD,hS]; rfl) hlt
           rw [e]
           simp (disch:=omega) only [go_sem,Aa,hni,hg,hv,hA,hV,hD,AI,Bm,DY,hS,hni2,hg2,hLe]
           done)
        | (simp (disch:=omega) only [go_sem,Aa,hni,hg,hv,hA,hV,hD,AI,Bm,DY,hS,hni2,hg2,hLe]
           exact ⟨i+1,⟨j+1+1,by omega,hlt,by rw [I4,hR,G7 hlt,Hm,hA,hV,hD,hS]; rfl⟩,by omega,by first | trivial | rfl⟩)
  · obtain rfl:k=x.binds.length:=by omega
    simp (disch:=omega) only [go_sem,Aa,hni]
    unfold Sb.ok
    rw [hR,Bool.and_true,JS]
    exact decide_eq_decide.2 (by omega)
theorem MS (x:Sb) (hn:x.tame):E 109 [x.sv] []=some (.bool x.ok,[]):=by
  have hl:=hn.1
  refine Ah Sf Cc (of_decide_eq_true rfl) ?_
  simp (disch:=omega) only [L7,go_sem,Aa]
  refine go_loop (α:=Int) (fun a=>⟨slots 55 0 [(1,.ptr 0 0),(3,.int .i64 a)],[.box 76 [.arr (x.binds.map Bd.d)]]⟩) (fun a=>∃ k:Nat,a=k∧k≤(x.binds).length∧I4 x.binds k=true) (fun a=>(x.binds).length-(a).toNat) 0 ⟨0,rfl,Nat.zero_le _,by rw [I4]⟩ (by simp (disch:=omega) only [go_sem,Aa]) ?_
  rintro i ⟨k,hi,hk,hR⟩
  have hni:i.toNat=k:=by omega
  have hni1:(i+1).toNat=k+1:=by omega
  rcases Nat.lt_or_ge k (x.binds).length with hlt | hge
  · have hg:=get_at Bd.d hlt
    rw [Bd.d_eq] at hg
    have hv:=QJ x.binds[k].term (Sb.tame_at hn hlt)
    cases k with
    | zero =>
      obtain rfl:i=0:=hi
      cases hA:Aq x.binds[0].var <;> cases hV:x.binds[0].term.valid <;> cases hD:dec (x.binds[0].term.name=x.binds[0].var)
      all_goals
        first
        | (have e:x.ok=false:=Sb.not_ok hR (by rw [I5 hlt,Hm,hA,hV,hD]; rfl) hlt
           rw [e]
           simp (disch:=omega) only [go_sem,Aa,hni,hg,hv,hA,hV,hD,Be,Af,Am]
           done)
        | (simp (disch:=omega) only [go_sem,Aa,hni,hg,hv,hA,hV,hD,Be,Af,Am]
           exact ⟨1,⟨1,rfl,hlt,by rw [I4,hR,I5 hlt,Hm,hA,hV,hD]; rfl⟩,by omega,by first | trivial | rfl⟩)
    | succ j =>
      have hj:j<x.binds.length:=by omega
      have hg2:=get_at Bd.d hj
      rw [Bd.d_eq] at hg2
      have hni2:(i-1).toNat=j:=by omega
      have hLe:=I3 x.binds[j+1].var x.binds[j].var
      cases hS:strLt x.binds[j].var x.binds[j+1].var <;> cases hA:Aq x.binds[j+1].var <;> cases hV:x.binds[j+1].term.valid <;> cases hD:dec (x.binds[j+1].term.name=x.binds[j+1].var)
      all_goals
        first
        | (have e:x.ok=false:=Sb.not_ok hR (by rw [G7 hlt,Hm,hA,hV,hD,hS]; rfl) hlt
           rw [e]
           simp (disch:=omega) only [go_sem,Aa,hni,hg,hv,hA,hV,hD,Be,Af,Am,hS,hni2,hg2,hLe]
           done)
        | (simp (disch:=omega) only [go_sem,Aa,hni,hg,hv,hA,hV,hD,Be,Af,Am,hS,hni2,hg2,hLe]
           exact ⟨i+1,⟨j+1+1,by omega,hlt,by rw [I4,hR,G7 hlt,Hm,hA,hV,hD,hS]; rfl⟩,by omega,by first | trivial | rfl⟩)
  · obtain rfl:k=x.binds.length:=by omega
    simp (disch:=omega) only [go_sem,Aa,hni]
    unfold Sb.ok
    rw [hR,Bool.and_true,JS]
    exact decide_eq_decide.2 (by omega)
theorem Wc (x:Sb) (n:ByteArray) (hl:x.binds.length≤1099511627776):E 147 [x.sv,.str n] []=some (.int .i64 (Fb (fun b=>dec (b.var=n)) x.binds 0),[]):=by
 refine Ah Sg BF (of_decide_eq_true rfl) ?_
 simp (disch:=omega) only [L8,go_sem,Aa]
 refine go_loop (α:=Int) (fun a=>⟨slots 22 0 [(1,.str n),(2,.ptr 0 0),(5,.int .i64 a)],[.box 76 [.arr (x.binds.map Bd.d)]]⟩) (fun a=>∃ k:Nat,a=k∧k≤(x.binds).length∧Fb (fun b=>dec (b.var=n)) (x.binds.drop k) a=Fb (fun b=>dec (b.var=n)) x.binds 0) (fun a=>(x.binds).length-(a).toNat) 0 ⟨0,rfl,Nat.zero_le _,by rw [List.drop_zero]⟩ (by simp (disch:=omega) only [go_sem,Aa]) ?_
 rintro i ⟨k,hi,hk,hR⟩
 have hni:i.toNat=k:=by omega
 have hni1:(i+1).toNat=k+1:=by omega
 rcases Nat.lt_or_ge k (x.binds).length with hlt | hge
 ·have hg:=get_at Bd.d hlt
  rw [Bd.d_eq] at hg
  rw [List.drop_eq_getElem_cons hlt,Fb] at hR
  cases hp:dec (x.binds[k].var=n) with
  | true =>
   rw [hp] at hR
   simp (disch:=omega) only [go_sem,Aa,hni,hg,hp]
   simpa using hR
  | false =>
   rw [hp] at hR
   simp (disch:=omega) only [go_sem,Aa,hni,hg,hp]
   exact ⟨i+1,⟨k+1,by omega,hlt,by simpa using hR⟩,by omega,by first | trivial | rfl⟩
 ·rw [List.drop_eq_nil_of_le hge,Fb] at hR
  simp (disch:=omega) only [go_sem,Aa,hni]
  exact hR
def MT (xs:List Bd):Prop:=∀ j k (h:j<k) (hk:k<xs.length),strLt xs[j].var xs[k].var=true
theorem Qdd {xs:List Bd} (h:I4 xs xs.length=true):MT xs:=by
 intro j k hjk hk
 induction k with
 | zero=>omega
 | succ k ih =>
  have h1:=Zv h hk
  rw [G7 hk,Bool.and_eq_true] at h1
  rcases Nat.lt_or_ge j k with h2 | h2
  ·exact Kr (ih h2 (by omega)) h1.2
  ·obtain rfl:j=k:=by omega
   exact h1.2
theorem Sb.J1 {x:Sb} (h:x.ok=true):MT x.binds:=by
 unfold Sb.ok at h
 rw [Bool.and_eq_true] at h
 exact Qdd h.2
def Bl:List Bd→ByteArray→Nat
 | [],_=>0
 | x :: xs,n=>if strLt x.var n then Bl xs n+1 else 0
theorem Uu (n:ByteArray):∀ xs:List Bd,Bl xs n≤xs.length
 | []=>Nat.le_refl _
 | x :: xs=>by
  have:=Uu n xs
  rw [Bl]; simp only [List.length_cons]; split <;> omega
theorem Ks (n:ByteArray):∀ (xs:List Bd) (j:Nat) (h:j<xs.length),j<Bl xs n→strLt xs[j].var n=true
  | [],j,h,_=>absurd h (by simp)
  | x :: xs,j,h,hj=>by
    rw [Bl] at hj
    split at hj
    · rename_i hx
      cases j with
      | zero=>exact hx
      | succ j=>exact Ks n xs j (by simpa using h) (by omega)
    · omega
theorem Uv (n:ByteArray):∀ (xs:List Bd) (h:Bl xs n<xs.length),strLt (xs[Bl xs n]).var n=false
  | [],h=>absurd h (by simp)
  | x :: xs,h=>by
    cases hx:strLt x.var n with
    | false =>
      have e:Bl (x :: xs) n=0:=by rw [Bl,if_neg (by rw [hx]; simp)]
      simp only [e,List.getElem_cons_zero]; exact hx
    | true =>
      have e:Bl (x :: xs) n=Bl xs n+1:=by rw [Bl,if_pos hx]
      have h2:Bl xs n<xs.length:=by rw [e] at h; simpa using h
      simp only [e,List.getElem_cons_succ]; exact Uv n xs h2
theorem QbI {xs:List Bd} (hs:MT xs) (n:ByteArray) {m:Nat} (h:m<xs.length):strLt xs[m].var n=true ↔ m<Bl xs n:=by
  constructor
  · intro h1
    rcases Nat.lt_or_ge m (Bl xs n) with h2 | h2
    · exact h2
    · have h3:=Uv n xs (by omega)
      rcases Nat.lt_or_ge (Bl xs n) m with h4 | h4
      · rw [Kr (hs _ _ h4 h) h1] at h3; cases h3
      · have e:Bl xs n=m:=by omega
        simp only [e] at h3
        rw [h1] at h3; cases h3
  · exact Ks n xs m h
noncomputable def D8 (xs:List Bd) (n:ByteArray):Bool:=match xs[Bl xs n]? with
 | none=>false
 | some b=>dec (b.var=n)
def DP:SC:=(.seq (.reg [⟨some 2,none,.boxv 139 3 (.t 0)⟩,⟨some 4,none,.mv (.c (.int .i64 0))⟩]) (.seq (.reg [⟨some 5,none,.faddr 0 (.t 2)⟩,⟨some 6,none,.load false 1 (.t 5)⟩,⟨some 7,none,.mv (.t 1)⟩,⟨some 8,none,.call 136 [(.t 6),(.t 7)]⟩,⟨some 4,none,.mv (.t 8)⟩]) .ret))
theorem Ha:codeOf Tryz.prog 164=some ⟨9,DP,[(.tmp 4)]⟩:=by kernel_rfl
theorem BK:modes 164=⟨[],.asis,none,false⟩:=by unfold modes; rfl
theorem C4:Lk Tryz.prog 164=true:=by kernel_rfl
def Ba:SC:=(.seq (.reg [⟨some 6,none,.mv (.c (.int .i64 0))⟩,⟨some 7,none,.mv (.c (.bool false))⟩]) (.seq (.reg [⟨some 12,none,.mv (.t 0)⟩,⟨some 13,none,.len false (.t 12)⟩,⟨some 8,none,.mv (.t 13)⟩]) (.seq (.reg [⟨some 14,none,.mv (.t 8)⟩,⟨some 9,none,.mv (.c (.int .i64 0))⟩,⟨some 10,none,.mv (.t 14)⟩]) (.seq (.block 0 (.loop [1,1,1,0,0,0,0,0,1,1,1,0,0,0,0,0,0,0,0,0,0,0,0,0,0,0,0,0,0,0,0,0,0,0,0,0,0,0,0,0,0,0,0,0,0,0,0,0,0] (.seq (.seq (.reg [⟨some 15,none,.mv (.t 9)⟩,⟨some 16,none,.mv (.t 10)⟩,⟨some 17,none,.bin .lss false (.t 15) (.t 16)⟩]) (.cond (.t 17) .skip (.exit 0))) (.block 1 (.seq (.reg [⟨some 18,none,.mv (.t 9)⟩,⟨some 19,none,.mv (.t 10)⟩,⟨some 20,none,.bin .add false (.t 18) (.t 19)⟩,⟨some 21,none,.conv .u64 (.t 20)⟩,⟨some 22,none,.bin .shr false (.t 21) (.c (.int .u64 1))⟩,⟨some 23,none,.conv .i64 (.t 22)⟩,⟨some 11,none,.mv (.t 23)⟩]) (.seq (.reg [⟨some 24,none,.mv (.t 2)⟩,⟨some 25,none,.mv (.t 0)⟩,⟨some 26,none,.mv (.t 11)⟩,⟨some 27,none,.iaddr 3 (.t 25) (.t 26)⟩,⟨some 28,none,.load true 3 (.t 27)⟩,⟨some 29,none,.mv (.t 1)⟩,⟨some 30,none,.callv (.t 24) [(.t 28),(.t 29)]⟩,⟨some 31,none,.bin .lss false (.t 30) (.c (.int .i64 0))⟩]) (.cond (.t 31) (.reg [⟨some 32,none,.mv (.t 11)⟩,⟨some 33,none,.bin .add false (.t 32) (.c (.int .i64 1))⟩,⟨some 9,none,.mv (.t 33)⟩]) (.reg [⟨some 34,none,.mv (.t 11)⟩,⟨some 10,none,.mv (.t 34)⟩])))))))) (.seq (.reg [⟨some 35,none,.mv (.t 9)⟩,⟨some 36,none,.mv (.t 9)⟩,⟨some 37,none,.mv (.t 8)⟩,⟨some 38,none,.bin .lss false (.t 36) (.t 37)⟩,⟨some 39,none,.mv (.t 38)⟩,⟨(some 40),(some (39,true)),(.mv (.t 2))⟩,⟨(some 41),(some (39,true)),(.mv (.t 0))⟩,⟨(some 42),(some (39,true)),(.mv (.t 9))⟩,⟨(some 43),(some (39,true)),(.iaddr 3 (.t 41) (.t 42))⟩,⟨(some 44),(some (39,true)),(.load true 3 (.t 43))⟩,⟨(some 45),(some (39,true)),(.mv (.t 1))⟩,⟨(some 46),(some (39,true)),(.callv (.t 40) [(.t 44),(.t 45)])⟩,⟨(some 47),(some (39,true)),(.bin .eql false (.t 46) (.c (.int .i64 0)))⟩,⟨some 48,none,.pick (.t 39) (.t 47) (.c (.bool false))⟩,⟨some 6,none,.mv (.t 35)⟩,⟨some 7,none,.mv (.t 48)⟩]) .ret)))))
theorem BY:codeOf Tryz.prog 163=some ⟨49,Ba,[(.tmp 6),(.tmp 7)]⟩:=by kernel_rfl
theorem AE:modes 163=⟨[],.asis,none,false⟩:=by unfold modes; rfl
def CN:SC:=(.seq (.reg [⟨some 2,none,.boxv 76 1 (.t 0)⟩,⟨(some 4),none,(.alloc 71 [(.str ⟨#[]⟩),.nil])⟩,⟨some 5,none,.mv (.c (.bool false))⟩]) (.seq (.reg [⟨some 9,none,.faddr 0 (.t 2)⟩,⟨some 10,none,.load false 1 (.t 9)⟩,⟨some 11,none,.mv (.t 1)⟩,⟨some 12,none,.call 163 [(.t 10),(.t 11),(.c (.fn 164 []))]⟩,⟨some 8,none,.mv (.t 12)⟩,⟨some 13,none,.ext (.t 8) 0⟩,⟨some 14,none,.ext (.t 8) 1⟩,⟨some 6,none,.mv (.t 13)⟩,⟨some 7,none,.mv (.t 14)⟩]) (.seq (.seq (.reg [⟨some 15,none,.mv (.t 7)⟩,⟨some 16,none,.un .not (.t 15)⟩]) (.cond (.t 16) (.seq (.reg [⟨(some 17),none,(.build [(.str ⟨#[]⟩),.nil] [])⟩,⟨none,none,(.store 2 (.t 4) (.t 17))⟩,⟨some 5,none,.mv (.c (.bool false))⟩]) .ret) .skip)) (.seq (.reg [⟨some 18,none,.faddr 0 (.t 2)⟩,⟨some 19,none,.load false 1 (.t 18)⟩,⟨some 20,none,.mv (.t 6)⟩,⟨some 21,none,.iaddr 3 (.t 19) (.t 20)⟩,⟨some 22,none,.faddr 1 (.t 21)⟩,⟨some 23,none,.load true 2 (.t 22)⟩,⟨none,none,(.store 2 (.t 4) (.t 23))⟩,⟨some 5,none,.mv (.c (.bool true))⟩]) .ret))))
theorem Eo:codeOf Tryz.prog 132=some ⟨24,CN,[(.cell 4 true 2),(.tmp 5)]⟩:=by kernel_rfl
theorem A6:modes 132=⟨[],.frz,none,false⟩:=by unfold modes; rfl
theorem Zw (b:Bd) (n:ByteArray):E 164 [b.sv,.str n] []=some (.int .i64 (E8 b.var n),[]):=by
 have h:=Ji b.var n
 refine Ah Ha BK (of_decide_eq_true rfl) ?_
 simp (disch:=omega) only [DP,go_sem,Aa,h,AA]
theorem Tp (xs:List Bd) (n:ByteArray) (hl:xs.length≤1099511627776) (hs:MT xs):E 163 [.arr (xs.map Bd.d),.str n,.fn 164 []] []=some (.tup [.int .i64 (Bl xs n:Nat),.bool (D8 xs n)],[]):=by
 have hlow:=Uu n xs
 obtain ⟨L,hL⟩:∃ L:Int,L=(Bl xs n:Nat):=⟨_,rfl⟩
 rw [←hL]
 refine Ah BY AE (of_decide_eq_true rfl) ?_
 simp (disch:=omega) only [Ba,go_sem,Aa]
 refine go_loop (α:=Int × Int) (fun a=>⟨slots 49 0 [(0,.arr (xs.map Bd.d)),(1,.str n),(2,.fn 164 []),(8,.int .i64 xs.length),(9,.int .i64 a.1),(10,.int .i64 a.2)],[]⟩) (fun a=>0≤a.1∧a.1≤L∧L≤a.2∧a.2≤xs.length) (fun a=>(a.2-a.1).toNat) (0,xs.length) ⟨by simp,by dsimp only; omega,by dsimp only; omega,by dsimp only; omega⟩ (by simp (disch:=omega) only [go_sem,Aa]) ?_
 rintro ⟨i,j⟩ ⟨h0,h1,h2,h3⟩
 dsimp only at h0 h1 h2 h3
 rcases Int.lt_or_le i j with hij | hij
 ·obtain ⟨m,hm⟩:∃ m:Nat,(i+j) / 2=(m:Int):=⟨((i+j) / 2).toNat,by omega⟩
  have hlt:m<xs.length:=by omega
  have hni:(m:Int).toNat=m:=Int.toNat_natCast m
  have hg:=get_at Bd.d hlt
  rw [Bd.d_eq] at hg
  have hc:=Zw xs[m] n
  have hw:IntKind.u64.wrap (i+j)=i+j:=wrap_u64 (by omega) (by omega)
  have hi:=QbI hs n hlt
  obtain ⟨M,hM⟩:∃ M:Int,(i+j) / 2=M:=⟨_,rfl⟩
  have hni:M.toNat=m:=by omega
  cases hq:strLt xs[m].var n with
  | true =>
   have hi2:=hi.1 hq
   simp (disch:=omega) only [go_sem,Aa,hw,hni,hg,hc,C4,BK,Wa,hq,hM]
   exact ⟨(M+1,j),⟨by dsimp only; omega,by dsimp only; omega,by dsimp only; omega,by dsimp only; omega⟩,by dsimp only; omega,by first | trivial | rfl⟩
  | false =>
   have hi2:¬ m<Bl xs n:=by rw [←hi,hq]; simp
   simp (disch:=omega) only [go_sem,Aa,hw,hni,hg,hc,C4,BK,Wa,hq,hM]
   exact ⟨(i,M),⟨by dsimp only; omega,by dsimp only; omega,by dsimp only; omega,by dsimp only; omega⟩,by dsimp only; omega,by first | trivial | rfl⟩
 ·obtain rfl:i=L:=by omega
  rcases Nat.lt_or_ge (Bl xs n) xs.length with hlt | hge
  ·have hg:=get_at Bd.d hlt
   rw [Bd.d_eq] at hg
   have hni:i.toNat=Bl xs n:=by omega
   have hc:=Zw xs[Bl xs n] n
   have hh:D8 xs n=dec (xs[Bl xs n].var=n):=by unfold D8; rw [List.getElem?_eq_getElem hlt]
   rw [hh]
   simp (disch:=omega) only [go_sem,Aa,hni,hg,hc,C4,BK,Qau]
  ·have hh:D8 xs n=false:=by unfold D8; rw [List.getElem?_eq_none hge]
   rw [hh]
   simp (disch:=omega) only [go_sem,Aa]
theorem We {α:Type} (p:α→Bool):∀ (xs:List α) (k:Nat) (i:Int) (h:k<xs.length),(∀ j (hj:j<k),p xs[j]=false)→p xs[k]=true→Fb p xs i=i+k
 | [],k,i,h,_,_=>absurd h (by simp)
 | x :: xs,0,i,h,_,hp=>by rw [Fb,if_pos (show p x=true from hp)]; simp
 | x :: xs,k+1,i,h,hb,hp=>by
  have h0:p x=false:=hb 0 (by omega)
  have:=We p xs k (i+1) (by simpa using h) (fun j hj=>hb (j+1) (by omega)) hp
  rw [Fb,if_neg (by rw [h0]; simp),this]; omega
theorem Uw {α:Type} (p:α→Bool):∀ (xs:List α) (i:Int),(∀ j (hj:j<xs.length),p xs[j]=false)→Fb p xs i=-1
 | [],i,_=>by rw [Fb]
 | x :: xs,i,h=>by
  have h0:p x=false:=h 0 (by simp)
  rw [Fb,if_neg (by rw [h0]; simp)]
  exact Uw p xs (i+1) fun j hj=>h (j+1) (by simpa using hj)
theorem QW {xs:List Bd} (hs:MT xs) (n:ByteArray):Fb (fun b=>dec (b.var=n)) xs 0=if D8 xs n then ((Bl xs n:Nat):Int) else -1:=by
  have before:∀ j (hj:j<xs.length),j<Bl xs n→dec (xs[j].var=n)=false:=fun j hj hL=>A8 (VZ (Ks n xs j hj hL))
  rcases Nat.lt_or_ge (Bl xs n) xs.length with hlt | hge
  · have hh:D8 xs n=dec (xs[Bl xs n].var=n):=by unfold D8; rw [List.getElem?_eq_getElem hlt]
    cases hq:dec (xs[Bl xs n].var=n) with
    | true =>
      rw [hh,hq,if_pos rfl,We _ xs (Bl xs n) 0 hlt (fun j hj=>before j (by omega) hj) hq]; omega
    | false =>
      rw [hh,hq,if_neg (by simp)]
      refine Uw _ xs 0 fun j hj=>?_
      rcases Nat.lt_trichotomy j (Bl xs n) with h | h | h
      · exact before j hj h
      · subst h; exact hq
      · refine A8 fun e=>?_
        have h1:=hs _ _ h hj
        rw [e,Uv n xs hlt] at h1
        cases h1
  · have hh:D8 xs n=false:=by unfold D8; rw [List.getElem?_eq_none hge]
    rw [hh,if_neg (by simp)]
    exact Uw _ xs 0 fun j hj=>before j hj (by omega)
theorem Hz {xs:List Bd} {n:ByteArray} (h:D8 xs n=true):Bl xs n<xs.length:=by
 rcases Nat.lt_or_ge (Bl xs n) xs.length with h1 | h1
 ·exact h1
 ·unfold D8 at h; rw [List.getElem?_eq_none h1] at h; cases h
noncomputable def Sb.look (x:Sb) (n:ByteArray):Option Tm:=if h:D8 x.binds n=true then some (x.binds[Bl x.binds n]'(Hz h)).term else none
theorem QX (x:Sb) (hx:MT x.binds) (n:ByteArray) (hl:x.binds.length≤1099511627776) (hh:D8 x.binds n=true) (hlt:Bl x.binds n<x.binds.length):E 132 [x.sv,.str n] []=some (.tup [(x.binds[Bl x.binds n]).term.sv,.bool true],[]):=by
 have hb:=Tp x.binds n hl hx
 have hg:=get_at Bd.d hlt
 rw [Bd.d_eq] at hg
 have hni:((Bl x.binds n:Nat):Int).toNat=Bl x.binds n:=Int.toNat_natCast _
 refine Ah Eo A6 (of_decide_eq_true rfl) ?_
 simp (disch:=omega) only [CN,go_sem,Aa,hb,hni,hg,hh,AE]
theorem Tq (x:Sb) (hx:MT x.binds) (n:ByteArray) (hl:x.binds.length≤1099511627776) (hh:D8 x.binds n=false):E 132 [x.sv,.str n] []=some (.tup [.agg [.str ⟨#[]⟩,.arr []],.bool false],[]):=by
 have hb:=Tp x.binds n hl hx
 refine Ah Eo A6 (of_decide_eq_true rfl) ?_
 simp (disch:=omega) only [CN,go_sem,Aa,hb,hh,AE]
theorem Yp (x:Sb) (hx:x.ok=true) (n:ByteArray) (hl:x.binds.length≤1099511627776) (hh:D8 x.binds n=true) (hlt:Bl x.binds n<x.binds.length):E 132 [x.sv,.str n] []=some (.tup [(x.binds[Bl x.binds n]).term.sv,.bool true],[]):=QX x (Sb.J1 hx) n hl hh hlt
theorem Qaw (x:Sb) (hx:x.ok=true) (n:ByteArray) (hl:x.binds.length≤1099511627776) (hh:D8 x.binds n=false):E 132 [x.sv,.str n] []=some (.tup [.agg [.str ⟨#[]⟩,.arr []],.bool false],[]):=Tq x (Sb.J1 hx) n hl hh
mutual
noncomputable def Tm.ap (f:ByteArray→Option Tm):Tm→Tm
 | .mk name args=>if Aq name then (f name).getD (.mk name []) else .mk name (Tm.apL f args)
noncomputable def Tm.apL (f:ByteArray→Option Tm):List Tm→List Tm
 | []=>[]
 | x :: xs=>Tm.ap f x :: Tm.apL f xs
end
theorem Tm.H0 (f:ByteArray→Option Tm) (x:Tm):x.ap f=if Aq x.name then (f x.name).getD (.mk x.name []) else .mk x.name (Tm.apL f x.args):=by
 obtain ⟨name,args⟩:=x
 rw [Tm.ap]; rfl
theorem Tm.P3 (f:ByteArray→Option Tm):∀ xs:List Tm,(Tm.apL f xs).length=xs.length
 | []=>by rw [Tm.apL]
 | x :: xs=>by rw [Tm.apL]; simp only [List.length_cons,Tm.P3 f xs]
theorem Tm.MU (f:ByteArray→Option Tm):∀ xs:List Tm,Tm.apL f xs=xs.map (Tm.ap f)
 | []=>by rw [Tm.apL]; rfl
 | x :: xs=>by rw [Tm.apL,Tm.MU f xs]; rfl
def okF (f:ByteArray→Option Tm):Prop:=∀ n t,f n=some t→t.names=true∧t.nodes≤30
theorem Tm.MW (f:ByteArray→Option Tm):∀ xs:List Tm,(∀ y∈xs,(y.ap f).names=true)→Tm.DH (Tm.apL f xs)=true
 | [],_=>by rw [Tm.apL,Tm.DH]
 | x :: xs,h=>by rw [Tm.apL,Tm.DH,h x (by simp),Tm.MW f xs fun y hy=>h y (by simp [hy])]; rfl
theorem Tm.Kt {f:ByteArray→Option Tm} (hf:okF f) (x:Tm) (hx:x.names=true):(x.ap f).names=true:=by
 rw [Tm.H0]
 rw [Tm.Em] at hx
 split
 ·rename_i hv
  cases hq:f x.name with
  | none =>
   rw [Option.getD_none,Tm.Em]
   show (if Aq x.name then _ else _)=true
   rw [if_pos hv]; rfl
  | some t=>exact (hf _ _ hq).1
 ·rename_i hv
  rw [if_neg hv,Bool.and_eq_true,Bool.and_eq_true] at hx
  rw [Tm.Em]
  show (if Aq x.name then _ else EE x.name&&decide ((Tm.apL f x.args).length≤4)&&Tm.DH (Tm.apL f x.args))=true
  rw [if_neg hv,Tm.P3,hx.1.1,hx.1.2,Tm.MW f x.args fun y hy=>Tm.Kt hf y (by
   have:=hx.2
   rw [Tm.CX,List.all_eq_true] at this
   exact this y hy)]
  rfl
termination_by SizeOf.sizeOf x
decreasing_by exact Tm.Aw hy
theorem Tm.Wg {f:ByteArray→Option Tm}:∀ xs:List Tm,(∀ y∈xs,(y.ap f).nodes≤30*y.nodes)→Tm.Bb (Tm.apL f xs)≤30*Tm.Bb xs
 | [],_=>by rw [Tm.apL,Tm.Bb]; omega
 | x :: xs,h=>by
  have h1:=h x (by simp)
  have h2:=Tm.Wg xs fun y hy=>h y (by simp [hy])
  rw [Tm.apL,Tm.Bb,Tm.Bb]; omega
theorem Tm.I6 {f:ByteArray→Option Tm} (hf:okF f) (x:Tm):(x.ap f).nodes≤30*x.nodes:=by
 have hp:=Tm.Lc x
 rw [Tm.H0]
 split
 ·cases hq:f x.name with
  | none =>
   have:(Tm.mk x.name []).nodes=1+Tm.Bb []:=Tm.An (Tm.mk x.name [])
   rw [Tm.Bb] at this
   rw [Option.getD_none]; omega
  | some t=>have:=(hf _ _ hq).2; rw [Option.getD_some]; omega
 ·have h1:(Tm.mk x.name (Tm.apL f x.args)).nodes=1+Tm.Bb (Tm.apL f x.args):=Tm.An (Tm.mk x.name (Tm.apL f x.args))
  have h2:=Tm.Wg (f:=f) x.args fun y hy=>Tm.I6 hf y
  have h3:=Tm.An x
  omega
termination_by SizeOf.sizeOf x
decreasing_by exact Tm.Aw hy
theorem Tm.QbJ {f:ByteArray→Option Tm} (hf:okF f) (x:Tm) (hx:(x.valid || x.atom)=true):((x.ap f).valid || (x.ap f).atom)=(x.ap f).small:=by
  cases hs:(x.ap f).small with
  | false =>
    have h1:(x.ap f).valid=false:=by unfold Tm.valid; rw [hs]; rfl
    have h2:(x.ap f).atom=false:=by
      unfold Tm.atom; split
      · rw [hs,Bool.and_false,Bool.false_and]
      · rw [h1,Bool.and_false]
    rw [h1,h2]; rfl
  | true =>
    cases hn:x.names with
    | true =>
      have:(x.ap f).valid=true:=by unfold Tm.valid; rw [hs,Tm.Kt hf x hn]; rfl
      rw [this]; rfl
    | false =>
      have hv:x.valid=false:=by unfold Tm.valid; rw [hn,Bool.and_false]
      rw [hv,Bool.false_or] at hx
      unfold Tm.atom at hx
      split at hx
      · rename_i he
        rw [Bool.and_eq_true,Bool.and_eq_true] at hx
        have hname:x.name=⟨#[61]⟩:=by unfold Tm.eqn at he; exact Au.1 he
        have hnv0:Aq ⟨#[61]⟩=false:=by kernel_rfl
        have hnv:¬ (Aq x.name=true):=by rw [hname,hnv0]; simp
        have e:x.ap f=.mk x.name (Tm.apL f x.args):=by rw [Tm.H0,if_neg hnv]
        have:(x.ap f).atom=true:=by
          have he2:(x.ap f).eqn=true:=by rw [e]; exact he
          unfold Tm.atom
          rw [if_pos he2,hs]
          rw [e]
          show ((Tm.apL f x.args).length == 2&&true&&Tm.DH (Tm.apL f x.args))=true
          rw [Tm.P3,hx.1.1,Tm.MW f x.args fun y hy=>Tm.Kt hf y (by
            have:=hx.2
            rw [Tm.CX,List.all_eq_true] at this
            exact this y hy)]
          rfl
        rw [this,Bool.or_true]
      · rw [hv,Bool.and_false] at hx; cases hx
theorem Tm.Fu {x:Tm} (h:x.names=true) (hv:Aq x.name=true):x.args=[]:=by
 rw [Tm.Em,if_pos hv] at h
 exact List.eq_nil_of_length_eq_zero (by simpa using h)
theorem Tm.ED {x:Tm} (h:x.names=true) {y:Tm} (hy:y∈x.args):y.names=true:=by
 rw [Tm.Em] at h
 split at h
 ·have:x.args=[]:=List.eq_nil_of_length_eq_zero (by simpa using h)
  rw [this] at hy; cases hy
 ·rw [Bool.and_eq_true,Tm.CX,List.all_eq_true] at h
  exact h.2 y hy
theorem Sb.J2 {x:Sb} (h:x.ok=true) {k:Nat} (hk:k<x.binds.length):Hm x.binds[k]=true:=by
 unfold Sb.ok at h
 rw [Bool.and_eq_true] at h
 exact Qdc hk (Zv h.2 hk)
theorem Wh {x:Bd} (h:Hm x=true):Aq x.var=true:=by unfold Hm at h; rw [Bool.and_eq_true] at h; exact h.1
theorem Dm {x:Bd} (h:Hm x=true):x.term.valid=true:=by unfold Hm at h; rw [Bool.and_eq_true,Bool.and_eq_true] at h; exact h.2.1
theorem Ux {xs:List Bd} {n:ByteArray} (h:D8 xs n=true) (hlt:Bl xs n<xs.length):(xs[Bl xs n]).var=n:=by
 have hh:D8 xs n=dec (xs[Bl xs n].var=n):=by unfold D8; rw [List.getElem?_eq_getElem hlt]
 rw [hh] at h
 exact Au.1 h
theorem Sb.ES {x:Sb} (h:x.ok=true):okF x.look:=by
 intro n t ht
 unfold Sb.look at ht
 split at ht
 ·rename_i hh
  have hv:=Dm (Sb.J2 h (Hz hh))
  obtain rfl:=Option.some.inj ht
  unfold Tm.valid Tm.small at hv
  rw [Bool.and_eq_true,Bool.and_eq_true,decide_eq_true_eq] at hv
  exact ⟨hv.2,hv.1.1⟩
 ·cases ht
theorem Sb.Ku {x:Sb} {n:ByteArray} (h:D8 x.binds n=true) (hlt:Bl x.binds n<x.binds.length):x.look n=some (x.binds[Bl x.binds n]).term:=by
 unfold Sb.look; rw [dif_pos h]
theorem Sb.P4 {x:Sb} {n:ByteArray} (h:D8 x.binds n=false):x.look n=none:=by
 unfold Sb.look; rw [dif_neg (by rw [h]; simp)]
def Sb.fine (s:Sb):Prop:=MT s.binds∧∀ b∈s.binds,Aq b.var=true
theorem Sb.Uy {s:Sb} (h:s.ok=true):s.fine:=⟨Sb.J1 h,fun b hb=>by
 obtain ⟨k,hk,rfl⟩:=List.getElem_of_mem hb
 exact Wh (Sb.J2 h hk)⟩
def BT:SC:=(.seq (.reg [⟨some 2,none,.boxv 76 1 (.t 0)⟩,⟨some 3,none,.boxv 71 2 (.t 1)⟩,⟨(some 4),none,(.alloc 71 [(.str ⟨#[]⟩),.nil])⟩]) (.seq (.seq (.reg [⟨some 10,none,.faddr 1 (.t 3)⟩,⟨some 11,none,.load false 1 (.t 10)⟩,⟨some 12,none,.len false (.t 11)⟩,⟨some 13,none,.bin .eql false (.t 12) (.c (.int .i64 0))⟩]) (.cond (.t 13) (.seq (.seq (.reg [⟨some 15,none,.load true 1 (.t 2)⟩,⟨some 16,none,.faddr 0 (.t 3)⟩,⟨some 17,none,.load false 1 (.t 16)⟩,⟨some 18,none,.call 132 [(.t 15),(.t 17)]⟩,⟨some 14,none,.mv (.t 18)⟩,⟨some 19,none,.ext (.t 14) 0⟩,⟨some 20,none,.ext (.t 14) 1⟩,⟨(some 5),none,(.alloc 71 [(.str ⟨#[]⟩),.nil])⟩,⟨none,none,(.store 2 (.t 5) (.t 19))⟩,⟨some 6,none,.mv (.t 20)⟩]) (.seq (.reg [⟨some 21,none,.mv (.t 6)⟩]) (.cond (.t 21) (.seq (.reg [⟨some 22,none,.load true 2 (.t 5)⟩,⟨some 23,none,.call 133 [(.t 22)]⟩,⟨none,none,(.store 2 (.t 4) (.t 23))⟩]) .ret) .skip))) (.seq (.reg [⟨some 24,none,.faddr 0 (.t 3)⟩,⟨some 25,none,.load false 1 (.t 24)⟩,⟨(some 26),none,(.build [(.str ⟨#[]⟩),.nil] [(0,(1,(.t 25)))])⟩,⟨none,none,(.store 2 (.t 4) (.t 26))⟩]) .ret)) .skip)) (.seq (.dreg [[],[0],[],[2],[3,2],[4,3,2],[1,0,5,4,3,2],[],[7,6,1,0,5,4,3,2]] [⟨some 27,none,.faddr 0 (.t 3)⟩,⟨some 28,none,.load false 1 (.t 27)⟩,⟨some 29,none,.faddr 1 (.t 3)⟩,⟨some 30,none,.load false 1 (.t 29)⟩,⟨some 31,none,.len false (.t 30)⟩,⟨(some 32),none,(.mkslice 71 2 40 [(.str ⟨#[]⟩),.nil] (.t 31))⟩,⟨(some 33),none,(.build [(.str ⟨#[]⟩),.nil] [(0,(1,(.t 28))),(1,(1,(.t 32)))])⟩,⟨(some 7),none,(.alloc 71 [(.str ⟨#[]⟩),.nil])⟩,⟨none,none,(.store 2 (.t 7) (.t 33))⟩]) (.seq (.seq (.reg [⟨some 34,none,.faddr 1 (.t 3)⟩,⟨some 35,none,.load false 1 (.t 34)⟩,⟨some 36,none,.len false (.t 35)⟩,⟨some 37,none,.mv (.c (.int .i64 0))⟩]) (.block 0 (.loop [0,0,1,0,1,0,0,1,0,0,0,0,0,0,0,0,0,0,0,0,0,0,0,0,0,0,0,0,0,0,0,0,0,0,0,1,1,1,0,0,0,0,0,0,0,0,0,0,0,0,0] (.seq (.reg [⟨some 38,none,.bin .lss false (.t 37) (.t 36)⟩]) (.seq (.cond (.t 38) .skip (.exit 0)) (.seq (.block 1 (.seq (.reg [⟨some 39,none,.mv (.t 37)⟩,⟨some 40,none,.iaddr 2 (.t 35) (.t 37)⟩,⟨some 41,none,.load true 2 (.t 40)⟩,⟨(some 9),none,(.alloc 71 [(.str ⟨#[]⟩),.nil])⟩,⟨some 8,none,.mv (.t 39)⟩,⟨none,none,(.store 2 (.t 9) (.t 41))⟩]) (.dreg [[],[0],[],[],[],[3,4],[1,0,2,3,4,5],[6,1,0,2,3,4,5]] [⟨some 42,none,.faddr 1 (.t 7)⟩,⟨some 43,none,.load false 1 (.t 42)⟩,⟨some 44,none,.mv (.t 8)⟩,⟨some 45,none,.load true 1 (.t 2)⟩,⟨some 46,none,.load true 2 (.t 9)⟩,⟨some 47,none,.call 126 [(.t 45),(.t 46)]⟩,⟨some 48,none,.iaddr 2 (.t 43) (.t 44)⟩,⟨none,none,(.store 2 (.t 48) (.t 47))⟩]))) (.reg [⟨some 49,none,.bin .add false (.t 37) (.c (.int .i64 1))⟩,⟨some 37,none,.mv (.t 49)⟩]))))))) (.seq (.reg [⟨some 50,none,.load true 2 (.t 7)⟩,⟨none,none,(.store 2 (.t 4) (.t 50))⟩]) .ret)))))
theorem C9:codeOf Tryz.prog 126=some ⟨51,BT,[(.cell 4 true 2)]⟩:=by kernel_rfl
theorem Av:modes 126=⟨[],.own [none,some (71,2)],none,false⟩:=by unfold modes; rfl
def ET:SC:=(.seq (.reg [⟨some 2,none,.boxv 76 1 (.t 0)⟩,⟨some 3,none,.boxv 71 2 (.t 1)⟩,⟨(some 4),none,(.alloc 71 [(.str ⟨#[]⟩),.nil])⟩]) (.seq (.seq (.reg [⟨some 8,none,.faddr 0 (.t 3)⟩,⟨some 9,none,.load false 1 (.t 8)⟩,⟨some 10,none,.call 77 [(.t 9)]⟩]) (.cond (.t 10) (.seq (.seq (.reg [⟨some 11,none,.load true 1 (.t 2)⟩,⟨some 12,none,.faddr 0 (.t 3)⟩,⟨some 13,none,.load false 1 (.t 12)⟩,⟨some 14,none,.call 147 [(.t 11),(.t 13)]⟩,⟨some 5,none,.mv (.t 14)⟩]) (.seq (.reg [⟨some 15,none,.mv (.t 5)⟩,⟨some 16,none,.bin .geq false (.t 15) (.c (.int .i64 0))⟩]) (.cond (.t 16) (.seq (.reg [⟨some 17,none,.faddr 0 (.t 2)⟩,⟨some 18,none,.load false 1 (.t 17)⟩,⟨some 19,none,.mv (.t 5)⟩,⟨some 20,none,.iaddr 3 (.t 18) (.t 19)⟩,⟨some 21,none,.faddr 1 (.t 20)⟩,⟨some 22,none,.load true 2 (.t 21)⟩,⟨some 23,none,.call 148 [(.t 22)]⟩,⟨none,none,(.store 2 (.t 4) (.t 23))⟩]) .ret) .skip))) (.seq (.reg [⟨some 24,none,.faddr 0 (.t 3)⟩,⟨some 25,none,.load false 1 (.t 24)⟩,⟨(some 26),none,(.build [(.str ⟨#[]⟩),.nil] [(0,(1,(.t 25)))])⟩,⟨none,none,(.store 2 (.t 4) (.t 26))⟩]) .ret)) .skip)) (.seq (.reg [⟨some 27,none,.faddr 0 (.t 3)⟩,⟨some 28,none,.load false 1 (.t 27)⟩,⟨(some 29),none,(.build [(.str ⟨#[]⟩),.nil] [(0,(1,(.t 28)))])⟩,⟨(some 6),none,(.alloc 71 [(.str ⟨#[]⟩),.nil])⟩,⟨none,none,(.store 2 (.t 6) (.t 29))⟩]) (.seq (.seq (.reg [⟨some 7,none,.mv (.c (.int .i64 0))⟩]) (.block 0 (.loop [0,0,1,1,1,0,1,1,0,0,0,0,0,0,0,0,0,0,0,0,0,0,0,0,0,0,0,0,0,0,0,0,0,0,0,0,0,0,0,0,0,0,0,0,0,0,0,0,0,0] (.seq (.seq (.reg [⟨some 30,none,.mv (.t 7)⟩,⟨some 31,none,.faddr 1 (.t 3)⟩,⟨some 32,none,.load false 1 (.t 31)⟩,⟨some 33,none,.len false (.t 32)⟩,⟨some 34,none,.bin .lss false (.t 30) (.t 33)⟩]) (.cond (.t 34) .skip (.exit 0))) (.seq (.block 1 (.dreg [[],[0],[],[],[3],[],[4,3,5],[6,4,3,5],[2,7,6,4,3,5],[8,2,7,6,4,3,5],[1,0,9,8,2,7,6,4,3,5],[0,1,2,3,4,5,6,7,8,9,10],[11,0,1,2,3,4,5,6,7,8,9,10]] [⟨some 37,none,.faddr 1 (.t 6)⟩,⟨some 38,none,.load false 1 (.t 37)⟩,⟨some 39,none,.load true 1 (.t 2)⟩,⟨some 40,none,.faddr 1 (.t 3)⟩,⟨some 41,none,.load false 1 (.t 40)⟩,⟨some 42,none,.mv (.t 7)⟩,⟨some 43,none,.iaddr 2 (.t 41) (.t 42)⟩,⟨some 44,none,.load true 2 (.t 43)⟩,⟨some 45,none,.call 111 [(.t 39),(.t 44)]⟩,⟨(some 46),none,(.mkrow 71 2 [(.str ⟨#[]⟩),.nil] 1 [(0,(.t 45))])⟩,⟨(some 47),none,(.append 71 2 40 [(.str ⟨#[]⟩),.nil] (.t 38) (.t 46))⟩,⟨some 48,none,.faddr 1 (.t 6)⟩,⟨none,none,(.store 1 (.t 48) (.t 47))⟩])) (.reg [⟨some 35,none,.mv (.t 7)⟩,⟨some 36,none,.bin .add false (.t 35) (.c (.int .i64 1))⟩,⟨some 7,none,.mv (.t 36)⟩])))))) (.seq (.reg [⟨some 49,none,.load true 2 (.t 6)⟩,⟨none,none,(.store 2 (.t 4) (.t 49))⟩]) .ret)))))
theorem Hd:codeOf Tryz.prog 111=some ⟨50,ET,[(.cell 4 true 2)]⟩:=by kernel_rfl
theorem AG:modes 111=⟨[],.frz,none,false⟩:=by unfold modes; rfl
theorem Wi (s:Sb) (hs:s.fine) (ht:s.tame) (x:Tm) (hx:Aq x.name=true→x.args=[]) (hn:x.nodes≤1099511627776) (ih:∀ y∈x.args,E 126 [s.sv,y.sv] []=some ((y.ap s.look).osv,(y.ap s.look).obs)):E 126 [s.sv,x.sv] []=some ((x.ap s.look).osv,(x.ap s.look).obs):=by
  have hsl:=ht.1
  have hl:=Tm.length_le x.args
  have hne:=Tm.An x
  rcases Nat.eq_zero_or_pos x.args.length with h0 | h0
  · have hx0:x.args=[]:=List.eq_nil_of_length_eq_zero h0
    cases hh:D8 s.binds x.name with
    | true =>
      have hlt:=Hz hh
      have hc:=QX s hs.1 x.name hsl hh hlt
      have hd:=Jk (s.binds[Bl s.binds x.name]).term (Sb.tame_at ht hlt)
      have hv:Aq x.name=true:=by rw [←Ux hh hlt]; exact hs.2 _ (List.getElem_mem hlt)
      have e:x.ap s.look=(s.binds[Bl s.binds x.name]).term:=by rw [Tm.H0,if_pos hv,Sb.Ku hh hlt]; rfl
      rw [e]
      refine Ah C9 Av (of_decide_eq_true rfl) ?_
      simp (disch:=omega) only [BT,go_sem,Aa,hx0,hc,hd,List.map_nil,List.length_nil,A6,AX,Tm.osv,Tm.obs]
    | false =>
      have hc:=Tq s hs.1 x.name hsl hh
      have e:x.ap s.look=.mk x.name []:=by
        rw [Tm.H0,Sb.P4 hh,hx0]
        split
        · rfl
        · rw [Tm.apL]
      rw [e]
      have e1:(Tm.mk x.name []).osv=.agg [.str x.name,.ref 0]:=rfl
      have e2:(Tm.mk x.name []).obs=[.row 71 2 []]:=rfl
      rw [e1,e2]
      refine Ah C9 Av (of_decide_eq_true rfl) ?_
      simp (disch:=omega) only [BT,go_sem,Aa,hx0,hc,List.map_nil,List.length_nil,A6]
  · have hv:¬ Aq x.name=true:=fun h=>by rw [hx h] at h0; simp at h0
    have e:x.ap s.look=.mk x.name (x.args.map (Tm.ap s.look)):=by rw [Tm.H0,if_neg hv,Tm.MU]
    rw [e]
    have e1:(Tm.mk x.name (x.args.map (Tm.ap s.look))).osv=.agg [.str x.name,.ref 0]:=rfl
    have e2:(Tm.mk x.name (x.args.map (Tm.ap s.look))).obs=[.row 71 2 ((x.args.map (Tm.ap s.look)).map Tm.o)]:=rfl
    rw [e1,e2]
    have hrl:List.replicate x.args.length ([.str ⟨#[]⟩,.ow []]:List OT)=FH Tm.o [.str ⟨#[]⟩,.ow []] (x.args.map (Tm.ap s.look)) 0:=by rw [Je,List.length_map]
    refine Ah C9 Av (of_decide_eq_true rfl) ?_
    simp (disch:=omega) only [BT,go_sem,Aa]
    refine go_loop (α:=Int) (fun a=>⟨slots 51 0 [(2,.ptr 0 0),(4,.ptr 1 0),(7,.ptr 2 0),(35,.arr (x.args.map Tm.d)),(36,.int .i64 x.args.length),(37,.int .i64 a)],[.box 76 [.arr (s.binds.map Bd.d)],.box 71 [.str ⟨#[]⟩,.nil],.box 71 [.str x.name,.ref 3],.row 71 2 (FH Tm.o [.str ⟨#[]⟩,.ow []] (x.args.map (Tm.ap s.look)) a.toNat)]⟩) (fun a=>∃ k:Nat,a=k∧k≤(x.args).length) (fun a=>(x.args).length-(a).toNat) 0 ⟨0,rfl,Nat.zero_le _⟩ (by simp (disch:=omega) only [go_sem,Aa,hrl,Int.toNat_zero]) ?_
    rintro i ⟨k,hi,hk⟩
    have hni:i.toNat=k:=by omega
    have hni1:(i+1).toNat=k+1:=by omega
    rcases Nat.lt_or_ge k (x.args).length with hlt | hge
    · have hg:=get_at Tm.d hlt
      rw [Tm.d_eq] at hg
      have hltm:k<(x.args.map (Tm.ap s.look)).length:=by rw [List.length_map]; exact hlt
      have hz:=La Tm.o [.str ⟨#[]⟩,.ow []] hltm
      have hc:=ih x.args[k] (List.getElem_mem hlt)
      have hse:=Lb Tm.o [.str ⟨#[]⟩,.ow []] hltm
      rw [Tm.o_eq,List.getElem_map] at hse
      simp (disch:=omega) only [go_sem,Aa,hni,hg,hc,hz,KY,List.length_map,Av,Tm.osv,Tm.obs]
      refine ⟨i+1,⟨k+1,by omega,hlt⟩,by omega,?_⟩
      simp (disch:=omega) only [go_sem,Aa,hni1,hse]
    · obtain rfl:k=x.args.length:=by omega
      have hend:FH Tm.o [.str ⟨#[]⟩,.ow []] (x.args.map (Tm.ap s.look)) x.args.length=(x.args.map (Tm.ap s.look)).map Tm.o:=by
        have:=KZ Tm.o [.str ⟨#[]⟩,.ow []] (xs:=x.args.map (Tm.ap s.look))
        rwa [List.length_map] at this
      simp (disch:=omega) only [go_sem,Aa,hni,hend]
theorem Zx (s:Sb) (hs:s.fine) (ht:s.tame) (x:Tm) (hx:x.names=true) (hn:x.nodes≤1099511627776):E 126 [s.sv,x.sv] []=some ((x.ap s.look).osv,(x.ap s.look).obs) :=
 Wi s hs ht x (Tm.Fu hx) hn fun y hy=>Zx s hs ht y (Tm.ED hx hy) (by have:=Tm.AU hy; have:=Tm.An x; omega)
termination_by SizeOf.sizeOf x
decreasing_by exact Tm.Aw hy
theorem Zy (s:Sb) (hs:s.ok=true) (ht:s.tame) (x:Tm) (hx:x.names=true) (hn:x.nodes≤1099511627776):E 126 [s.sv,x.sv] []=some ((x.ap s.look).osv,(x.ap s.look).obs):=Zx s (Sb.Uy hs) ht x hx hn
theorem Yq (s:Sb) (hs:s.fine) (ht:s.tame) (x:Tm) (hn:x.nodes≤1099511627776) (ih:∀ y∈x.args,E 111 [s.sv,y.sv] []=some ((y.ap s.look).sv,[])):E 111 [s.sv,x.sv] []=some ((x.ap s.look).sv,[]):=by
  have hsl:=ht.1
  have hl:=Tm.length_le x.args
  have hne:=Tm.An x
  have hf:=Wc s x.name hsl
  rw [QW hs.1] at hf
  cases hv:Aq x.name with
  | true =>
    cases hh:D8 s.binds x.name with
    | true =>
      have hlt:=Hz hh
      have hg:=get_at Bd.d hlt
      rw [Bd.d_eq] at hg
      have hni:((Bl s.binds x.name:Nat):Int).toNat=Bl s.binds x.name:=Int.toNat_natCast _
      have hd:=P1 (s.binds[Bl s.binds x.name]).term (Sb.tame_at ht hlt)
      have e:x.ap s.look=(s.binds[Bl s.binds x.name]).term:=by rw [Tm.H0,if_pos hv,Sb.Ku hh hlt]; rfl
      rw [hh,if_pos rfl] at hf
      rw [e]
      refine Ah Hd AG (of_decide_eq_true rfl) ?_
      simp (disch:=omega) only [ET,go_sem,Aa,hv,hf,hg,hni,hd,BF,Af,Am,CF]
    | false =>
      have e:x.ap s.look=.mk x.name []:=by rw [Tm.H0,if_pos hv,Sb.P4 hh]; rfl
      rw [hh,if_neg (by simp)] at hf
      rw [e]
      have e1:(Tm.mk x.name []).sv=.agg [.str x.name,.arr []]:=rfl
      rw [e1]
      refine Ah Hd AG (of_decide_eq_true rfl) ?_
      simp (disch:=omega) only [ET,go_sem,Aa,hv,hf,BF,Af,Am]
  | false =>
    have e:x.ap s.look=.mk x.name (x.args.map (Tm.ap s.look)):=by rw [Tm.H0,if_neg (by rw [hv]; simp),Tm.MU]
    rw [e]
    have e1:(Tm.mk x.name (x.args.map (Tm.ap s.look))).sv=.agg [.str x.name,.arr ((x.args.map (Tm.ap s.look)).map Tm.d)]:=rfl
    rw [e1]
    have h10:((1:Int)=0)=False:=by simp
    have hfu:=Tm.MP (x.args.map (Tm.ap s.look))
    have her:=Tm.Us (x.args.map (Tm.ap s.look))
    refine Ah Hd AG (of_decide_eq_true rfl) ?_
    simp (disch:=omega) only [ET,go_sem,Aa,hv,BF,Af,Am]
    refine go_loop (α:=Int) (fun a=>⟨slots 50 0 [(2,.ptr 0 0),(3,.ptr 1 0),(4,.ptr 2 0),(6,.ptr 3 0),(7,.int .i64 a)],(if a=0 then [.box 76 [.arr (s.binds.map Bd.d)],.box 71 [.str x.name,.arr (x.args.map Tm.d)],.box 71 [.str ⟨#[]⟩,.nil],.box 71 [.str x.name,.nil]] else [.box 76 [.arr (s.binds.map Bd.d)],.box 71 [.str x.name,.arr (x.args.map Tm.d)],.box 71 [.str ⟨#[]⟩,.nil],.box 71 [.str x.name,.ref 4],.row 71 2 (((x.args.map (Tm.ap s.look)).take a.toNat).map Tm.osh)])⟩) (fun a=>∃ k:Nat,a=k∧k≤(x.args).length) (fun a=>(x.args).length-(a).toNat) 0 ⟨0,rfl,Nat.zero_le _⟩ (by simp (disch:=omega) only [go_sem,Aa,eq_self,if_true]) ?_
    rintro i ⟨k,hi,hk⟩
    have hni:i.toNat=k:=by omega
    have hni1:(i+1).toNat=k+1:=by omega
    rcases Nat.lt_or_ge k (x.args).length with hlt | hge
    · have hg:=get_at Tm.d hlt
      rw [Tm.d_eq] at hg
      have hltm:k<(x.args.map (Tm.ap s.look)).length:=by rw [List.length_map]; exact hlt
      have hc:=ih x.args[k] (List.getElem_mem hlt)
      have hse:=Dv Tm.osh hltm
      rw [Tm.QO,List.getElem_map] at hse
      rcases Nat.eq_zero_or_pos k with h0 | h0
      · subst h0
        obtain rfl:i=0:=hi
        rw [List.take_zero,List.map_nil,List.nil_append] at hse
        simp (disch:=omega) only [go_sem,Aa,hni,hg,hc,AG,eq_self,if_true]
        refine ⟨1,⟨1,rfl,hlt⟩,by omega,?_⟩
        simp (disch:=omega) only [go_sem,Aa,h10,if_false,hse]
      · have hi0:(i=0)=False:=by simp; omega
        have hi1:(i+1=0)=False:=by simp; omega
        have htl:((x.args.map (Tm.ap s.look)).take k).length=k:=by rw [List.length_take]; omega
        simp (disch:=omega) only [go_sem,Aa,hni,hg,hc,AG,hi0,if_false,htl]
        refine ⟨i+1,⟨k+1,by omega,hlt⟩,by omega,?_⟩
        simp (disch:=omega) only [go_sem,Aa,hni1,hi1,if_false,hse]
    · obtain rfl:k=x.args.length:=by omega
      have hta:(x.args.map (Tm.ap s.look)).take x.args.length=x.args.map (Tm.ap s.look):=by
        have:=List.take_length (l:=x.args.map (Tm.ap s.look))
        rwa [List.length_map] at this
      rcases Nat.eq_zero_or_pos x.args.length with h0 | h0
      · have hx:x.args=[]:=List.eq_nil_of_length_eq_zero h0
        obtain rfl:i=0:=by omega
        simp (disch:=omega) only [go_sem,Aa,hni,hx,eq_self,if_true,List.map_nil,List.length_nil]
      · have hi0:(i=0)=False:=by simp; omega
        simp (disch:=omega) only [go_sem,Aa,hni,hi0,if_false,hta,hfu,her]
theorem Tr (s:Sb) (hs:s.fine) (ht:s.tame) (x:Tm) (hn:x.nodes≤1099511627776):E 111 [s.sv,x.sv] []=some ((x.ap s.look).sv,[]) :=
 Yq s hs ht x hn fun y hy=>Tr s hs ht y (by have:=Tm.AU hy; have:=Tm.An x; omega)
termination_by SizeOf.sizeOf x
decreasing_by exact Tm.Aw hy
theorem Of (s:Sb) (hs:s.ok=true) (ht:s.tame) (x:Tm) (hn:x.nodes≤1099511627776):E 111 [s.sv,x.sv] []=some ((x.ap s.look).sv,[]):=Tr s (Sb.Uy hs) ht x hn
noncomputable def Tm.expr (x:Tm):Bool:=x.valid || x.atom
theorem Tm.QY {x:Tm} (h:x.expr=true):x.small=true:=by
 unfold Tm.expr Tm.atom Tm.valid at h
 cases hs:x.small with
 | true=>rfl
 | false =>
  rw [hs] at h
  split at h <;> simp at h
theorem Tm.Ar {x:Tm} (h:x.expr=true):x.nodes≤30:=by
 have:=Tm.QY h
 unfold Tm.small at this
 rw [Bool.and_eq_true,decide_eq_true_eq] at this
 exact this.1
theorem Tm.Zz {x:Tm} (h:x.eqn=true):Aq x.name=false:=by
 unfold Tm.eqn at h
 rw [Au.1 h]
 kernel_rfl
theorem Tm.Jl {x:Tm} (h:x.expr=true):x.names=true∨(x.eqn=true∧Tm.DH x.args=true):=by
 unfold Tm.expr Tm.valid at h
 cases hn:x.names with
 | true=>exact .inl rfl
 | false =>
  rw [hn,Bool.and_false,Bool.false_or] at h
  unfold Tm.atom at h
  split at h
  ·rename_i he
   rw [Bool.and_eq_true] at h
   exact .inr ⟨he,h.2⟩
  ·unfold Tm.valid at h; rw [hn,Bool.and_false,Bool.and_false] at h; cases h
theorem Tm.Wj {x:Tm} (h:x.expr=true):Aq x.name=true→x.args=[]:=by
 intro hv
 rcases Tm.Jl h with h1 | ⟨h1,h2⟩
 ·exact Tm.Fu h1 hv
 ·rw [Tm.Zz h1] at hv; cases hv
theorem Tm.I7 {x:Tm} (h:x.expr=true) {y:Tm} (hy:y∈x.args):y.names=true:=by
 rcases Tm.Jl h with h1 | ⟨h1,h2⟩
 ·exact Tm.ED h1 hy
 ·rw [Tm.CX,List.all_eq_true] at h2; exact h2 y hy
theorem Tm.QZ:∀ xs:List Tm,(∀ x∈xs,x.nodes≤1+x.bulk)→Tm.Bb xs≤xs.length+Tm.sumB xs
 | [],_=>by simp [Tm.Bb]
 | x :: xs,h=>by
  have h1:=h x (by simp)
  have h2:=Tm.QZ xs fun y hy=>h y (by simp [hy])
  rw [Tm.Bb,Tm.sumB]; simp only [List.length_cons]; omega
theorem Tm.Ra (x:Tm):x.nodes≤1+x.bulk:=by
 rw [Tm.An,Tm.bulk_eq]
 have:=Tm.QZ x.args fun y hy=>Tm.Ra y
 omega
termination_by SizeOf.sizeOf x
decreasing_by exact Tm.Aw hy
theorem Ts {s:ByteArray} (h:Aq s=true):s.size≤6:=by
 unfold Aq inB at h
 simp at h
 omega
theorem Tt {s:ByteArray} (h:EE s=true):s.size≤6:=by
 unfold EE inB at h
 simp at h
 omega
theorem Tm.Mg:∀ xs:List Tm,(∀ x∈xs,x.bulk+1≤8*x.nodes)→xs.length+Tm.sumB xs≤8*Tm.Bb xs
 | [],_=>by simp [Tm.Bb,Tm.sumB]
 | x :: xs,h=>by
  have h1:=h x (by simp)
  have h2:=Tm.Mg xs fun y hy=>h y (by simp [hy])
  rw [Tm.Bb,Tm.sumB]; simp only [List.length_cons]; omega
theorem Tm.Rb (x:Tm) (h:x.names=true):x.bulk+1≤8*x.nodes:=by
 have h1:=Tm.Mg x.args fun y hy=>Tm.Rb y (Tm.ED h hy)
 have h2:x.name.size≤6:=by
  rw [Tm.Em] at h
  split at h
  ·rename_i hv; exact Ts hv
  ·rw [Bool.and_eq_true,Bool.and_eq_true] at h; exact Tt h.1.1
 rw [Tm.An,Tm.bulk_eq]
 omega
termination_by SizeOf.sizeOf x
decreasing_by exact Tm.Aw hy
theorem Z0 (x:Tm) (hn:x.nodes≤1099511627776):E 110 [x.sv] []=some (.bool x.expr,[]):=by
 have h1:=QJ x hn
 have h3:=QK x hn
 unfold Tm.expr
 cases hv:x.valid with
 | true =>
  rw [hv] at h1
  rw [Bool.true_or]
  refine Ah MH EN (of_decide_eq_true rfl) ?_
  simp (disch:=omega) only [Jg,go_sem,Aa,h1,Be]
 | false =>
  rw [hv] at h1
  rw [Bool.false_or]
  refine Ah MH EN (of_decide_eq_true rfl) ?_
  simp (disch:=omega) only [Jg,go_sem,Aa,h1,h3,Be,AS]
def Cs:SC:=(.seq (.reg [⟨some 2,none,.boxv 76 1 (.t 0)⟩,⟨some 3,none,.boxv 71 2 (.t 1)⟩,⟨(some 4),none,(.alloc 71 [(.str ⟨#[]⟩),.nil])⟩,⟨some 5,none,.mv (.c (.bool false))⟩]) (.seq (.reg [⟨some 7,none,.load true 1 (.t 2)⟩,⟨some 8,none,.load true 2 (.t 3)⟩,⟨some 9,none,.call 126 [(.t 7),(.t 8)]⟩,⟨(some 6),none,(.alloc 71 [(.str ⟨#[]⟩),.nil])⟩,⟨none,none,(.store 2 (.t 6) (.t 9))⟩]) (.seq (.seq (.reg [⟨some 10,none,.load true 2 (.t 6)⟩,⟨some 11,none,.call 127 [(.t 10)]⟩,⟨some 12,none,.un .not (.t 11)⟩]) (.cond (.t 12) (.seq (.reg [⟨(some 13),none,(.build [(.str ⟨#[]⟩),.nil] [])⟩,⟨none,none,(.store 2 (.t 4) (.t 13))⟩,⟨some 5,none,.mv (.c (.bool false))⟩]) .ret) .skip)) (.seq (.reg [⟨some 14,none,.load true 2 (.t 6)⟩,⟨none,none,(.store 2 (.t 4) (.t 14))⟩,⟨some 5,none,.mv (.c (.bool true))⟩]) .ret))))
theorem DA:codeOf Tryz.prog 87=some ⟨15,Cs,[(.cell 4 true 2),(.tmp 5)]⟩:=by kernel_rfl
theorem Ab:modes 87=⟨[],.late,none,false⟩:=by unfold modes; rfl
def B0:SC:=(.seq (.reg [⟨some 2,none,.boxv 76 1 (.t 0)⟩,⟨some 3,none,.boxv 71 2 (.t 1)⟩,⟨(some 4),none,(.alloc 71 [(.str ⟨#[]⟩),.nil])⟩,⟨some 5,none,.mv (.c (.bool false))⟩]) (.seq (.seq (.reg [⟨some 7,none,.load true 1 (.t 2)⟩,⟨some 8,none,.call 109 [(.t 7)]⟩,⟨some 9,none,.un .not (.t 8)⟩,⟨some 10,none,.mv (.t 9)⟩,⟨(some 11),(some (10,false)),(.load true 2 (.t 3))⟩,⟨(some 12),(some (10,false)),(.call 110 [(.t 11)])⟩,⟨(some 13),(some (10,false)),(.un .not (.t 12))⟩,⟨some 14,none,.pick (.t 10) (.c (.bool true)) (.t 13)⟩]) (.cond (.t 14) (.seq (.reg [⟨(some 15),none,(.build [(.str ⟨#[]⟩),.nil] [])⟩,⟨none,none,(.store 2 (.t 4) (.t 15))⟩,⟨some 5,none,.mv (.c (.bool false))⟩]) .ret) .skip)) (.seq (.reg [⟨some 16,none,.load true 1 (.t 2)⟩,⟨some 17,none,.load true 2 (.t 3)⟩,⟨some 18,none,.call 111 [(.t 16),(.t 17)]⟩,⟨(some 6),none,(.alloc 71 [(.str ⟨#[]⟩),.nil])⟩,⟨none,none,(.store 2 (.t 6) (.t 18))⟩]) (.seq (.seq (.reg [⟨some 19,none,.load true 2 (.t 6)⟩,⟨some 20,none,.call 110 [(.t 19)]⟩,⟨some 21,none,.un .not (.t 20)⟩]) (.cond (.t 21) (.seq (.reg [⟨(some 22),none,(.build [(.str ⟨#[]⟩),.nil] [])⟩,⟨none,none,(.store 2 (.t 4) (.t 22))⟩,⟨some 5,none,.mv (.c (.bool false))⟩]) .ret) .skip)) (.seq (.reg [⟨some 23,none,.load true 2 (.t 6)⟩,⟨none,none,(.store 2 (.t 4) (.t 23))⟩,⟨some 5,none,.mv (.c (.bool true))⟩]) .ret)))))
theorem Cd:codeOf Tryz.prog 76=some ⟨24,B0,[(.cell 4 true 2),(.tmp 5)]⟩:=by kernel_rfl
theorem Ac:modes 76=⟨[],.frz,none,false⟩:=by unfold modes; rfl
noncomputable def BO (s:Sb) (x:Tm):Bool:=s.ok&&(x.expr&&(x.ap s.look).small)
noncomputable def AK (s:Sb) (x:Tm):Tm:=if BO s x then x.ap s.look else .mk ⟨#[]⟩ []
theorem Uz {s:Sb} {x:Tm} (h:BO s x=false):AK s x=.mk ⟨#[]⟩ []:=by unfold AK; rw [if_neg (by rw [h]; simp)]
theorem DQ {s:Sb} {x:Tm} (h:BO s x=true):AK s x=x.ap s.look:=by unfold AK; rw [if_pos h]
theorem U0:(Tm.mk ⟨#[]⟩ []).sv=.agg [.str ⟨#[]⟩,.arr []]:=rfl
theorem Tu (s:Sb) (hs:s.ok=true) (ht:s.tame) (x:Tm) (hx:x.expr=true):E 126 [s.sv,x.sv] []=some ((x.ap s.look).osv,(x.ap s.look).obs):=by
 have hn:=Tm.Ar hx
 exact Wi s (Sb.Uy hs) ht x (Tm.Wj hx) (by omega) fun y hy=>Zy s hs ht y (Tm.I7 hx hy) (by have:=Tm.AU hy; have:=Tm.An x; omega)
theorem BA (s:Sb) (hs:s.ok=true) (ht:s.tame) (x:Tm) (hx:x.expr=true) (ho:BO s x=true):E 87 [s.sv,x.sv] []=some (.tup [(AK s x).osv,.bool true],(AK s x).obs):=by
 have hn:=Tm.Ar hx
 have hk:=Tm.I6 (Sb.ES hs) x
 have h1:=Tu s hs ht x hx
 have h2:=Lh (x.ap s.look) (by omega)
 have hq:(x.ap s.look).small=true:=by unfold BO at ho; rw [Bool.and_eq_true,Bool.and_eq_true] at ho; exact ho.2.2
 rw [hq] at h2
 rw [DQ ho]
 refine Ah DA Ab (of_decide_eq_true rfl) ?_
 simp (disch:=omega) only [Cs,go_sem,Aa,h1,h2,Tm.osv,Tm.obs,Bi,Av]
theorem BZ (s:Sb) (hs:s.ok=true) (ht:s.tame) (x:Tm) (hx:x.expr=true) (ho:BO s x=false):E 87 [s.sv,x.sv] []=some (.tup [.agg [.str ⟨#[]⟩,.nil],.bool false],[]):=by
 have hn:=Tm.Ar hx
 have hk:=Tm.I6 (Sb.ES hs) x
 have h1:=Tu s hs ht x hx
 have h2:=Lh (x.ap s.look) (by omega)
 have hq:(x.ap s.look).small=false:=by unfold BO at ho; rw [hs,hx,Bool.true_and,Bool.true_and] at ho; exact ho
 rw [hq] at h2
 refine Ah DA Ab (of_decide_eq_true rfl) ?_
 simp (disch:=omega) only [Cs,go_sem,Aa,h1,h2,Tm.osv,Tm.obs,Bi,Av]
theorem AV (s:Sb) (ht:s.tame) (x:Tm) (hn:x.nodes≤1099511627776):E 76 [s.sv,x.sv] []=some (.tup [(AK s x).sv,.bool (BO s x)],[]):=by
  have h1:=MS s ht
  have h2:=Z0 x hn
  cases hs:s.ok with
  | false =>
    have ho:BO s x=false:=by unfold BO; rw [hs]; rfl
    rw [hs] at h1
    rw [Uz ho,ho,U0]
    refine Ah Cd Ac (of_decide_eq_true rfl) ?_
    simp (disch:=omega) only [B0,go_sem,Aa,h1,Cc]
  | true =>
    rw [hs] at h1
    cases hx:x.expr with
    | false =>
      have ho:BO s x=false:=by unfold BO; rw [hx,Bool.false_and,Bool.and_false]
      rw [hx] at h2
      rw [Uz ho,ho,U0]
      refine Ah Cd Ac (of_decide_eq_true rfl) ?_
      simp (disch:=omega) only [B0,go_sem,Aa,h1,h2,Cc,EN]
    | true =>
      rw [hx] at h2
      have hn:=Tm.Ar hx
      have hk:=Tm.I6 (Sb.ES hs) x
      have h3:=Of s hs ht x (by omega)
      have h4:=Z0 (x.ap s.look) (by omega)
      have h5:(x.ap s.look).expr=(x.ap s.look).small:=Tm.QbJ (Sb.ES hs) x hx
      rw [h5] at h4
      cases hq:(x.ap s.look).small with
      | true =>
        have ho:BO s x=true:=by unfold BO; rw [hs,hx,hq]; rfl
        rw [hq] at h4
        rw [DQ ho,ho]
        refine Ah Cd Ac (of_decide_eq_true rfl) ?_
        simp (disch:=omega) only [B0,go_sem,Aa,h1,h2,h3,h4,Cc,EN,AG]
      | false =>
        have ho:BO s x=false:=by unfold BO; rw [hq,Bool.and_false,Bool.and_false]
        rw [hq] at h4
        rw [Uz ho,ho,U0]
        refine Ah Cd Ac (of_decide_eq_true rfl) ?_
        simp (disch:=omega) only [B0,go_sem,Aa,h1,h2,h3,h4,Cc,EN,AG]
theorem Tm.Ca {x:Tm} (h:x.atom=true):x.expr=true:=by unfold Tm.expr; rw [h,Bool.or_true]
theorem Tm.C5 {x:Tm} (h:x.atom=true):x.nodes≤30:=Tm.Ar (Tm.Ca h)
def Ge:SC:=(.seq (.reg [⟨some 1,none,.boxv 28 1 (.t 0)⟩,⟨some 2,none,.alloc 28 [.nil]⟩,⟨some 3,none,.mv (.c (.bool false))⟩]) (.seq (.seq (.reg [⟨some 4,none,.load true 1 (.t 1)⟩,⟨some 5,none,.call 54 [(.t 4)]⟩,⟨some 6,none,.un .not (.t 5)⟩]) (.cond (.t 6) (.seq (.reg [⟨some 7,none,.build [.nil] []⟩,⟨none,none,(.store 1 (.t 2) (.t 7))⟩,⟨some 3,none,.mv (.c (.bool false))⟩]) .ret) .skip)) (.seq (.reg [⟨some 8,none,.load true 1 (.t 1)⟩,⟨none,none,(.store 1 (.t 2) (.t 8))⟩,⟨some 3,none,.mv (.c (.bool true))⟩]) .ret)))
theorem J3:codeOf Tryz.prog 137=some ⟨9,Ge,[(.cell 2 true 1),(.tmp 3)]⟩:=by kernel_rfl
theorem CB:modes 137=⟨[true],.own [some (73,3),none],none,false⟩:=by unfold modes; rfl
def CR:SC:=(.seq (.reg [⟨some 2,none,.boxv 76 1 (.t 0)⟩,⟨some 4,none,.alloc 28 [.nil]⟩,⟨some 5,none,.mv (.c (.bool false))⟩]) (.seq (.reg [⟨(some 11),none,(.mkrow 73 3 [(.bool false),(.str ⟨#[]⟩),.nil] 0 [])⟩,⟨some 6,none,.mv (.t 11)⟩]) (.seq (.seq (.reg [⟨some 12,none,.mv (.t 1)⟩,⟨some 13,none,.len false (.t 12)⟩,⟨some 14,none,.mv (.c (.int .i64 0))⟩]) (.block 0 (.loop [0,0,1,0,1,0,1,0,0,0,0,0,1,1,1,0,0,0,0,0,0,0,0,0,0,0,0,0,0,0,0,0,0,0,0,0,0,0,0,0,0] (.seq (.reg [⟨some 15,none,.bin .lss false (.t 14) (.t 13)⟩]) (.seq (.cond (.t 15) .skip (.exit 0)) (.seq (.block 1 (.seq (.reg [⟨some 16,none,.iaddr 3 (.t 12) (.t 14)⟩,⟨some 17,none,.load true 3 (.t 16)⟩,⟨(some 8),none,(.alloc 73 [(.bool false),(.str ⟨#[]⟩),.nil])⟩,⟨none,none,(.store 3 (.t 8) (.t 17))⟩]) (.seq (.reg [⟨some 19,none,.load true 1 (.t 2)⟩,⟨some 20,none,.faddr 1 (.t 8)⟩,⟨some 21,none,.load true 2 (.t 20)⟩,⟨some 22,none,.call 87 [(.t 19),(.t 21)]⟩,⟨some 18,none,.mv (.t 22)⟩,⟨some 23,none,.ext (.t 18) 0⟩,⟨some 24,none,.ext (.t 18) 1⟩,⟨(some 9),none,(.alloc 71 [(.str ⟨#[]⟩),.nil])⟩,⟨none,none,(.store 2 (.t 9) (.t 23))⟩,⟨some 10,none,.mv (.t 24)⟩]) (.seq (.seq (.reg [⟨some 25,none,.mv (.t 10)⟩,⟨some 26,none,.un .not (.t 25)⟩]) (.cond (.t 26) (.seq (.reg [⟨some 27,none,.build [.nil] []⟩,⟨none,none,(.store 1 (.t 4) (.t 27))⟩,⟨some 5,none,.mv (.c (.bool false))⟩]) .ret) .skip)) (.reg [⟨some 28,none,.mv (.t 6)⟩,⟨some 29,none,.faddr 0 (.t 8)⟩,⟨some 30,none,.load false 1 (.t 29)⟩,⟨some 31,none,.load true 2 (.t 9)⟩,⟨(some 32),none,(.build [(.bool false),(.str ⟨#[]⟩),.nil] [(0,(1,(.t 30))),(1,(2,(.t 31)))])⟩,⟨(some 33),none,(.mkrow 73 3 [(.bool false),(.str ⟨#[]⟩),.nil] 1 [(0,(.t 32))])⟩,⟨(some 34),none,(.append 73 3 48 [(.bool false),(.str ⟨#[]⟩),.nil] (.t 28) (.t 33))⟩,⟨some 6,none,.mv (.t 34)⟩]))))) (.reg [⟨some 35,none,.bin .add false (.t 14) (.c (.int .i64 1))⟩,⟨some 14,none,.mv (.t 35)⟩]))))))) (.seq (.reg [⟨some 36,none,.mv (.t 6)⟩,⟨some 37,none,.call 138 [(.t 36)]⟩,⟨some 38,none,.call 137 [(.t 37)]⟩,⟨some 39,none,.ext (.t 38) 0⟩,⟨some 40,none,.ext (.t 38) 1⟩,⟨none,none,(.store 1 (.t 4) (.t 39))⟩,⟨some 5,none,.mv (.t 40)⟩]) .ret))))
theorem Fc:codeOf Tryz.prog 92=some ⟨41,CR,[(.cell 4 true 1),(.tmp 5)]⟩:=by kernel_rfl
theorem Bt:modes 92=⟨[],.own [some (73,3),none],none,false⟩:=by unfold modes; rfl
def Kv:SC:=(.seq (.reg [⟨some 2,none,.boxv 76 1 (.t 0)⟩,⟨some 4,none,.alloc 28 [.nil]⟩,⟨some 5,none,.mv (.c (.bool false))⟩]) (.seq (.reg [⟨(some 10),none,(.mkrow 73 3 [(.bool false),(.str ⟨#[]⟩),.nil] 0 [])⟩,⟨some 6,none,.mv (.t 10)⟩]) (.seq (.seq (.reg [⟨some 7,none,.mv (.c (.int .i64 0))⟩]) (.block 0 (.loop [0,1,1,0,1,0,1,1,0,0,0,0,0,0,0,0,0,0,0,0,0,0,0,0,0,0,0,0,0,0,0,0,0,0,0,0,0,0,0,0,0,0,0,0,0] (.seq (.seq (.reg [⟨some 11,none,.mv (.t 7)⟩,⟨some 12,none,.mv (.t 1)⟩,⟨some 13,none,.len false (.t 12)⟩,⟨some 14,none,.bin .lss false (.t 11) (.t 13)⟩]) (.cond (.t 14) .skip (.exit 0))) (.seq (.block 1 (.seq (.dreg [[],[],[],[1,2],[3,1,2],[4,3,1,2],[0,5,4,3,1,2],[],[7,6,0,5,4,3,1,2]] [⟨some 17,none,.load true 1 (.t 2)⟩,⟨some 18,none,.mv (.t 1)⟩,⟨some 19,none,.mv (.t 7)⟩,⟨some 20,none,.iaddr 3 (.t 18) (.t 19)⟩,⟨some 21,none,.faddr 1 (.t 20)⟩,⟨some 22,none,.load true 2 (.t 21)⟩,⟨some 23,none,.call 111 [(.t 17),(.t 22)]⟩,⟨(some 8),none,(.alloc 71 [(.str ⟨#[]⟩),.nil])⟩,⟨none,none,(.store 2 (.t 8) (.t 23))⟩]) (.seq (.seq (.reg [⟨some 24,none,.load true 2 (.t 8)⟩,⟨some 25,none,.call 72 [(.t 24)]⟩,⟨some 26,none,.un .not (.t 25)⟩]) (.cond (.t 26) (.seq (.reg [⟨some 27,none,.build [.nil] []⟩,⟨none,none,(.store 1 (.t 4) (.t 27))⟩,⟨some 5,none,.mv (.c (.bool false))⟩]) .ret) .skip)) (.dreg [[],[],[],[1,2],[3,1,2],[4,3,1,2],[],[5,4,3,1,2,6],[7,5,4,3,1,2,6],[0,8,7,5,4,3,1,2,6],[9,0,8,7,5,4,3,1,2,6]] [⟨some 28,none,.mv (.t 6)⟩,⟨some 29,none,.mv (.t 1)⟩,⟨some 30,none,.mv (.t 7)⟩,⟨some 31,none,.iaddr 3 (.t 29) (.t 30)⟩,⟨some 32,none,.faddr 0 (.t 31)⟩,⟨some 33,none,.load false 1 (.t 32)⟩,⟨some 34,none,.load true 2 (.t 8)⟩,⟨(some 35),none,(.build [(.bool false),(.str ⟨#[]⟩),.nil] [(0,(1,(.t 33))),(1,(2,(.t 34)))])⟩,⟨(some 36),none,(.mkrow 73 3 [(.bool false),(.str ⟨#[]⟩),.nil] 1 [(0,(.t 35))])⟩,⟨(some 37),none,(.append 73 3 48 [(.bool false),(.str ⟨#[]⟩),.nil] (.t 28) (.t 36))⟩,⟨some 6,none,.mv (.t 37)⟩])))) (.reg [⟨some 15,none,.mv (.t 7)⟩,⟨some 16,none,.bin .add false (.t 15) (.c (.int .i64 1))⟩,⟨some 7,none,.mv (.t 16)⟩])))))) (.seq (.reg [⟨some 38,none,.mv (.t 6)⟩,⟨some 39,none,.call 117 [(.t 38)]⟩,⟨some 9,none,.alloc 28 [.nil]⟩,⟨none,none,(.store 1 (.t 9) (.t 39))⟩]) (.seq (.seq (.reg [⟨some 40,none,.load true 1 (.t 9)⟩,⟨some 41,none,.call 47 [(.t 40)]⟩,⟨some 42,none,.un .not (.t 41)⟩]) (.cond (.t 42) (.seq (.reg [⟨some 43,none,.build [.nil] []⟩,⟨none,none,(.store 1 (.t 4) (.t 43))⟩,⟨some 5,none,.mv (.c (.bool false))⟩]) .ret) .skip)) (.seq (.reg [⟨some 44,none,.load true 1 (.t 9)⟩,⟨none,none,(.store 1 (.t 4) (.t 44))⟩,⟨some 5,none,.mv (.c (.bool true))⟩]) .ret))))))
theorem Rc:codeOf Tryz.prog 79=some ⟨45,Kv,[(.cell 4 true 1),(.tmp 5)]⟩:=by kernel_rfl
theorem EU:modes 79=⟨[],.frz,none,false⟩:=by unfold modes; rfl
theorem U1 (c:Cl) (hn:c.tame) (hv:c.ok=true):E 137 [c.osv] c.obs=some (.tup [c.osv,.bool true],c.obs):=by
 have h:=Gd c hn
 rw [hv] at h
 refine Ah J3 CB (of_decide_eq_true rfl) ?_
 simp (disch:=omega) only [Ge,go_sem,Aa,h,Ci,Lt.erss,Lt.noss,Lt.fus]
theorem Wk (c:Cl) (hn:c.tame) (hv:c.ok=false):E 137 [c.osv] c.obs=some (.tup [.agg [.ref 1],.bool false],[.row 73 3 (c.lits.map Lt.o),.row 73 3 []]):=by
 have h:=Gd c hn
 rw [hv] at h
 refine Ah J3 CB (of_decide_eq_true rfl) ?_
 simp (disch:=omega) only [Ge,go_sem,Aa,h,Ci,Lt.erss,Lt.noss,Lt.fus]
theorem Tv {s:ByteArray} (h:EE s=true):Aq s=false:=by
 unfold EE inB at h
 rw [Bool.and_eq_true,Bool.and_eq_true,Bool.and_eq_true,decide_eq_true_eq,decide_eq_true_eq] at h
 have hs:0<s.size:=by omega
 have h1:=GT h.1.1 hs
 unfold Ka at h1
 simp at h1
 have h2:=h1.1
 have hu:Qp (Jv s 0)=false:=by
  unfold TR at h2
  unfold Qp
  simp at h2 ⊢
  omega
 rw [Bool.eq_false_iff]
 intro hv
 unfold Aq at hv
 rw [Bool.and_eq_true] at hv
 have h1:=GT hv.1 hs
 unfold Jw at h1
 rw [hu] at h1
 simp at h1
theorem Tm.Z1 {f:ByteArray→Option Tm} (hf:okF f) (x:Tm) (hx:x.atom=true):(x.ap f).atom=(x.ap f).small:=by
  unfold Tm.atom at hx
  rcases he:x.eqn with _ | _
  · rw [he,if_neg (by simp),Bool.and_eq_true] at hx
    have hnv:¬ (Aq x.name=true):=by rw [Tv hx.1]; simp
    have e:x.ap f=.mk x.name (Tm.apL f x.args):=by rw [Tm.H0,if_neg hnv]
    have he2:¬ (x.ap f).eqn=true:=by rw [e]; show ¬ x.eqn=true; rw [he]; simp
    have hn:x.names=true:=by
      have:=hx.2
      unfold Tm.valid at this
      rw [Bool.and_eq_true] at this
      exact this.2
    have h3:=Tm.Kt hf x hn
    unfold Tm.atom
    rw [if_neg he2]
    unfold Tm.valid
    rw [h3,Bool.and_true]
    have hname:(x.ap f).name=x.name:=by rw [e]; rfl
    rw [hname,hx.1,Bool.true_and]
  · rw [he,if_pos rfl,Bool.and_eq_true,Bool.and_eq_true] at hx
    have hnv:¬ (Aq x.name=true):=by rw [Tm.Zz he]; simp
    have e:x.ap f=.mk x.name (Tm.apL f x.args):=by rw [Tm.H0,if_neg hnv]
    have he2:(x.ap f).eqn=true:=by rw [e]; exact he
    unfold Tm.atom
    rw [if_pos he2]
    have h1:((x.ap f).args.length == 2)=true:=by
      rw [e]
      show ((Tm.apL f x.args).length == 2)=true
      rw [Tm.P3]; exact hx.1.1
    have h2:Tm.DH (x.ap f).args=true:=by
      rw [e]
      exact Tm.MW f x.args fun y hy=>Tm.Kt hf y (by
        have:=hx.2
        rw [Tm.CX,List.all_eq_true] at this
        exact this y hy)
    rw [h1,h2,Bool.true_and,Bool.and_true]
noncomputable def Lt.ap (s:Sb) (x:Lt):Lt:=⟨x.pos,x.atom.ap s.look⟩
noncomputable def Rd (s:Sb) (l:List Lt):Bool:=l.all fun x=>(x.atom.ap s.look).small
noncomputable def Eg (s:Sb) (l:List Lt):Bool:=Rd s l&&(mkC (l.map (Lt.ap s))).ok
noncomputable def apC (s:Sb) (l:List Lt):Cl:=if Eg s l then mkC (l.map (Lt.ap s)) else ⟨[]⟩
theorem Og {s:Sb} {l:List Lt} (h:Eg s l=false):apC s l=⟨[]⟩:=by unfold apC; rw [if_neg (by rw [h]; simp)]
theorem U2 {s:Sb} {l:List Lt} (h:Eg s l=true):apC s l=mkC (l.map (Lt.ap s)):=by unfold apC; rw [if_pos h]
theorem Lt.Z2 {s:Sb} (hs:s.ok=true) {x:Lt} (hx:x.atom.atom=true) (hq:(x.atom.ap s.look).small=true):(x.ap s).fine:=by
 have ha:(x.atom.ap s.look).atom=true:=by rw [Tm.Z1 (Sb.ES hs) _ hx]; exact hq
 exact ⟨Tm.GU ha,by
              have:(Lt.ap s x).atom.nodes≤30:=Tm.C5 ha
              omega⟩
theorem Wl {l:List Lt} (hl:l.length≤1048576) (hf:∀ x∈l,x.fine):(mkC l).tame:=by
 have:=Zt l
 exact ⟨by omega,fun y hy=>(hf y ((P2 l y).1 hy)).2⟩
theorem Tw:(Cl.mk []).osv=.agg [.ref 0]:=rfl
theorem Tx:(Cl.mk []).obs=[.row 73 3 []]:=rfl
theorem Wm:(Cl.mk []).sv=.agg [.arr []]:=rfl
theorem Sh (s:Sb) (hs:s.ok=true) (ht:s.tame) (l:List Lt) (hl:l.length≤1048576) (hal:∀ x∈l,x.atom.atom=true):E 92 [s.sv,.arr (l.map Lt.d)] []=some (.tup [(apC s l).osv,.bool (Eg s l)],(apC s l).obs):=by
  have her:OT.erss (l.map (fun x:Lt=>(Lt.ap s x).d.map D.ot))=(l.map (Lt.ap s)).map Lt.d:=by
    have:=Lt.der (l.map (Lt.ap s))
    rw [List.map_map] at this
    exact this
  have hfu:OT.AN (l.map (fun x:Lt=>(Lt.ap s x).d.map D.ot))=true:=by
    have:=Lt.dfu (l.map (Lt.ap s))
    rw [List.map_map] at this
    exact this
  refine Ah Fc Bt (of_decide_eq_true rfl) ?_
  simp (disch:=omega) only [CR,go_sem,Aa]
  refine go_loop (α:=Int) (fun a=>⟨slots 41 0 [(2,.ptr 0 0),(4,.ptr 1 0),(6,.ref 2),(12,.arr (l.map Lt.d)),(13,.int .i64 l.length),(14,.int .i64 a)],[.box 76 [.arr (s.binds.map Bd.d)],.box 28 [.nil],.row 73 3 ((l.take a.toNat).map (fun x:Lt=>(Lt.ap s x).d.map D.ot))]⟩) (fun a=>∃ k:Nat,a=k∧k≤(l).length∧∀ x∈l.take k,(x.atom.ap s.look).small=true) (fun a=>(l).length-(a).toNat) 0 ⟨0,rfl,Nat.zero_le _,fun x hx=>by simp at hx⟩ (by simp (disch:=omega) only [go_sem,Aa,Int.toNat_zero]) ?_
  rintro i ⟨k,hi,hk,hR⟩
  have hni:i.toNat=k:=by omega
  have hni1:(i+1).toNat=k+1:=by omega
  rcases Nat.lt_or_ge k (l).length with hlt | hge
  · have hg:=get_at Lt.d hlt
    rw [Lt.d_eq] at hg
    have hat:=hal l[k] (List.getElem_mem hlt)
    have hex:=Tm.Ca hat
    have hsn:=Dv (fun x:Lt=>(Lt.ap s x).d.map D.ot) hlt
    have hs1:[[OT.bool l[k].pos,.str (l[k].atom.ap s.look).name,.sh ((l[k].atom.ap s.look).args.map Tm.d)]]=[(fun x:Lt=>(Lt.ap s x).d.map D.ot) l[k]]:=by simp only [Lt.d_eq]; rfl
    have htl:(l.take k).length=k:=by rw [List.length_take]; omega
    cases hq:(l[k].atom.ap s.look).small with
    | true =>
      have ha:=BA s hs ht l[k].atom hex (by unfold BO; rw [hs,hex,hq]; rfl)
      rw [DQ (by unfold BO; rw [hs,hex,hq]; rfl)] at ha
      simp (disch:=omega) only [go_sem,Aa,hni,hg,ha,htl,Ab,CA,CB]
      refine ⟨i+1,⟨k+1,by omega,hlt,fun x hx=>?_⟩,by omega,?_⟩
      · rcases List.mem_append.1 (by rw [List.take_succ_eq_append_getElem hlt] at hx; exact hx) with hx | hx
        · exact hR x hx
        · rw [List.mem_singleton.1 hx]; exact hq
      · simp (disch:=omega) only [go_sem,Aa,hni1,hs1,hsn,and_self]
    | false =>
      have ha:=BZ s hs ht l[k].atom hex (by unfold BO; rw [hq,Bool.and_false,Bool.and_false])
      have hno:Eg s l=false:=by
        unfold Eg Rd
        rw [show (l.all fun x=>(x.atom.ap s.look).small)=false from ?_,Bool.false_and]
        rw [List.all_eq_false]
        exact ⟨l[k],List.getElem_mem hlt,by rw [hq]; simp⟩
      rw [Og hno,hno,Tw,Tx]
      simp (disch:=omega) only [go_sem,Aa,hni,hg,ha,Ab,CA,CB]
  · obtain rfl:k=l.length:=by omega
    have htk:l.take l.length=l:=List.take_length
    rw [htk] at hR
    have hal2:Rd s l=true:=by unfold Rd; rw [List.all_eq_true]; exact hR
    have hfine:∀ x∈l.map (Lt.ap s),x.fine:=fun x hx=>by
      obtain ⟨y,hy,rfl⟩:=List.mem_map.1 hx
      exact Lt.Z2 hs (hal y hy) (hR y hy)
    have hlen:(l.map (Lt.ap s)).length≤1048576:=by rw [List.length_map]; exact hl
    have hc:=QP (l.map (Lt.ap s)) hlen hfine
    have htm:=Wl hlen hfine
    cases hv:(mkC (l.map (Lt.ap s))).ok with
    | true =>
      have hok:Eg s l=true:=by unfold Eg; rw [hal2,hv]; rfl
      have hi2:=U1 _ htm hv
      rw [U2 hok,hok]
      simp (disch:=omega) only [go_sem,Aa,hni,htk,hc,hi2,her,hfu,Lt.noss,Ab,CA,CB]
    | false =>
      have hok:Eg s l=false:=by unfold Eg; rw [hv,Bool.and_false]
      have hi2:=Wk _ htm hv
      rw [Og hok,hok,Tw,Tx]
      simp (disch:=omega) only [go_sem,Aa,hni,htk,hc,hi2,her,hfu,Lt.noss,Ab,CA,CB]
theorem Tm.I8 {x:Tm} (h:x.atom=true):(Aq x.name=true→x.args=[])∧∀ y∈x.args,y.names=true:=by
 unfold Tm.atom at h
 cases he:x.eqn with
 | true =>
  rw [he,if_pos rfl,Bool.and_eq_true,Bool.and_eq_true] at h
  have h2:=h.2
  rw [Tm.CX,List.all_eq_true] at h2
  refine ⟨fun hv=>?_,h2⟩
  have hn:=Au.1 he
  have hnv0:Aq ⟨#[61]⟩=false:=by kernel_rfl
  rw [hn,hnv0] at hv
  cases hv
 | false =>
  rw [he,if_neg (by simp),Bool.and_eq_true] at h
  have hnm:x.names=true:=by have h3:=h.2; unfold Tm.valid at h3; rw [Bool.and_eq_true] at h3; exact h3.2
  exact ⟨fun hv=>Tm.Fu hnm hv,fun y hy=>Tm.ED hnm hy⟩
mutual
noncomputable def Tm.vs:Tm→List ByteArray
 | .mk name args=>bif Aq name then [name] else Tm.vsL args
noncomputable def Tm.vsL:List Tm→List ByteArray
 | []=>[]
 | x :: xs=>Tm.vs x++Tm.vsL xs
end
theorem Tm.Gl (x:Tm):x.vs=bif Aq x.name then [x.name] else Tm.vsL x.args:=by
 obtain ⟨n,a⟩:=x
 rw [Tm.vs]; rfl
theorem Tm.vsL_mem {v:ByteArray}:∀ {xs:List Tm},v∈Tm.vsL xs ↔ ∃ x∈xs,v∈x.vs
 | []=>by simp [Tm.vsL]
 | x :: xs=>by rw [Tm.vsL,List.mem_append,Tm.vsL_mem (xs:=xs)]; simp
theorem Tm.Z3:∀ xs:List Tm,(∀ x∈xs,x.vs.length≤x.nodes)→(Tm.vsL xs).length≤Tm.Bb xs
 | [],_=>by simp [Tm.vsL]
 | x :: xs,h=>by
  have h1:=h x (by simp)
  have h2:=Tm.Z3 xs fun y hy=>h y (by simp [hy])
  rw [Tm.vsL,Tm.Bb,List.length_append]; omega
theorem Tm.vs_len (x:Tm):x.vs.length≤x.nodes:=by
 have h:=Tm.Z3 x.args fun y hy=>Tm.vs_len y
 rw [Tm.Gl,Tm.An]
 cases Aq x.name with
 | true=>simp
 | false=>simp only [cond_false]; omega
termination_by SizeOf.sizeOf x
decreasing_by exact Tm.Aw hy
noncomputable def Ln (l:List ByteArray) (n:ByteArray):List ByteArray:=bif dec (n∈l) then l else l++[n]
theorem QbK (l:List ByteArray) (n:ByteArray):(Ln l n).length≤l.length+1:=by
 unfold Ln
 cases dec (n∈l) <;> simp
theorem QbL {l:List ByteArray} {n m:ByteArray}:m∈Ln l n ↔ m∈l∨m=n:=by
 unfold Ln
 by_cases h:n∈l
 ·rw [Ay h,cond_true]
  exact ⟨.inl,fun h'=>h'.elim id fun e=>e▸h⟩
 ·rw [A8 h,cond_false]
  simp
theorem Yr {l:List ByteArray} {n:ByteArray} (h:l.Nodup):(Ln l n).Nodup:=by
 unfold Ln
 by_cases k:n∈l
 ·rw [Ay k]; exact h
 ·rw [A8 k,cond_false,List.nodup_append]
  exact ⟨h,by simp,fun a ha b hb e=>by simp at hb; subst hb; subst e; exact k ha⟩
noncomputable def Ct (l ns:List ByteArray):List ByteArray:=ns.foldl Ln l
theorem I9:∀ (ns l:List ByteArray),(Ct l ns).length≤l.length+ns.length
 | [],l=>by simp [Ct]
 | n :: ns,l=>by
  have h:=I9 ns (Ln l n)
  have h2:=QbK l n
  simp only [Ct,List.foldl_cons,List.length_cons] at h ⊢
  omega
theorem Wn:∀ {ns l:List ByteArray} {m:ByteArray},m∈Ct l ns ↔ m∈l∨m∈ns
 | [],l,m=>by simp [Ct]
 | n :: ns,l,m=>by
  have h:=Wn (ns:=ns) (l:=Ln l n) (m:=m)
  simp only [Ct,List.foldl_cons] at h ⊢
  rw [h,QbL]
  simp only [List.mem_cons]
  exact or_assoc
theorem Re:∀ {ns l:List ByteArray},l.Nodup→(Ct l ns).Nodup
 | [],l,h=>h
 | n :: ns,l,h=>Re (ns:=ns) (Yr h)
theorem MX (l a b:List ByteArray):Ct l (a++b)=Ct (Ct l a) b:=List.foldl_append
def Dw:SC:=(.seq (.reg [⟨some 4,none,.mv (.c (.int .i64 0))⟩]) (.seq (.seq (.reg [⟨some 6,none,.mv (.t 0)⟩,⟨some 7,none,.len false (.t 6)⟩,⟨some 8,none,.mv (.c (.int .i64 0))⟩]) (.block 0 (.loop [1,1,0,0,0,0,0,1,1,0,0,0,0,0,0,0,0,0,0] (.seq (.reg [⟨some 9,none,.bin .lss false (.t 8) (.t 7)⟩]) (.seq (.cond (.t 9) .skip (.exit 0)) (.seq (.block 1 (.seq (.reg [⟨some 10,none,.mv (.t 8)⟩,⟨some 5,none,.mv (.t 10)⟩]) (.seq (.reg [⟨some 11,none,.mv (.t 1)⟩,⟨some 12,none,.mv (.t 0)⟩,⟨some 13,none,.mv (.t 5)⟩,⟨some 14,none,.iaddr 1 (.t 12) (.t 13)⟩,⟨some 15,none,.load false 1 (.t 14)⟩,⟨some 16,none,.bin .eql false (.t 11) (.t 15)⟩]) (.cond (.t 16) (.seq (.reg [⟨some 17,none,.mv (.t 5)⟩,⟨some 4,none,.mv (.t 17)⟩]) .ret) .skip)))) (.reg [⟨some 18,none,.bin .add false (.t 8) (.c (.int .i64 1))⟩,⟨some 8,none,.mv (.t 18)⟩]))))))) (.seq (.reg [⟨some 4,none,.mv (.c (.int .i64 (-(0+1))))⟩]) .ret)))
theorem Gf:codeOf Tryz.prog 179=some ⟨19,Dw,[(.tmp 4)]⟩:=by kernel_rfl
theorem Dx:modes 179=⟨[],.asis,none,false⟩:=by unfold modes; rfl
def CS:SC:=(.seq (.reg [⟨some 4,none,.mv (.c (.bool false))⟩]) (.seq (.reg [⟨some 5,none,.mv (.t 0)⟩,⟨some 6,none,.mv (.t 1)⟩,⟨some 7,none,.call 179 [(.t 5),(.t 6)]⟩,⟨some 8,none,.bin .geq false (.t 7) (.c (.int .i64 0))⟩,⟨some 4,none,.mv (.t 8)⟩]) .ret))
theorem Fd:codeOf Tryz.prog 157=some ⟨9,CS,[(.tmp 4)]⟩:=by kernel_rfl
theorem BS:modes 157=⟨[],.asis,none,false⟩:=by unfold modes; rfl
theorem QbM (xs:List ByteArray) (n:ByteArray) (hl:xs.length≤1099511627776):E 179 [.arr (xs.map fun s=>[D.str s]),.str n] []=some (.int .i64 (Fb (fun s=>dec (n=s)) xs 0),[]):=by
 refine Ah Gf Dx (of_decide_eq_true rfl) ?_
 simp (disch:=omega) only [Dw,go_sem,Aa]
 refine go_loop (α:=Int) (fun a=>⟨slots 19 0 [(0,.arr (xs.map fun s=>[D.str s])),(1,.str n),(7,.int .i64 xs.length),(8,.int .i64 a)],[]⟩) (fun a=>∃ k:Nat,a=k∧k≤(xs).length∧Fb (fun s=>dec (n=s)) (xs.drop k) a=Fb (fun s=>dec (n=s)) xs 0) (fun a=>(xs).length-(a).toNat) 0 ⟨0,rfl,Nat.zero_le _,by rw [List.drop_zero]⟩ (by simp (disch:=omega) only [go_sem,Aa]) ?_
 rintro i ⟨k,hi,hk,hR⟩
 have hni:i.toNat=k:=by omega
 have hni1:(i+1).toNat=k+1:=by omega
 rcases Nat.lt_or_ge k (xs).length with hlt | hge
 ·have hg:=get_at (fun s=>[D.str s]) hlt
  rw [List.drop_eq_getElem_cons hlt,Fb] at hR
  cases hp:dec (n=xs[k]) with
  | true =>
   rw [hp] at hR
   simp (disch:=omega) only [go_sem,Aa,hni,hg,hp]
   simpa using hR
  | false =>
   rw [hp] at hR
   simp (disch:=omega) only [go_sem,Aa,hni,hg,hp]
   exact ⟨i+1,⟨k+1,by omega,hlt,by simpa using hR⟩,by omega,by first | trivial | rfl⟩
 ·rw [List.drop_eq_nil_of_le hge,Fb] at hR
  simp (disch:=omega) only [go_sem,Aa,hni]
  exact hR
theorem Wo (xs:List ByteArray) (n:ByteArray) (hl:xs.length≤1099511627776):E 157 [.arr (xs.map fun s=>[D.str s]),.str n] []=some (.bool (dec (n∈xs)),[]):=by
 have h:=QbM xs n hl
 have e:dec (n∈xs)=dec (0≤Fb (fun s=>dec (n=s)) xs 0):=by
  rw [QG]
  by_cases hm:n∈xs
  ·rw [Ay hm]
   exact (List.any_eq_true.2 ⟨n,hm,Ay rfl⟩).symm
  ·rw [A8 hm]
   refine Eq.symm (Bool.eq_false_iff.2 fun h=>?_)
   obtain ⟨x,h1,h2⟩:=List.any_eq_true.1 h
   have e:=Au.1 h2
   subst e
   exact hm h1
 rw [e]
 refine Ah Fd BS (of_decide_eq_true rfl) ?_
 simp (disch:=omega) only [CS,go_sem,Aa,h,Dx]
theorem Oh:∀ (ns l:List ByteArray),l.length≤(Ct l ns).length
 | [],l=>by simp [Ct]
 | n :: ns,l=>by
  have h:=Oh ns (Ln l n)
  have h2:l.length≤(Ln l n).length:=by unfold Ln; cases dec (n∈l) <;> simp
  simp only [Ct,List.foldl_cons] at h ⊢
  omega
def DR:SC:=(.seq (.reg [⟨some 3,none,.boxv 71 2 (.t 1)⟩,⟨some 4,none,.mv (.c .nil)⟩]) (.seq (.seq (.reg [⟨some 7,none,.faddr 1 (.t 3)⟩,⟨some 8,none,.load false 1 (.t 7)⟩,⟨some 9,none,.len false (.t 8)⟩,⟨some 10,none,.bin .eql false (.t 9) (.c (.int .i64 0))⟩,⟨some 11,none,.mv (.t 10)⟩,⟨(some 12),(some (11,true)),(.load true 2 (.t 3))⟩,⟨(some 13),(some (11,true)),(.call 89 [(.t 12)])⟩,⟨some 14,none,.pick (.t 11) (.t 13) (.c (.bool false))⟩]) (.cond (.t 14) (.seq (.seq (.reg [⟨some 15,none,.mv (.t 0)⟩,⟨some 16,none,.faddr 0 (.t 3)⟩,⟨some 17,none,.load false 1 (.t 16)⟩,⟨some 18,none,.call 157 [(.t 15),(.t 17)]⟩,⟨some 19,none,.un .not (.t 18)⟩]) (.cond (.t 19) (.reg [⟨some 20,none,.mv (.t 0)⟩,⟨some 21,none,.faddr 0 (.t 3)⟩,⟨some 22,none,.load false 1 (.t 21)⟩,⟨(some 23),none,(.mkrow 9 1 [(.str ⟨#[]⟩)] 1 [(0,(.t 22))])⟩,⟨(some 24),none,(.append 9 1 16 [(.str ⟨#[]⟩)] (.t 20) (.t 23))⟩,⟨some 0,none,.mv (.t 24)⟩]) .skip)) (.seq (.reg [⟨some 25,none,.mv (.t 0)⟩,⟨some 4,none,.mv (.t 25)⟩]) .ret)) .skip)) (.seq (.seq (.reg [⟨some 26,none,.faddr 1 (.t 3)⟩,⟨some 27,none,.load false 1 (.t 26)⟩,⟨some 28,none,.len false (.t 27)⟩,⟨some 29,none,.mv (.c (.int .i64 0))⟩]) (.block 0 (.loop [1,0,0,0,0,0,0,0,0,0,0,0,0,0,0,0,0,0,0,0,0,0,0,0,0,0,0,1,1,1,0,0,0,0,0,0,0,0] (.seq (.reg [⟨some 30,none,.bin .lss false (.t 29) (.t 28)⟩]) (.seq (.cond (.t 30) .skip (.exit 0)) (.seq (.block 1 (.seq (.reg [⟨some 31,none,.iaddr 2 (.t 27) (.t 29)⟩,⟨some 32,none,.load true 2 (.t 31)⟩,⟨(some 6),none,(.alloc 71 [(.str ⟨#[]⟩),.nil])⟩,⟨none,none,(.store 2 (.t 6) (.t 32))⟩]) (.reg [⟨some 33,none,.mv (.t 0)⟩,⟨some 34,none,.load true 2 (.t 6)⟩,⟨some 35,none,.call 124 [(.t 33),(.t 34)]⟩,⟨some 0,none,.mv (.t 35)⟩]))) (.reg [⟨some 36,none,.bin .add false (.t 29) (.c (.int .i64 1))⟩,⟨some 29,none,.mv (.t 36)⟩]))))))) (.seq (.reg [⟨some 37,none,.mv (.t 0)⟩,⟨some 4,none,.mv (.t 37)⟩]) .ret))))
theorem EV:codeOf Tryz.prog 124=some ⟨38,DR,[(.tmp 4)]⟩:=by kernel_rfl
theorem CY:modes 124=⟨[true],.asis,none,false⟩:=by unfold modes; rfl
abbrev Qde (x:Tm):Prop:=∀ l:List ByteArray,l.length+x.nodes≤1048576→E 124 [.ref 0,x.sv] [.row 9 1 (l.map fun s=>[OT.str s])]=some ((bif dec (l.length<(Ct l x.vs).length) then .ref 1 else .ref 0),(bif dec (l.length<(Ct l x.vs).length) then [.gone,.row 9 1 ((Ct l x.vs).map fun s=>[OT.str s])] else [.row 9 1 ((Ct l x.vs).map fun s=>[OT.str s])]))
theorem Rf (x:Tm) (hva:Aq x.name=true→x.args=[]) (hc:x.cok=true) (ih:∀ y∈x.args,Qde y):Qde x:=by
  intro l hn
  have hl:=Tm.length_le x.args
  have hne:=Tm.An x
  have hv:=CU x hc
  have hvs:=Tm.Gl x
  rcases Nat.eq_zero_or_pos x.args.length with h0 | h0
  · have hx0:x.args=[]:=List.eq_nil_of_length_eq_zero h0
    have hz:((x.args.length:Int)=0)=True:=by rw [hx0]; simp
    cases hvv:Aq x.name with
    | true =>
      rw [hvv] at hv hvs
      have h1:=Wo l x.name (by omega)
      rw [hvs]
      cases hm:dec (x.name∈l) with
      | true =>
        have e:Ct l [x.name]=l:=by simp only [Ct,List.foldl_cons,List.foldl_nil,Ln,hm,cond_true]
        rw [hm] at h1
        simp only [cond_true,e]
        refine Ah EV CY (of_decide_eq_true rfl) ?_
        simp (disch:=omega) only [DR,go_sem,Aa,hz,hv,h1,Ak,BS]
      | false =>
        have e:Ct l [x.name]=l++[x.name]:=by simp only [Ct,List.foldl_cons,List.foldl_nil,Ln,hm,cond_false]
        have hg:l.length<(l++[x.name]).length:=by simp
        rw [hm] at h1
        simp only [cond_true,e,Ay hg]
        refine Ah EV CY (of_decide_eq_true rfl) ?_
        simp (disch:=omega) only [DR,go_sem,Aa,hz,hv,h1,Ak,BS]
        simp only [List.map_append,List.map_cons,List.map_nil]
    | false =>
      rw [hvv] at hv hvs
      have e:Ct l x.vs=l:=by rw [hvs,hx0]; simp only [cond_false,Tm.vsL]; rfl
      rw [e]
      refine Ah EV CY (of_decide_eq_true rfl) ?_
      simp (disch:=omega) only [DR,go_sem,Aa,hz,hv,Ak]
      refine go_loop (α:=Int) (fun a=>⟨slots 38 0 [(0,.ref 0),(27,.arr (x.args.map Tm.d)),(28,.int .i64 x.args.length),(29,.int .i64 a)],[.row 9 1 (l.map fun s=>[OT.str s])]⟩) (fun a=>∃ k:Nat,a=k∧k≤(x.args).length) (fun a=>(x.args).length-(a).toNat) 0 ⟨0,rfl,Nat.zero_le _⟩ (by simp (disch:=omega) only [go_sem,Aa]) ?_
      rintro i ⟨k,hi,hk⟩
      have hni:i.toNat=k:=by omega
      have hni1:(i+1).toNat=k+1:=by omega
      rcases Nat.lt_or_ge k (x.args).length with hlt | hge
      · omega
      · simp (disch:=omega) only [go_sem,Aa,hni]
  · have hz:((x.args.length:Int)=0)=False:=eq_false (by omega)
    have hvv:Aq x.name=false:=by
      cases h:Aq x.name with
      | false=>rfl
      | true=>rw [hva h] at h0; simp at h0
    rw [hvv] at hvs
    simp only [cond_false] at hvs
    rw [hvs]
    refine Ah EV CY (of_decide_eq_true rfl) ?_
    simp (disch:=omega) only [DR,go_sem,Aa,hz]
    refine go_loop (α:=Int × (List ByteArray)) (fun a=>⟨slots 38 0 [(0,(bif dec (l.length<(a.2).length) then .ref 1 else .ref 0)),(27,.arr (x.args.map Tm.d)),(28,.int .i64 x.args.length),(29,.int .i64 (a.1))],(bif dec (l.length<(a.2).length) then [.gone,.row 9 1 ((a.2).map fun s=>[OT.str s])] else [.row 9 1 ((a.2).map fun s=>[OT.str s])])⟩) (fun a=>∃ k:Nat,a.1=k∧k≤(x.args).length∧Ct (a.2) (Tm.vsL (x.args.drop k))=Ct l (Tm.vsL x.args)∧(a.2).length+Tm.Bb (x.args.drop k)≤1048576∧l.length≤(a.2).length) (fun a=>(x.args).length-(a.1).toNat) (0,l) ⟨0,rfl,Nat.zero_le _,by rw [List.drop_zero],by rw [List.drop_zero]; dsimp only; omega,Nat.le_refl _⟩ (by simp (disch:=omega) only [go_sem,Aa]) ?_
    rintro ⟨i,acc⟩ ⟨k,hi,hk,hR⟩
    dsimp only at hi hR
    have hni:i.toNat=k:=by omega
    have hni1:(i+1).toNat=k+1:=by omega
    rcases Nat.lt_or_ge k (x.args).length with hlt | hge
    · have hg:=get_at Tm.d hlt
      rw [Tm.d_eq] at hg
      obtain ⟨hR1,hR2,hR3⟩:=hR
      rw [List.drop_eq_getElem_cons hlt,Tm.vsL,MX] at hR1
      rw [List.drop_eq_getElem_cons hlt,Tm.Bb] at hR2
      have hc:=ih x.args[k] (List.getElem_mem hlt) acc (by omega)
      have hlen:=I9 x.args[k].vs acc
      have hgr:=Oh x.args[k].vs acc
      have hvl:=Tm.vs_len x.args[k]
      obtain ⟨acc2,ha2⟩:∃ a,a=Ct acc x.args[k].vs:=⟨_,rfl⟩
      rw [←ha2] at hc hlen hgr hR1
      rcases Nat.lt_or_ge l.length acc.length with q1 | q1 <;> rcases Nat.lt_or_ge acc.length acc2.length with q2 | q2
      all_goals
        first
          | rw [Ay q2] at hc
          | rw [A8 (Nat.not_lt.2 q2)] at hc
        simp only [cond_true,cond_false] at hc
        simp (disch:=omega) only [go_sem,Aa,hni,hg,hc,CY]
        refine ⟨(i+1,acc2),⟨k+1,by dsimp only; omega,hlt,hR1,by dsimp only; omega,by dsimp only; omega⟩,by dsimp only; omega,?_⟩
        first | done | simp (disch:=omega) only [go_sem,Aa]
    · rw [List.drop_eq_nil_of_le hge,Tm.vsL] at hR
      obtain ⟨hR1,hR2,hR3⟩:=hR
      have hR1:acc=Ct l (Tm.vsL x.args):=hR1
      rw [←hR1]
      rcases Nat.lt_or_ge l.length acc.length with q1 | q1
      · simp (disch:=omega) only [go_sem,Aa,hni]
      · simp (disch:=omega) only [go_sem,Aa,hni]
theorem Ty (x:Tm) (hx:x.names=true) (hc:x.cok=true):Qde x :=
 Rf x (fun h=>Tm.Fu hx h) hc fun y hy=>Ty y (Tm.ED hx hy) (by rw [Tm.Kd,Bool.and_eq_true] at hc; exact Tm.GM hc.2 hy)
termination_by SizeOf.sizeOf x
decreasing_by exact Tm.Aw hy
theorem Ys (x:Tm) (h:x.atom=true):Qde x :=
 Rf x (Tm.I8 h).1 (Tm.GU h) fun y hy=>Ty y ((Tm.I8 h).2 y hy) (Tm.Iz y ((Tm.I8 h).2 y hy))
noncomputable def Lt.vsL:List Lt→List ByteArray
 | []=>[]
 | x :: xs=>x.atom.vs++Lt.vsL xs
theorem Cl.ok_len {x:Cl} (h:x.ok=true):x.lits.length≤8:=by
 unfold Cl.ok at h
 rw [Bool.and_eq_true,decide_eq_true_eq] at h
 exact h.1
theorem Cl.Jm {x:Cl} (h:x.ok=true) {k:Nat} (hk:k<x.lits.length):x.lits[k].atom.atom=true:=by
 unfold Cl.ok at h
 rw [Bool.and_eq_true,decide_eq_true_eq] at h
 exact Od h.2 hk hk
theorem Cl.CZ {x:Cl} (h:x.ok=true):∀ y∈x.lits,y.atom.atom=true:=fun y hy=>by
 obtain ⟨k,hk,rfl⟩:=List.getElem_of_mem hy
 exact Cl.Jm h hk
theorem Cl.vs_len {c:Cl} (hc:c.ok=true):(Lt.vsL c.lits).length≤240:=by
 have hl:=Cl.ok_len hc
 have key:∀ xs:List Lt,(∀ x∈xs,x.atom.nodes≤30)→(Lt.vsL xs).length≤30*xs.length:=by
  intro xs
  induction xs with
  | nil=>intro _; exact Nat.le_refl _
  | cons x xs ih =>
   intro h
   have h1:=h x (by simp)
   have h2:=ih fun y hy=>h y (by simp [hy])
   have h3:=Tm.vs_len x.atom
   rw [Lt.vsL,List.length_append,List.length_cons]; omega
 have:=key c.lits fun x hx=>by
  obtain ⟨k,hk,rfl⟩:=List.getElem_of_mem hx
  exact Tm.C5 (Cl.Jm hc hk)
 omega
def Kw:SC:=(.seq (.reg [⟨some 1,none,.boxv 28 1 (.t 0)⟩,⟨some 2,none,.mv (.c .nil)⟩]) (.seq (.reg [⟨(some 6),none,(.mkrow 9 1 [(.str ⟨#[]⟩)] 0 [])⟩,⟨some 3,none,.mv (.t 6)⟩]) (.seq (.seq (.reg [⟨some 7,none,.faddr 0 (.t 1)⟩,⟨some 8,none,.load false 1 (.t 7)⟩,⟨some 9,none,.len false (.t 8)⟩,⟨some 10,none,.mv (.c (.int .i64 0))⟩]) (.block 0 (.loop [0,0,0,1,0,0,0,0,1,1,1,0,0,0,0,0,0,0,0,0] (.seq (.reg [⟨some 11,none,.bin .lss false (.t 10) (.t 9)⟩]) (.seq (.cond (.t 11) .skip (.exit 0)) (.seq (.block 1 (.seq (.reg [⟨some 12,none,.iaddr 3 (.t 8) (.t 10)⟩,⟨some 13,none,.load true 3 (.t 12)⟩,⟨(some 5),none,(.alloc 73 [(.bool false),(.str ⟨#[]⟩),.nil])⟩,⟨none,none,(.store 3 (.t 5) (.t 13))⟩]) (.reg [⟨some 14,none,.mv (.t 3)⟩,⟨some 15,none,.faddr 1 (.t 5)⟩,⟨some 16,none,.load true 2 (.t 15)⟩,⟨some 17,none,.call 124 [(.t 14),(.t 16)]⟩,⟨some 3,none,.mv (.t 17)⟩]))) (.reg [⟨some 18,none,.bin .add false (.t 10) (.c (.int .i64 1))⟩,⟨some 10,none,.mv (.t 18)⟩]))))))) (.seq (.reg [⟨some 19,none,.mv (.t 3)⟩,⟨some 2,none,.mv (.t 19)⟩]) .ret))))
theorem Rg:codeOf Tryz.prog 84=some ⟨20,Kw,[(.tmp 2)]⟩:=by kernel_rfl
theorem DS:modes 84=⟨[],.asis,none,false⟩:=by unfold modes; rfl
theorem Tz (c:Cl) (hc:c.ok=true):E 84 [c.sv] []=some (.ref 0,[.row 9 1 ((Ct [] (Lt.vsL c.lits)).map fun s=>[OT.str s])]):=by
  have hl:=Cl.ok_len hc
  refine Ah Rg DS (of_decide_eq_true rfl) ?_
  simp (disch:=omega) only [Kw,go_sem,Aa]
  refine go_loop (α:=Int × (List ByteArray)) (fun a=>⟨slots 20 0 [(3,.ref 0),(8,.arr (c.lits.map Lt.d)),(9,.int .i64 c.lits.length),(10,.int .i64 (a.1))],[.row 9 1 ((a.2).map fun s=>[OT.str s])]⟩) (fun a=>∃ k:Nat,a.1=k∧k≤(c.lits).length∧Ct (a.2) (Lt.vsL (c.lits.drop k))=Ct [] (Lt.vsL c.lits)∧(a.2).length≤30*k) (fun a=>(c.lits).length-(a.1).toNat) (0,[]) ⟨0,rfl,Nat.zero_le _,by rw [List.drop_zero],Nat.le_refl _⟩ (by simp (disch:=omega) only [go_sem,Aa]) ?_
  rintro ⟨i,acc⟩ ⟨k,hi,hk,hR⟩
  dsimp only at hi hR
  have hni:i.toNat=k:=by omega
  have hni1:(i+1).toNat=k+1:=by omega
  rcases Nat.lt_or_ge k (c.lits).length with hlt | hge
  · have hg:=get_at Lt.d hlt
    rw [Lt.d_eq] at hg
    obtain ⟨hR1,hR2⟩:=hR
    rw [List.drop_eq_getElem_cons hlt,Lt.vsL,MX] at hR1
    have hnn:=Tm.C5 (Cl.Jm hc hlt)
    have hcl:=Ys c.lits[k].atom (Cl.Jm hc hlt) acc (by omega)
    have has:c.lits[k].atom.sv=.agg [.str c.lits[k].atom.name,.arr (c.lits[k].atom.args.map Tm.d)]:=rfl
    have hlen:=I9 c.lits[k].atom.vs acc
    have hvl:=Tm.vs_len c.lits[k].atom
    obtain ⟨acc2,ha2⟩:∃ a,a=Ct acc c.lits[k].atom.vs:=⟨_,rfl⟩
    rw [←ha2] at hcl hlen hR1
    rcases Nat.lt_or_ge acc.length acc2.length with q2 | q2
    all_goals
      first
        | rw [Ay q2] at hcl
        | rw [A8 (Nat.not_lt.2 q2)] at hcl
      simp only [cond_true,cond_false] at hcl
      simp (disch:=omega) only [go_sem,Aa,hni,hg,has,hcl,CY]
      refine ⟨(i+1,acc2),⟨k+1,by dsimp only; omega,hlt,hR1,by dsimp only; omega⟩,by dsimp only; omega,?_⟩
      first | trivial | rfl | exact ⟨rfl,rfl⟩
  · rw [List.drop_eq_nil_of_le hge,Lt.vsL] at hR
    obtain ⟨hR1,hR2⟩:=hR
    have hR1:acc=_:=hR1
    rw [←hR1]
    simp (disch:=omega) only [go_sem,Aa,hni]
theorem Qax (s:Sb) (hs:s.ok=true) (ht:s.tame) (l:List Lt) (hl:l.length≤1048576) (hal:∀ x∈l,x.atom.atom=true):E 79 [s.sv,.arr (l.map Lt.d)] []=some (.tup [(apC s l).sv,.bool (Eg s l)],[]):=by
  have her:OT.erss (l.map (fun x:Lt=>(Lt.ap s x).d.map D.ot))=(l.map (Lt.ap s)).map Lt.d:=by
    have:=Lt.der (l.map (Lt.ap s))
    rw [List.map_map] at this
    exact this
  have hfu:OT.AN (l.map (fun x:Lt=>(Lt.ap s x).d.map D.ot))=true:=by
    have:=Lt.dfu (l.map (Lt.ap s))
    rw [List.map_map] at this
    exact this
  refine Ah Rc EU (of_decide_eq_true rfl) ?_
  simp (disch:=omega) only [Kv,go_sem,Aa]
  refine go_loop (α:=Int) (fun a=>⟨slots 45 0 [(1,.arr (l.map Lt.d)),(2,.ptr 0 0),(4,.ptr 1 0),(6,.ref 2),(7,.int .i64 a)],[.box 76 [.arr (s.binds.map Bd.d)],.box 28 [.nil],.row 73 3 ((l.take a.toNat).map (fun x:Lt=>(Lt.ap s x).d.map D.ot))]⟩) (fun a=>∃ k:Nat,a=k∧k≤(l).length∧∀ x∈l.take k,(x.atom.ap s.look).small=true) (fun a=>(l).length-(a).toNat) 0 ⟨0,rfl,Nat.zero_le _,fun x hx=>by simp at hx⟩ (by simp (disch:=omega) only [go_sem,Aa,Int.toNat_zero]) ?_
  rintro i ⟨k,hi,hk,hR⟩
  have hni:i.toNat=k:=by omega
  have hni1:(i+1).toNat=k+1:=by omega
  rcases Nat.lt_or_ge k (l).length with hlt | hge
  · have hg:=get_at Lt.d hlt
    rw [Lt.d_eq] at hg
    have hat:=hal l[k] (List.getElem_mem hlt)
    have hsn:=Dv (fun x:Lt=>(Lt.ap s x).d.map D.ot) hlt
    have hs1:[[OT.bool l[k].pos,.str (l[k].atom.ap s.look).name,.sh ((l[k].atom.ap s.look).args.map Tm.d)]]=[(fun x:Lt=>(Lt.ap s x).d.map D.ot) l[k]]:=by simp only [Lt.d_eq]; rfl
    have htl:(l.take k).length=k:=by rw [List.length_take]; omega
    have hnd:=Tm.C5 hat
    have ha:=Of s hs ht l[k].atom (by omega)
    have hap:=Tm.I6 (Sb.ES hs) l[k].atom
    have hb:=QK (l[k].atom.ap s.look) (by omega)
    rw [Tm.Z1 (Sb.ES hs) _ hat] at hb
    cases hq:(l[k].atom.ap s.look).small with
    | true =>
      rw [hq] at hb
      simp (disch:=omega) only [go_sem,Aa,hni,hg,ha,hb,htl,AG,AS,CM,Bz]
      refine ⟨i+1,⟨k+1,by omega,hlt,fun x hx=>?_⟩,by omega,?_⟩
      · rcases List.mem_append.1 (by rw [List.take_succ_eq_append_getElem hlt] at hx; exact hx) with hx | hx
        · exact hR x hx
        · rw [List.mem_singleton.1 hx]; exact hq
      · simp (disch:=omega) only [go_sem,Aa,hni1,hs1,hsn,and_self]
    | false =>
      rw [hq] at hb
      have hno:Eg s l=false:=by
        unfold Eg Rd
        rw [show (l.all fun x=>(x.atom.ap s.look).small)=false from ?_,Bool.false_and]
        rw [List.all_eq_false]
        exact ⟨l[k],List.getElem_mem hlt,by rw [hq]; simp⟩
      rw [Og hno,hno,Wm]
      simp (disch:=omega) only [go_sem,Aa,hni,hg,ha,hb,AG,AS,CM,Bz]
  · obtain rfl:k=l.length:=by omega
    have htk:l.take l.length=l:=List.take_length
    rw [htk] at hR
    have hal2:Rd s l=true:=by unfold Rd; rw [List.all_eq_true]; exact hR
    have hfine:∀ x∈l.map (Lt.ap s),x.fine:=fun x hx=>by
      obtain ⟨y,hy,rfl⟩:=List.mem_map.1 hx
      exact Lt.Z2 hs (hal y hy) (hR y hy)
    have hlen:(l.map (Lt.ap s)).length≤1048576:=by rw [List.length_map]; exact hl
    have hc:=QS (l.map (Lt.ap s)) hlen hfine
    have hgd:=QN (mkC (l.map (Lt.ap s))) (Wl hlen hfine)
    cases hv:(mkC (l.map (Lt.ap s))).ok with
    | true =>
      have hok:Eg s l=true:=by unfold Eg; rw [hal2,hv]; rfl
      rw [hv] at hgd
      rw [U2 hok,hok]
      simp (disch:=omega) only [go_sem,Aa,hni,htk,hc,hgd,her,hfu,AG,AS,CM,Bz]
    | false =>
      have hok:Eg s l=false:=by unfold Eg; rw [hv,Bool.and_false]
      rw [hv] at hgd
      rw [Og hok,hok,Wm]
      simp (disch:=omega) only [go_sem,Aa,hni,htk,hc,hgd,her,hfu,AG,AS,CM,Bz]
abbrev SEnv:=ByteArray→Option ByteArray
def FN (e:SEnv):MF
  | .str s=>match e s with
    | some n=>some (false,[.str n])
    | none=>none
  | .int _=>none
theorem Li (e:SEnv) (s:ByteArray):FN e (.str s)=match e s with | some n=>some (false,[.str n]) | none=>none:=rfl
noncomputable def Qay (e:SEnv) (s n:ByteArray):SEnv:=fun q=>bif dec (q=s) then some n else e q
theorem Qaz (e:SEnv) (s n:ByteArray):OZ (FN e) (.str s) (false,[.str n])=FN (Qay e s n):=by
 funext k
 cases k with
 | int i=>rw [IQ (fun h=>by cases h)]; rfl
 | str q =>
  rw [PX,Li,Li]
  unfold Qay
  cases dec (q=s) <;> rfl
theorem Yt:FN (fun _=>none)=nomap:=by
 funext k
 cases k <;> rfl
mutual
noncomputable def Tm.rn (e:SEnv):Tm→Tm
 | .mk n args=>.mk (bif args.isEmpty then (e n).getD n else n) (Tm.rnL e args)
noncomputable def Tm.rnL (e:SEnv):List Tm→List Tm
 | []=>[]
 | x :: xs=>Tm.rn e x :: Tm.rnL e xs
end
theorem Tm.Z4 (e:SEnv):∀ xs:List Tm,Tm.rnL e xs=xs.map (Tm.rn e)
 | []=>by rw [Tm.rnL]; rfl
 | x :: xs=>by rw [Tm.rnL,Tm.Z4 e xs]; rfl
theorem Tm.Rh (e:SEnv) (x:Tm):x.rn e=.mk (bif x.args.isEmpty then (e x.name).getD x.name else x.name) (x.args.map (Tm.rn e)):=by
 obtain ⟨n,args⟩:=x
 rw [Tm.rn,Tm.Z4]; rfl
theorem Tm.Wp (e:SEnv) (x:Tm):(x.rn e).nodes=x.nodes:=by
 have key:∀ xs:List Tm,(∀ y∈xs,(y.rn e).nodes=y.nodes)→Tm.Bb (xs.map (Tm.rn e))=Tm.Bb xs:=by
  intro xs
  induction xs with
  | nil=>intro _; rfl
  | cons y ys ih =>
   intro h
   rw [List.map_cons,Tm.Bb,Tm.Bb,h y (by simp),ih fun z hz=>h z (by simp [hz])]
 rw [Tm.Rh,Tm.An,Tm.An]
 show 1+Tm.Bb (x.args.map (Tm.rn e))=_
 rw [key x.args fun y hy=>Tm.Wp e y]
termination_by SizeOf.sizeOf x
decreasing_by exact Tm.Aw hy
theorem Yu {n:Int} (h0:0≤n) (h:n<10):Gv n=⟨#[UInt8.ofNat (48+n.toNat)]⟩:=by
 obtain ⟨u,rfl⟩:∃ u:Nat,n=u:=⟨n.toNat,by omega⟩
 unfold Gv
 rw [Lib.itoa_nonneg,Lib.decDigits,dif_pos (by omega)]
 rfl
theorem QbN {n:Int} (h:10≤n):Gv n=Gv (n.tdiv 10)++⟨#[UInt8.ofNat (48+(n.tmod 10).toNat)]⟩:=by
 obtain ⟨u,rfl⟩:∃ u:Nat,n=u:=⟨n.toNat,by omega⟩
 have e1:(u:Int).tdiv 10=((u / 10:Nat):Int):=by rw [Int.tdiv_eq_ediv_of_nonneg (by omega)]; rfl
 have e2:((u:Int).tmod 10).toNat=u % 10:=by rw [Int.tmod_eq_emod_of_nonneg (by omega)]; omega
 rw [e1,e2]
 unfold Gv
 rw [Lib.itoa_nonneg,Lib.itoa_nonneg,Lib.decDigits,dif_neg (by omega)]
 have key:∀ (x:List UInt8) (y:UInt8),(⟨(x++[y]).toArray⟩:ByteArray)=⟨x.toArray⟩++⟨#[y]⟩:=fun x y=>by
  have e:∀ a b:ByteArray,a.data=b.data→a=b:=fun a b h=>by cases a; cases b; cases h; rfl
  apply e
  simp
 exact key _ _
def pre (p:ByteArray) (n:Int):ByteArray:=p++Gv n
theorem EW:modes 85=⟨[],.asis,some (Lm Tf),false⟩:=by unfold modes; rfl
theorem QbO (n:Int) (h0:0≤n) (h1:n≤1099511627776):E 85 [.int .i64 n] []=some (.str (Gv n),[]) :=
 Th (g:=Tf) (congrArg FM.ext EW) (by simp only [Tf,Ay (⟨h0,h1⟩:0≤n∧n≤1099511627776),cond_true])
noncomputable def Cl.ns (c:Cl):List ByteArray:=Ct [] (Lt.vsL c.lits)
def Si:ByteArray:=⟨#[88]⟩
theorem Cl.Ri {c:Cl} (h:c.ok=true):c.ns.length≤240:=by
 have h1:=I9 (Lt.vsL c.lits) []
 have h2:=Cl.vs_len h
 unfold Cl.ns
 simp only [List.length_nil] at h1
 omega
theorem Cl.ns_nodup (c:Cl):c.ns.Nodup:=Re List.nodup_nil
theorem Lt.vsL_mem {v:ByteArray}:∀ {xs:List Lt},v∈Lt.vsL xs ↔ ∃ x∈xs,v∈x.atom.vs
 | []=>by simp [Lt.vsL]
 | x :: xs=>by rw [Lt.vsL,List.mem_append,Lt.vsL_mem (xs:=xs)]; simp
theorem Cl.QdL {c:Cl} {v:ByteArray}:v∈c.ns ↔ ∃ x∈c.lits,v∈x.atom.vs:=by
 unfold Cl.ns
 rw [Wn,Lt.vsL_mem]
 simp
noncomputable def He (p:ByteArray) (l:List ByteArray):SEnv:=l.zipIdx.foldl (fun e x=>Qay e x.1 (pre p (x.2:Nat))) fun _=>none
theorem Oi (p:ByteArray) {l:List ByteArray} {k:Nat} (h:k<l.length):He p (l.take (k+1))=Qay (He p (l.take k)) l[k] (pre p (k:Nat)):=by
 unfold He
 rw [←List.take_append_getElem h,List.zipIdx_append,List.foldl_append]
 have e:(l.take k).length=k:=by rw [List.length_take]; omega
 simp only [List.zipIdx_cons,List.zipIdx_nil,List.foldl_cons,List.foldl_nil,e,Nat.zero_add]
theorem Z5 (p:ByteArray) {l:List ByteArray} (hn:l.Nodup):∀ (n k:Nat) (hk:k<l.length),n≤l.length→k<n→He p (l.take n) l[k]=some (pre p (k:Nat))
  | 0,k,hk,_,h=>absurd h (by omega)
  | n + 1,k,hk,hl,h=>by
    rw [Oi p (by omega:n<l.length)]
    unfold Qay
    by_cases e:k=n
    · subst e
      rw [Ay rfl,cond_true]
    · have hne:l[k]≠l[n]:=fun he=>e ((List.getElem_inj hn).1 he)
      rw [A8 hne,cond_false]
      exact Z5 p hn n k hk (by omega) (by omega)
theorem Wq (p:ByteArray) {l:List ByteArray} (hn:l.Nodup) {k:Nat} (hk:k<l.length):He p l l[k]=some (pre p (k:Nat)):=by
 have h:=Z5 p hn l.length k hk (Nat.le_refl _) hk
 rw [List.take_length] at h
 exact h
theorem Wr (p:ByteArray) {l:List ByteArray} {q:ByteArray} (hq:q ∉ l):∀ n,n≤l.length→He p (l.take n) q=none
 | 0,_=>by rw [List.take_zero]; rfl
 | n+1,h=>by
  rw [Oi p (by omega:n<l.length)]
  unfold Qay
  rw [A8 (show ¬ q=l[n] from fun e=>hq (by rw [e]; exact List.getElem_mem _)),cond_false]
  exact Wr p hq n (by omega)
theorem Oj (p:ByteArray) {l:List ByteArray} {q:ByteArray} (hq:q ∉ l):He p l q=none:=by
 have h:=Wr p hq l.length (Nat.le_refl _)
 rw [List.take_length] at h
 exact h
def U3 (e:SEnv):Prop:=∀ s n,e s=some n→Aq s=true∧Aq n=true
theorem QbP:∀ i:_root_.Fin 300,Aq (pre Si (i.val:Nat))=true:=by decide +kernel
theorem Qa0 {p:ByteArray} (hp:∀ i:_root_.Fin 300,Aq (pre p (i.val:Nat))=true) {l:List ByteArray} (hn:l.Nodup) (hl:l.length≤240) (hv:∀ s∈l,Aq s=true):U3 (He p l):=fun s n h=>by
 by_cases hs:s∈l
 ·obtain ⟨k,hk,rfl⟩:=List.getElem_of_mem hs
  rw [Wq p hn hk] at h
  obtain rfl:=Option.some.inj h
  exact ⟨hv _ hs,hp ⟨k,by omega⟩⟩
 ·rw [Oj p hs] at h
  cases h
theorem Tm.QbQ {v:ByteArray}:∀ x:Tm,v∈x.vs→Aq v=true
 | .mk n a=>fun h=>by
  rw [Tm.vs] at h
  cases hv:Aq n with
  | true =>
   rw [hv,cond_true,List.mem_singleton] at h
   subst h; exact hv
  | false =>
   rw [hv,cond_false,Tm.vsL_mem] at h
   obtain ⟨y,hy,h⟩:=h
   exact Tm.QbQ y h
termination_by x=>SizeOf.sizeOf x
decreasing_by exact Tm.Aw (x:=.mk n a) hy
theorem Cl.QbR {c:Cl} {s:ByteArray} (h:s∈c.ns):Aq s=true:=by
 obtain ⟨x,_,h⟩:=Cl.QdL.1 h
 exact Tm.QbQ _ h
theorem Tm.QbS (e:SEnv) (x:Tm):(x.rn e).name=(bif x.args.isEmpty then (e x.name).getD x.name else x.name)∧(x.rn e).args=x.args.map (Tm.rn e):=by
 rw [Tm.Rh]; exact ⟨rfl,rfl⟩
theorem T0 {e:SEnv} {xs:List Tm} (h:∀ y∈xs,(y.rn e).names=true):Tm.DH (xs.map (Tm.rn e))=true:=by
 rw [Tm.CX,List.all_eq_true]
 intro z hz
 obtain ⟨y,hy,rfl⟩:=List.mem_map.1 hz
 exact h y hy
theorem Tm.Z6 {e:SEnv} (he:U3 e) (x:Tm) (hv:Aq x.name=false):(x.rn e).name=x.name:=by
 rw [(Tm.QbS e x).1]
 cases hx:e x.name with
 | none=>cases x.args.isEmpty <;> rfl
 | some n =>
  have:=(he _ _ hx).1
  rw [hv] at this; cases this
theorem Tm.Rj {e:SEnv} (he:U3 e) (x:Tm) (h:x.names=true):(x.rn e).names=true:=by
 have h1:=Tm.QbS e x
 rw [Tm.Em] at h ⊢
 rw [h1.2,List.length_map]
 cases hv:Aq x.name with
 | true =>
  rw [hv,if_pos rfl] at h
  have h0:x.args=[]:=List.eq_nil_of_length_eq_zero (by simpa using h)
  have hn:Aq (x.rn e).name=true:=by
   rw [h1.1,h0]
   show Aq ((e x.name).getD x.name)=true
   cases hx:e x.name with
   | none=>exact hv
   | some n=>exact (he _ _ hx).2
  rw [hn,if_pos rfl]
  exact h
 | false =>
  rw [hv,if_neg (by simp)] at h
  rw [Tm.Z6 he x hv,hv,if_neg (by simp)]
  rw [Bool.and_eq_true] at h ⊢
  refine ⟨h.1,T0 fun y hy=>Tm.Rj he y ?_⟩
  have h2:=h.2
  rw [Tm.CX,List.all_eq_true] at h2
  exact h2 y hy
termination_by SizeOf.sizeOf x
decreasing_by exact Tm.Aw hy
theorem Tm.Z7 (e:SEnv) (x:Tm):(x.rn e).deep=x.deep:=by
 have key:∀ xs:List Tm,(∀ y∈xs,(y.rn e).deep=y.deep)→Tm.Ef (xs.map (Tm.rn e))=Tm.Ef xs:=by
  intro xs
  induction xs with
  | nil=>intro _; rfl
  | cons y ys ih =>
   intro h
   rw [List.map_cons,Tm.Ef,Tm.Ef,h y (by simp),ih fun z hz=>h z (by simp [hz])]
 rw [Tm.Rh,Tm.Le,Tm.Le]
 show Tm.Ef (x.args.map (Tm.rn e))+1=_
 rw [key x.args fun y hy=>Tm.Z7 e y]
termination_by SizeOf.sizeOf x
decreasing_by exact Tm.Aw hy
theorem Tm.Ws (e:SEnv) (x:Tm):(x.rn e).small=x.small:=by
 unfold Tm.small
 rw [Tm.Wp,Tm.Z7]
theorem Tm.Qdf {e:SEnv} (he:U3 e) (x:Tm) (h:x.atom=true):(x.rn e).atom=true:=by
 have hv:Aq x.name=false:=by
  unfold Tm.atom at h
  split at h
  ·rename_i hq
   have:x.name=⟨#[61]⟩:=Au.1 hq
   rw [this]; decide +kernel
  ·rw [Bool.and_eq_true] at h
   exact Tv h.1
 have hn:=Tm.Z6 he x hv
 have hq:(x.rn e).eqn=x.eqn:=by unfold Tm.eqn; rw [hn]
 unfold Tm.atom at h ⊢
 rw [hq,hn,Tm.Ws,(Tm.QbS e x).2,List.length_map]
 split at h
 ·rename_i hb
  rw [if_pos hb]
  rw [Bool.and_eq_true] at h ⊢
  refine ⟨h.1,T0 fun y hy=>Tm.Rj he y ?_⟩
  have h2:=h.2
  rw [Tm.CX,List.all_eq_true] at h2
  exact h2 y hy
 ·rename_i hb
  rw [if_neg hb]
  rw [Bool.and_eq_true] at h ⊢
  refine ⟨h.1,?_⟩
  have h2:=h.2
  unfold Tm.valid at h2 ⊢
  rw [Bool.and_eq_true] at h2 ⊢
  exact ⟨by rw [Tm.Ws]; exact h2.1,Tm.Rj he x h2.2⟩
noncomputable def Lt.rn (e:SEnv) (x:Lt):Lt:=⟨x.pos,x.atom.rn e⟩
noncomputable def Cl.rn (e:SEnv) (c:Cl):Cl:=mkC (c.lits.map (Lt.rn e))
theorem Ok {x:Lt} (h:x.atom.atom=true):x.fine:=⟨Tm.GU h,by have:=Tm.C5 h; omega⟩
theorem Ol {xs:List Lt}:∀ {k:Nat},Gx xs k=true→k≤xs.length→∀ (j:Nat) (h:j+1<k) (hl:j+1<xs.length),(xs[j]'(by omega)).cmp xs[j+1]<0
  | 0,_,_,j,h,_=>absurd h (by omega)
  | k + 1,hk,hle,j,h,hl=>by
    rw [Gx,Bool.and_eq_true] at hk
    rcases Nat.lt_or_ge (j+1) k with h1 | h1
    · exact Ol hk.1 (by omega) j h1 hl
    · obtain rfl:k=j+1:=by omega
      have h2:=hk.2
      rw [DZ hl,Bool.and_eq_true,decide_eq_true_eq] at h2
      exact h2.2
theorem Wt {xs:List Lt} (h:Gx xs xs.length=true):Dk xs:=by
 unfold Dk
 rw [List.pairwise_iff_getElem]
 intro i j hi hj hij
 obtain ⟨d,rfl⟩:∃ d,j=i+1+d:=⟨j-(i+1),by omega⟩
 clear hij
 induction d with
 | zero=>exact Ol h (Nat.le_refl _) i hj hj
 | succ d ih =>
  have h1:=ih (by omega)
  have h2:=Ol h (Nat.le_refl _) (i+1+d) hj hj
  exact (Lt.cmp_ord _ _ _).trans h1 h2
theorem Wu {xs:List Lt} (h2:∀ x∈xs,x.atom.atom=true) (h3:Dk xs):Gx xs xs.length=true:=by
  have key:∀ k,k≤xs.length→Gx xs k=true:=by
    intro k
    induction k with
    | zero=>intro _; rfl
    | succ k ih =>
      intro hk
      rw [Gx,ih (by omega),Bool.true_and]
      cases k with
      | zero=>rw [G6 (by omega)]; exact h2 _ (List.getElem_mem _)
      | succ k =>
        rw [DZ (by omega),h2 _ (List.getElem_mem _),Bool.true_and,decide_eq_true_eq]
        exact List.pairwise_iff_getElem.1 h3 k (k+1) (by omega) (by omega) (by omega)
  exact key _ (Nat.le_refl _)
theorem Cl.Qa1 {c:Cl} (h:c.ok=true):Dk c.lits:=by
 unfold Cl.ok at h
 rw [Bool.and_eq_true] at h
 exact Wt h.2
theorem Cl.Qeg {l:List Lt} (h1:l.length≤8) (h2:∀ x∈l,x.atom.atom=true) (h3:Dk l):(Cl.mk l).ok=true:=by
 unfold Cl.ok
 rw [Bool.and_eq_true,decide_eq_true_eq]
 exact ⟨h1,Wu h2 h3⟩
theorem QdM {l:List Lt} (h1:l.length≤8) (h2:∀ x∈l,x.atom.atom=true):(mkC l).ok=true :=
 Cl.Qeg (Nat.le_trans (Zt l) h1) (fun x hx=>h2 x ((P2 l x).1 hx)) (Mf l)
theorem QbT {l:List Lt} (h:Dk l):mkC l=⟨l⟩:=by
 have:(mkC l).lits=l:=Ja (Mf l) h fun z=>P2 l z
 exact congrArg Cl.mk this
theorem Lt.Rk {e:SEnv} (he:U3 e) {l:List Lt} (h:∀ x∈l,x.atom.atom=true):∀ x∈l.map (Lt.rn e),x.atom.atom=true:=fun z hz=>by
 obtain ⟨x,hx,rfl⟩:=List.mem_map.1 hz
 exact Tm.Qdf he _ (h x hx)
theorem Cl.QbU {e:SEnv} (he:U3 e) {c:Cl} (h:c.ok=true):(c.rn e).ok=true :=
 QdM (by rw [List.length_map]; exact Cl.ok_len h) (Lt.Rk he (Cl.CZ h))
theorem Cl.xE {c:Cl} (h:c.ok=true):U3 (He Si c.ns):=Qa0 QbP c.ns_nodup (Cl.Ri h) fun s=>Cl.QbR
def Rl (l:List ByteArray):Prop:=∀ (i:Nat) (h:i<l.length),l[i]=pre Si (i:Nat)
noncomputable def Cl.norm (c:Cl):Bool:=dec (Rl c.ns)
noncomputable def nz:Nat→Cl→Cl
 | 0,c=>c
 | n+1,c=>bif c.norm then c else nz n (c.rn (He Si c.ns))
theorem Z8:∀ (n:Nat) {c:Cl},c.ok=true→(nz n c).ok=true
 | 0,c,h=>h
 | n+1,c,h=>by
  rw [nz]
  cases c.norm with
  | true=>exact h
  | false=>exact Z8 n (Cl.QbU (Cl.xE h) h)
def EX:SC:=(.seq (.reg [⟨some 2,none,.boxv 71 2 (.t 0)⟩,⟨(some 4),none,(.alloc 71 [(.str ⟨#[]⟩),.nil])⟩]) (.seq (.reg [⟨some 10,none,.faddr 0 (.t 2)⟩,⟨some 11,none,.load false 1 (.t 10)⟩,⟨(some 12),none,(.build [(.str ⟨#[]⟩),.nil] [(0,(1,(.t 11)))])⟩,⟨(some 5),none,(.alloc 71 [(.str ⟨#[]⟩),.nil])⟩,⟨none,none,(.store 2 (.t 5) (.t 12))⟩]) (.seq (.seq (.reg [⟨some 14,none,.mv (.t 1)⟩,⟨some 15,none,.faddr 0 (.t 2)⟩,⟨some 16,none,.load false 1 (.t 15)⟩,⟨(some 17),none,(.mget true true false [(.str ⟨#[]⟩)] (.t 14) (.t 16))⟩,⟨some 13,none,.mv (.t 17)⟩,⟨some 18,none,.ext (.t 13) 0⟩,⟨some 19,none,.ext (.t 13) 1⟩,⟨some 6,none,.mv (.t 18)⟩,⟨some 7,none,.mv (.t 19)⟩]) (.seq (.reg [⟨some 20,none,.mv (.t 7)⟩,⟨some 21,none,.mv (.t 20)⟩,⟨(some 22),(some (21,true)),(.faddr 1 (.t 2))⟩,⟨(some 23),(some (21,true)),(.load false 1 (.t 22))⟩,⟨(some 24),(some (21,true)),(.len false (.t 23))⟩,⟨(some 25),(some (21,true)),(.bin .eql false (.t 24) (.c (.int .i64 0)))⟩,⟨some 26,none,.pick (.t 21) (.t 25) (.c (.bool false))⟩]) (.cond (.t 26) (.reg [⟨some 27,none,.mv (.t 6)⟩,⟨some 28,none,.faddr 0 (.t 5)⟩,⟨none,none,(.store 1 (.t 28) (.t 27))⟩]) .skip))) (.seq (.seq (.reg [⟨some 29,none,.faddr 1 (.t 2)⟩,⟨some 30,none,.load false 1 (.t 29)⟩,⟨some 31,none,.len false (.t 30)⟩,⟨some 32,none,.mv (.c (.int .i64 0))⟩]) (.block 0 (.loop [0,1,0,0,1,1,0,0,0,0,0,0,0,0,0,0,0,0,0,0,0,0,0,0,0,0,0,0,0,0,1,1,1,0,0,0,0,0,0,0,0,0,0,0,0,0] (.seq (.reg [⟨some 33,none,.bin .lss false (.t 32) (.t 31)⟩]) (.seq (.cond (.t 33) .skip (.exit 0)) (.seq (.block 1 (.seq (.reg [⟨some 34,none,.iaddr 2 (.t 30) (.t 32)⟩,⟨some 35,none,.load true 2 (.t 34)⟩,⟨(some 9),none,(.alloc 71 [(.str ⟨#[]⟩),.nil])⟩,⟨none,none,(.store 2 (.t 9) (.t 35))⟩]) (.dreg [[],[0],[],[],[2,3],[4,2,3],[1,0,5,4,2,3],[0,1,2,3,4,5,6],[7,0,1,2,3,4,5,6]] [⟨some 36,none,.faddr 1 (.t 5)⟩,⟨some 37,none,.load false 1 (.t 36)⟩,⟨some 38,none,.load true 2 (.t 9)⟩,⟨some 39,none,.mv (.t 1)⟩,⟨some 40,none,.call 143 [(.t 38),(.t 39)]⟩,⟨(some 41),none,(.mkrow 71 2 [(.str ⟨#[]⟩),.nil] 1 [(0,(.t 40))])⟩,⟨(some 42),none,(.append 71 2 40 [(.str ⟨#[]⟩),.nil] (.t 37) (.t 41))⟩,⟨some 43,none,.faddr 1 (.t 5)⟩,⟨none,none,(.store 1 (.t 43) (.t 42))⟩]))) (.reg [⟨some 44,none,.bin .add false (.t 32) (.c (.int .i64 1))⟩,⟨some 32,none,.mv (.t 44)⟩]))))))) (.seq (.reg [⟨some 45,none,.load true 2 (.t 5)⟩,⟨none,none,(.store 2 (.t 4) (.t 45))⟩]) .ret)))))
theorem Hf:codeOf Tryz.prog 143=some ⟨46,EX,[(.cell 4 true 2)]⟩:=by kernel_rfl
theorem B3:modes 143=⟨[],.own [none,some (71,2)],none,false⟩:=by unfold modes; rfl
abbrev RnC (e:SEnv) (x:Tm):Prop:=E 143 [x.sv,.mp true (FN e)] []=some ((x.rn e).osv,(x.rn e).obs)
theorem Yv (e:SEnv) (x:Tm) (hn:x.args.length≤1099511627776) (ih:∀ y∈x.args,RnC e y):RnC e x:=by
  unfold RnC
  obtain ⟨nm,hnm⟩:∃ nm,nm=bif x.args.isEmpty then (e x.name).getD x.name else x.name:=⟨_,rfl⟩
  have e0:x.rn e=.mk nm (x.args.map (Tm.rn e)):=by rw [Tm.Rh,hnm]
  have e1:(Tm.mk nm (x.args.map (Tm.rn e))).osv=.agg [.str nm,.ref 0]:=rfl
  have e2:(Tm.mk nm (x.args.map (Tm.rn e))).obs=[.row 71 2 ((x.args.map (Tm.rn e)).map Tm.o)]:=rfl
  rw [e0,e1,e2]
  have h10:((1:Int)=0)=False:=by simp
  cases he:e x.name with
  | none =>
    have hme:FN e (.str x.name)=none:=by rw [Li,he]
    have hnn:nm=x.name:=by
      rw [hnm,he]
      cases x.args.isEmpty <;> rfl
    rw [hnn]
    clear hnm e0 e1 e2 hnn nm
    obtain ⟨nm,hnm⟩:∃ nm,nm=x.name:=⟨_,rfl⟩
    rw [←hnm] at hme ⊢
    refine Ah Hf B3 (of_decide_eq_true rfl) ?_
    simp (disch:=omega) only [EX,go_sem,Aa,hme,← hnm]
    refine go_loop (α:=Int) (fun a=>⟨slots 46 0 [(1,.mp true (FN e)),(4,.ptr 0 0),(5,.ptr 1 0),(30,.arr (x.args.map Tm.d)),(31,.int .i64 x.args.length),(32,.int .i64 a)],(if a=0 then [.box 71 [.str ⟨#[]⟩,.nil],.box 71 [.str nm,.nil]] else [.box 71 [.str ⟨#[]⟩,.nil],.box 71 [.str nm,.ref 2],.row 71 2 (((x.args.map (Tm.rn e)).take a.toNat).map Tm.o)])⟩) (fun a=>∃ k:Nat,a=k∧k≤(x.args).length) (fun a=>(x.args).length-(a).toNat) 0 ⟨0,rfl,Nat.zero_le _⟩ (by simp (disch:=omega) only [go_sem,Aa,eq_self,if_true]) ?_
    rintro i ⟨k,hi,hk⟩
    have hni:i.toNat=k:=by omega
    have hni1:(i+1).toNat=k+1:=by omega
    rcases Nat.lt_or_ge k (x.args).length with hlt | hge
    · have hg:=get_at Tm.d hlt
      rw [Tm.d_eq] at hg
      have hc:=ih x.args[k] (List.getElem_mem hlt)
      have hlm:k<(x.args.map (Tm.rn e)).length:=by rw [List.length_map]; exact hlt
      have hs:=Dv Tm.o hlm
      rw [Tm.o_eq,List.getElem_map] at hs
      rcases Nat.eq_zero_or_pos k with h0 | h0
      · subst h0
        obtain rfl:i=0:=hi
        rw [List.take_zero,List.map_nil,List.nil_append] at hs
        simp (disch:=omega) only [go_sem,Aa,hni,hg,hc,Tm.osv,Tm.obs,B3,eq_self,if_true]
        refine ⟨1,⟨1,rfl,hlt⟩,by omega,?_⟩
        simp (disch:=omega) only [go_sem,Aa,h10,if_false,hs]
      · have hi0:(i=0)=False:=by simp; omega
        have hi1:(i+1=0)=False:=by simp; omega
        have htl:((x.args.map (Tm.rn e)).take k).length=k:=by rw [List.length_take,List.length_map]; omega
        simp (disch:=omega) only [go_sem,Aa,hni,hg,hc,Tm.osv,Tm.obs,B3,hi0,if_false,htl]
        refine ⟨i+1,⟨k+1,by omega,hlt⟩,by omega,?_⟩
        simp (disch:=omega) only [go_sem,Aa,hni1,hi1,if_false,hs]
    · obtain rfl:k=x.args.length:=by omega
      have ht:(x.args.map (Tm.rn e)).take x.args.length=x.args.map (Tm.rn e):=by rw [←List.length_map (f:=Tm.rn e)]; exact List.take_length
      rcases Nat.eq_zero_or_pos x.args.length with h0 | h0
      · have hx:x.args=[]:=List.eq_nil_of_length_eq_zero h0
        obtain rfl:i=0:=by omega
        first | omega | simp (disch:=omega) only [go_sem,Aa,hni,hx,eq_self,if_true,List.map_nil,List.length_nil]
      · have hi0:(i=0)=False:=by simp; omega
        first | omega | simp (disch:=omega) only [go_sem,Aa,hni,hi0,if_false,ht]
  | some v =>
    have hme:FN e (.str x.name)=some (false,[.str v]):=by rw [Li,he]
    rcases Nat.eq_zero_or_pos x.args.length with hz | hz
    · have hx:x.args=[]:=List.eq_nil_of_length_eq_zero hz
      have hz0:((x.args.length:Int)=0)=True:=by rw [hx]; simp
      have hnn:nm=v:=by rw [hnm,he,hx]; rfl
      rw [hnn]
      clear hnm e0 e1 e2 hnn nm
      obtain ⟨nm,hnm⟩:∃ nm,nm=v:=⟨_,rfl⟩
      rw [←hnm] at hme ⊢
      refine Ah Hf B3 (of_decide_eq_true rfl) ?_
      simp (disch:=omega) only [EX,go_sem,Aa,hme,hz0,Qb8]
      refine go_loop (α:=Int) (fun a=>⟨slots 46 0 [(1,.mp true (FN e)),(4,.ptr 0 0),(5,.ptr 1 0),(30,.arr (x.args.map Tm.d)),(31,.int .i64 x.args.length),(32,.int .i64 a)],(if a=0 then [.box 71 [.str ⟨#[]⟩,.nil],.box 71 [.str nm,.nil]] else [.box 71 [.str ⟨#[]⟩,.nil],.box 71 [.str nm,.ref 2],.row 71 2 (((x.args.map (Tm.rn e)).take a.toNat).map Tm.o)])⟩) (fun a=>∃ k:Nat,a=k∧k≤(x.args).length) (fun a=>(x.args).length-(a).toNat) 0 ⟨0,rfl,Nat.zero_le _⟩ (by simp (disch:=omega) only [go_sem,Aa,eq_self,if_true]) ?_
      rintro i ⟨k,hi,hk⟩
      have hni:i.toNat=k:=by omega
      have hni1:(i+1).toNat=k+1:=by omega
      rcases Nat.lt_or_ge k (x.args).length with hlt | hge
      · have hg:=get_at Tm.d hlt
        rw [Tm.d_eq] at hg
        have hc:=ih x.args[k] (List.getElem_mem hlt)
        have hlm:k<(x.args.map (Tm.rn e)).length:=by rw [List.length_map]; exact hlt
        have hs:=Dv Tm.o hlm
        rw [Tm.o_eq,List.getElem_map] at hs
        rcases Nat.eq_zero_or_pos k with h0 | h0
        · subst h0
          obtain rfl:i=0:=hi
          rw [List.take_zero,List.map_nil,List.nil_append] at hs
          simp (disch:=omega) only [go_sem,Aa,hni,hg,hc,Tm.osv,Tm.obs,B3,eq_self,if_true]
          refine ⟨1,⟨1,rfl,hlt⟩,by omega,?_⟩
          simp (disch:=omega) only [go_sem,Aa,h10,if_false,hs]
        · have hi0:(i=0)=False:=by simp; omega
          have hi1:(i+1=0)=False:=by simp; omega
          have htl:((x.args.map (Tm.rn e)).take k).length=k:=by rw [List.length_take,List.length_map]; omega
          simp (disch:=omega) only [go_sem,Aa,hni,hg,hc,Tm.osv,Tm.obs,B3,hi0,if_false,htl]
          refine ⟨i+1,⟨k+1,by omega,hlt⟩,by omega,?_⟩
          simp (disch:=omega) only [go_sem,Aa,hni1,hi1,if_false,hs]
      · obtain rfl:k=x.args.length:=by omega
        have ht:(x.args.map (Tm.rn e)).take x.args.length=x.args.map (Tm.rn e):=by rw [←List.length_map (f:=Tm.rn e)]; exact List.take_length
        rcases Nat.eq_zero_or_pos x.args.length with h0 | h0
        · have hx:x.args=[]:=List.eq_nil_of_length_eq_zero h0
          obtain rfl:i=0:=by omega
          first | omega | simp (disch:=omega) only [go_sem,Aa,hni,hx,eq_self,if_true,List.map_nil,List.length_nil]
        · have hi0:(i=0)=False:=by simp; omega
          first | omega | simp (disch:=omega) only [go_sem,Aa,hni,hi0,if_false,ht]
    · have hz0:((x.args.length:Int)=0)=False:=eq_false (by omega)
      have hnn:nm=x.name:=by
        rw [hnm]
        cases hx:x.args with
        | nil=>rw [hx] at hz; simp at hz
        | cons a r=>rfl
      rw [hnn]
      clear hnm e0 e1 e2 hnn nm
      obtain ⟨nm,hnm⟩:∃ nm,nm=x.name:=⟨_,rfl⟩
      rw [←hnm] at hme ⊢
      refine Ah Hf B3 (of_decide_eq_true rfl) ?_
      simp (disch:=omega) only [EX,go_sem,Aa,hme,hz0,Qb9,← hnm]
      refine go_loop (α:=Int) (fun a=>⟨slots 46 0 [(1,.mp true (FN e)),(4,.ptr 0 0),(5,.ptr 1 0),(30,.arr (x.args.map Tm.d)),(31,.int .i64 x.args.length),(32,.int .i64 a)],(if a=0 then [.box 71 [.str ⟨#[]⟩,.nil],.box 71 [.str nm,.nil]] else [.box 71 [.str ⟨#[]⟩,.nil],.box 71 [.str nm,.ref 2],.row 71 2 (((x.args.map (Tm.rn e)).take a.toNat).map Tm.o)])⟩) (fun a=>∃ k:Nat,a=k∧k≤(x.args).length) (fun a=>(x.args).length-(a).toNat) 0 ⟨0,rfl,Nat.zero_le _⟩ (by simp (disch:=omega) only [go_sem,Aa,eq_self,if_true]) ?_
      rintro i ⟨k,hi,hk⟩
      have hni:i.toNat=k:=by omega
      have hni1:(i+1).toNat=k+1:=by omega
      rcases Nat.lt_or_ge k (x.args).length with hlt | hge
      · have hg:=get_at Tm.d hlt
        rw [Tm.d_eq] at hg
        have hc:=ih x.args[k] (List.getElem_mem hlt)
        have hlm:k<(x.args.map (Tm.rn e)).length:=by rw [List.length_map]; exact hlt
        have hs:=Dv Tm.o hlm
        rw [Tm.o_eq,List.getElem_map] at hs
        rcases Nat.eq_zero_or_pos k with h0 | h0
        · subst h0
          obtain rfl:i=0:=hi
          rw [List.take_zero,List.map_nil,List.nil_append] at hs
          simp (disch:=omega) only [go_sem,Aa,hni,hg,hc,Tm.osv,Tm.obs,B3,eq_self,if_true]
          refine ⟨1,⟨1,rfl,hlt⟩,by omega,?_⟩
          simp (disch:=omega) only [go_sem,Aa,h10,if_false,hs]
        · have hi0:(i=0)=False:=by simp; omega
          have hi1:(i+1=0)=False:=by simp; omega
          have htl:((x.args.map (Tm.rn e)).take k).length=k:=by rw [List.length_take,List.length_map]; omega
          simp (disch:=omega) only [go_sem,Aa,hni,hg,hc,Tm.osv,Tm.obs,B3,hi0,if_false,htl]
          refine ⟨i+1,⟨k+1,by omega,hlt⟩,by omega,?_⟩
          simp (disch:=omega) only [go_sem,Aa,hni1,hi1,if_false,hs]
      · obtain rfl:k=x.args.length:=by omega
        have ht:(x.args.map (Tm.rn e)).take x.args.length=x.args.map (Tm.rn e):=by rw [←List.length_map (f:=Tm.rn e)]; exact List.take_length
        rcases Nat.eq_zero_or_pos x.args.length with h0 | h0
        · have hx:x.args=[]:=List.eq_nil_of_length_eq_zero h0
          obtain rfl:i=0:=by omega
          first | omega | simp (disch:=omega) only [go_sem,Aa,hni,hx,eq_self,if_true,List.map_nil,List.length_nil]
        · have hi0:(i=0)=False:=by simp; omega
          first | omega | simp (disch:=omega) only [go_sem,Aa,hni,hi0,if_false,ht]
theorem T1 (e:SEnv) (x:Tm) (hn:x.nodes≤1099511627776):RnC e x :=
 Yv e x (by have:=Tm.length_le x.args; have:=Tm.An x; omega) fun y hy=>T1 e y (by have:=Tm.AU hy; have:=Tm.An x; omega)
termination_by SizeOf.sizeOf x
decreasing_by exact Tm.Aw hy
def Jn:SC:=(.seq (.reg [⟨(some 2),none,(.mv (.c (.str ⟨#[]⟩)))⟩]) (.seq (.seq (.reg [⟨some 3,none,.mv (.t 0)⟩,⟨some 4,none,.bin .lss false (.t 3) (.c (.int .i64 0))⟩]) (.cond (.t 4) (.seq (.reg [⟨some 5,none,.mv (.t 0)⟩,⟨some 6,none,.un .neg (.t 5)⟩,⟨some 7,none,.call 75 [(.t 6)]⟩,⟨(some 8),none,(.bin .add false (.c (.str ⟨#[45]⟩)) (.t 7))⟩,⟨some 2,none,.mv (.t 8)⟩]) .ret) .skip)) (.seq (.seq (.reg [⟨some 9,none,.mv (.t 0)⟩,⟨some 10,none,.bin .lss false (.t 9) (.c (.int .i64 10))⟩]) (.cond (.t 10) (.seq (.reg [⟨some 11,none,.mv (.t 0)⟩,⟨some 12,none,.mv (.t 0)⟩,⟨some 13,none,.bin .add false (.t 12) (.c (.int .i64 1))⟩,⟨(some 14),none,(.slice true 0 (.c (.str ⟨#[48,49,50,51,52,53,54,55,56,57]⟩)) (some (.t 11)) (some (.t 13)))⟩,⟨some 2,none,.mv (.t 14)⟩]) .ret) .skip)) (.seq (.dreg [[],[0],[1,0],[],[3],[],[5],[6,5],[4,3,7,6,5],[2,1,0,8,4,3,7,6,5],[9,2,1,0,8,4,3,7,6,5]] [⟨some 15,none,.mv (.t 0)⟩,⟨some 16,none,.bin .quo false (.t 15) (.c (.int .i64 10))⟩,⟨some 17,none,.call 75 [(.t 16)]⟩,⟨some 18,none,.mv (.t 0)⟩,⟨some 19,none,.bin .rem false (.t 18) (.c (.int .i64 10))⟩,⟨some 20,none,.mv (.t 0)⟩,⟨some 21,none,.bin .rem false (.t 20) (.c (.int .i64 10))⟩,⟨some 22,none,.bin .add false (.t 21) (.c (.int .i64 1))⟩,⟨(some 23),none,(.slice true 0 (.c (.str ⟨#[48,49,50,51,52,53,54,55,56,57]⟩)) (some (.t 19)) (some (.t 22)))⟩,⟨some 24,none,.bin .add false (.t 17) (.t 23)⟩,⟨some 2,none,.mv (.t 24)⟩]) .ret))))
theorem MY:codeOf Tryz.prog 75=some ⟨25,Jn,[(.tmp 2)]⟩:=by kernel_rfl
theorem Dn:modes 75=⟨[],.asis,none,false⟩:=by unfold modes; rfl
theorem Qdx (d:Nat) (h:d<10):(⟨#[48,49,50,51,52,53,54,55,56,57]⟩:ByteArray).extract d (d+1)=⟨#[UInt8.ofNat (48+d)]⟩:=by
 have key:∀ d:_root_.Fin 10,(⟨#[48,49,50,51,52,53,54,55,56,57]⟩:ByteArray).extract d.val (d.val+1)=⟨#[UInt8.ofNat (48+d.val)]⟩:=by decide +kernel
 exact key ⟨d,h⟩
theorem QbV (n:Int) (h0:0≤n) (h1:n≤1099511627776) (ih:10≤n→E 75 [.int .i64 (n.tdiv 10)] []=some (.str (Gv (n.tdiv 10)),[])):E 75 [.int .i64 n] []=some (.str (Gv n),[]):=by
 have hsz:(⟨#[48,49,50,51,52,53,54,55,56,57]⟩:ByteArray).size=10:=rfl
 rcases Int.lt_or_le n 10 with h | h
 ·have e1:=Qdx n.toNat (by omega)
  have e2:(n+1).toNat=n.toNat+1:=by omega
  rw [Yu h0 h]
  refine Ah MY Dn (of_decide_eq_true rfl) ?_
  simp (disch:=omega) only [Jn,go_sem,Aa,e1,e2,hsz]
 ·have hc:=ih h
  have hq:n.tdiv 10=n / 10:=Int.tdiv_eq_ediv_of_nonneg h0
  have hr:n.tmod 10=n % 10:=Int.tmod_eq_emod_of_nonneg h0
  have hq2:0≤n.tdiv 10∧n.tdiv 10≤n:=by omega
  have hr2:0≤n.tmod 10∧n.tmod 10<10:=by omega
  have hs:=G5 hq2.1 (by omega:n.tdiv 10≤1099511627776)
  have e1:=Qdx (n.tmod 10).toNat (by omega)
  have e2:(n.tmod 10+1).toNat=(n.tmod 10).toNat+1:=by omega
  rw [QbN h]
  clear hq hr
  have hs1:(⟨#[UInt8.ofNat (48+(n.tmod 10).toNat)]⟩:ByteArray).size=1:=rfl
  refine Ah MY Dn (of_decide_eq_true rfl) ?_
  simp (disch:=omega) only [Jn,go_sem,Aa,hc,e1,e2,hsz,hs1,Dn]
theorem U4 (n:Int) (h0:0≤n) (h1:n≤1099511627776):E 75 [.int .i64 n] []=some (.str (Gv n),[]) :=
 QbV n h0 h1 fun h=>U4 (n.tdiv 10) (by rw [Int.tdiv_eq_ediv_of_nonneg h0]; omega) (by rw [Int.tdiv_eq_ediv_of_nonneg h0]; omega)
termination_by n.toNat
decreasing_by rw [Int.tdiv_eq_ediv_of_nonneg h0]; omega
def H3:SC:=(.seq (.reg [⟨some 1,none,.boxv 28 1 (.t 0)⟩,⟨some 2,none,.alloc 28 [.nil]⟩]) (.seq (.reg [⟨some 6,none,.build [.nil] []⟩,⟨some 3,none,.alloc 28 [.nil]⟩,⟨none,none,(.store 1 (.t 3) (.t 6))⟩]) (.seq (.seq (.reg [⟨some 7,none,.faddr 0 (.t 1)⟩,⟨some 8,none,.load false 1 (.t 7)⟩,⟨some 9,none,.len false (.t 8)⟩,⟨some 10,none,.mv (.c (.int .i64 0))⟩]) (.block 0 (.loop [0,0,1,1,0,0,0,0,1,1,1,0,0,0,0,0,0,0,0,0,0,0,0] (.seq (.reg [⟨some 11,none,.bin .lss false (.t 10) (.t 9)⟩]) (.seq (.cond (.t 11) .skip (.exit 0)) (.seq (.block 1 (.seq (.reg [⟨some 12,none,.iaddr 3 (.t 8) (.t 10)⟩,⟨some 13,none,.load true 3 (.t 12)⟩,⟨(some 5),none,(.alloc 73 [(.bool false),(.str ⟨#[]⟩),.nil])⟩,⟨none,none,(.store 3 (.t 5) (.t 13))⟩]) (.dreg [[],[0],[],[2],[3,2],[1,0,4,3,2],[0,1,2,3,4,5],[6,0,1,2,3,4,5]] [⟨some 14,none,.faddr 0 (.t 3)⟩,⟨some 15,none,.load false 1 (.t 14)⟩,⟨some 16,none,.load true 3 (.t 5)⟩,⟨some 17,none,.call 169 [(.t 16)]⟩,⟨(some 18),none,(.mkrow 73 3 [(.bool false),(.str ⟨#[]⟩),.nil] 1 [(0,(.t 17))])⟩,⟨(some 19),none,(.append 73 3 48 [(.bool false),(.str ⟨#[]⟩),.nil] (.t 15) (.t 18))⟩,⟨some 20,none,.faddr 0 (.t 3)⟩,⟨none,none,(.store 1 (.t 20) (.t 19))⟩]))) (.reg [⟨some 21,none,.bin .add false (.t 10) (.c (.int .i64 1))⟩,⟨some 10,none,.mv (.t 21)⟩]))))))) (.seq (.reg [⟨some 22,none,.load true 1 (.t 3)⟩,⟨none,none,(.store 1 (.t 2) (.t 22))⟩]) .ret))))
theorem MZ:codeOf Tryz.prog 139=some ⟨23,H3,[(.cell 2 true 1)]⟩:=by kernel_rfl
theorem H4:modes 139=⟨[],.own [some (73,3)],none,false⟩:=by unfold modes; rfl
theorem U5 (c:Cl) (hl:c.lits.length≤1048576) (hf:∀ x∈c.lits,x.atom.nodes≤1099511627776):E 139 [c.sv] []=some (c.osv,c.obs):=by
 have h10:((1:Int)=0)=False:=by simp
 obtain ⟨l,hcl⟩:∃ l,l=c.lits:=⟨_,rfl⟩
 have e0:c.sv=.agg [.arr (l.map Lt.d)]:=by rw [hcl]; first | done | rfl
 have e1:c.osv=.agg [.ref 0]:=rfl
 have e2:c.obs=[.row 73 3 (l.map Lt.o)]:=by rw [hcl]; first | done | rfl
 rw [e0,e1,e2]
 rw [←hcl] at hl hf
 clear hcl e0 e1 e2
 refine Ah MZ H4 (of_decide_eq_true rfl) ?_
 simp (disch:=omega) only [H3,go_sem,Aa]
 refine go_loop (α:=Int) (fun a=>⟨slots 23 0 [(2,.ptr 0 0),(3,.ptr 1 0),(8,.arr (l.map Lt.d)),(9,.int .i64 l.length),(10,.int .i64 a)],(if a=0 then [.box 28 [.nil],.box 28 [.nil]] else [.box 28 [.nil],.box 28 [.ref 2],.row 73 3 ((l.take a.toNat).map Lt.o)])⟩) (fun a=>∃ k:Nat,a=k∧k≤(l).length) (fun a=>(l).length-(a).toNat) 0 ⟨0,rfl,Nat.zero_le _⟩ (by simp (disch:=omega) only [go_sem,Aa,eq_self,if_true]) ?_
 rintro i ⟨k,hi,hk⟩
 have hni:i.toNat=k:=by omega
 have hni1:(i+1).toNat=k+1:=by omega
 rcases Nat.lt_or_ge k (l).length with hlt | hge
 ·have hg:=get_at Lt.d hlt
  rw [Lt.d_eq] at hg
  have hc:=L6 l[k] (hf _ (List.getElem_mem hlt))
  have hs:=Dv Lt.o hlt
  rw [Lt.o_eq] at hs
  rcases Nat.eq_zero_or_pos k with h0 | h0
  ·subst h0
   obtain rfl:i=0:=hi
   rw [List.take_zero,List.map_nil,List.nil_append] at hs
   simp (disch:=omega) only [go_sem,Aa,hni,hg,hc,C3,eq_self,if_true]
   refine ⟨1,⟨1,rfl,hlt⟩,by omega,?_⟩
   simp (disch:=omega) only [go_sem,Aa,h10,if_false,hs]
  ·have hi0:(i=0)=False:=by simp; omega
   have hi1:(i+1=0)=False:=by simp; omega
   have htl:(l.take k).length=k:=by rw [List.length_take]; omega
   simp (disch:=omega) only [go_sem,Aa,hni,hg,hc,C3,hi0,if_false,htl]
   refine ⟨i+1,⟨k+1,by omega,hlt⟩,by omega,?_⟩
   simp (disch:=omega) only [go_sem,Aa,hni1,hi1,if_false,hs]
 ·obtain rfl:k=l.length:=by omega
  have ht:l.take l.length=l:=List.take_length
  rcases Nat.eq_zero_or_pos l.length with h0 | h0
  ·have hx:l=[]:=List.eq_nil_of_length_eq_zero h0
   obtain rfl:i=0:=by omega
   rw [hx]
   simp (disch:=omega) only [go_sem,Aa,hni,eq_self,if_true,List.map_nil]
  ·have hi0:(i=0)=False:=by simp; omega
   simp (disch:=omega) only [go_sem,Aa,hni,hi0,if_false,ht]
def Gm:SC:=(.seq (.reg [⟨some 1,none,.boxv 28 1 (.t 0)⟩,⟨some 2,none,.mv (.c (.bool false))⟩]) (.seq (.seq (.reg [⟨some 5,none,.load true 1 (.t 1)⟩,⟨some 6,none,.call 84 [(.t 5)]⟩,⟨some 7,none,.len false (.t 6)⟩,⟨some 8,none,.mv (.c (.int .i64 0))⟩]) (.block 0 (.loop [0,0,0,0,0,0,1,1,1,0,0,0,0,0,0,0,0,0,0] (.seq (.reg [⟨some 9,none,.bin .lss false (.t 8) (.t 7)⟩]) (.seq (.cond (.t 9) .skip (.exit 0)) (.seq (.block 1 (.seq (.reg [⟨some 10,none,.mv (.t 8)⟩,⟨some 11,none,.iaddr 1 (.t 6) (.t 8)⟩,⟨some 12,none,.load false 1 (.t 11)⟩,⟨some 3,none,.mv (.t 10)⟩,⟨some 4,none,.mv (.t 12)⟩]) (.seq (.reg [⟨some 13,none,.mv (.t 4)⟩,⟨some 14,none,.mv (.t 3)⟩,⟨some 15,none,.call 85 [(.t 14)]⟩,⟨(some 16),none,(.bin .add false (.c (.str ⟨#[88]⟩)) (.t 15))⟩,⟨some 17,none,.bin .neq false (.t 13) (.t 16)⟩]) (.cond (.t 17) (.seq (.reg [⟨some 2,none,.mv (.c (.bool false))⟩]) .ret) .skip)))) (.reg [⟨some 18,none,.bin .add false (.t 8) (.c (.int .i64 1))⟩,⟨some 8,none,.mv (.t 18)⟩]))))))) (.seq (.reg [⟨some 2,none,.mv (.c (.bool true))⟩]) .ret)))
theorem Lo:codeOf Tryz.prog 55=some ⟨19,Gm,[(.tmp 2)]⟩:=by kernel_rfl
theorem Co:modes 55=⟨[],.asis,none,false⟩:=by unfold modes; rfl
theorem Kx (c:Cl) (hc:c.ok=true):E 55 [c.sv] []=some (.bool c.norm,[]):=by
  have h1:=Tz c hc
  have hn:=Cl.Ri hc
  have hcs:c.sv=.agg [.arr (c.lits.map Lt.d)]:=rfl
  obtain ⟨ns,hns⟩:∃ ns,ns=c.ns:=⟨_,rfl⟩
  rw [show Ct [] (Lt.vsL c.lits)=ns from hns.symm] at h1
  have hnm:c.norm=dec (Rl ns):=by unfold Cl.norm; rw [hns]
  rw [←hns] at hn
  rw [hnm]
  refine Ah Lo Co (of_decide_eq_true rfl) ?_
  simp (disch:=omega) only [Gm,go_sem,Aa,h1,DS]
  refine go_loop (α:=Int) (fun a=>⟨slots 19 0 [(6,.ref 0),(7,.int .i64 ns.length),(8,.int .i64 a)],[.row 9 1 (ns.map fun s=>[OT.str s])]⟩) (fun a=>∃ k:Nat,a=k∧k≤(ns).length∧∀ (j:Nat),j<k→∀ hj:j<ns.length,ns[j]=pre Si (j:Nat)) (fun a=>(ns).length-(a).toNat) 0 ⟨0,rfl,Nat.zero_le _,fun j hj=>absurd hj (Nat.not_lt_zero _)⟩ (by simp (disch:=omega) only [go_sem,Aa]) ?_
  rintro i ⟨k,hi,hk,hR⟩
  have hni:i.toNat=k:=by omega
  have hni1:(i+1).toNat=k+1:=by omega
  rcases Nat.lt_or_ge k (ns).length with hlt | hge
  · have hg:=get_at (fun s=>[OT.str s]) hlt
    have hit:=QbO i (by omega) (by omega)
    have hz:=G5 (show 0≤i by omega) (show i≤1099511627776 by omega)
    have hb:dec ((#[88]:Array UInt8).size+(Gv i).size≤9223372036854775807)=true:=Ay (by simp; omega)
    by_cases he:ns[k]=pre Si (k:Nat)
    · have he':dec (ns[k]=(⟨#[88]⟩:ByteArray)++Gv i)=true:=Ay (by rw [he,hi]; rfl)
      simp (disch:=omega) only [go_sem,Aa,hni,hg,hit,hb,he',EW]
      refine ⟨i+1,⟨k+1,by omega,hlt,fun j hj hjl=>?_⟩,by omega,by first | trivial | rfl⟩
      rcases Nat.lt_or_ge j k with h2 | h2
      · exact hR j h2 hjl
      · obtain rfl:j=k:=by omega
        exact he
    · have he':dec (ns[k]=(⟨#[88]⟩:ByteArray)++Gv i)=false:=A8 (fun e=>he (by rw [e,hi]; rfl))
      have hno:dec (Rl ns)=false:=A8 fun h=>he (h k hlt)
      rw [hno]
      simp (disch:=omega) only [go_sem,Aa,hni,hg,hit,hb,he',EW]
  · have hy:dec (Rl ns)=true:=Ay fun j hj=>hR j (by omega) hj
    rw [hy]
    simp (disch:=omega) only [go_sem,Aa,hni]
def Gg:SC:=(.seq (.reg [⟨some 1,none,.boxv 28 1 (.t 0)⟩,⟨some 2,none,.mv (.c (.bool false))⟩]) (.seq (.reg [⟨some 3,none,.load true 1 (.t 1)⟩,⟨some 4,none,.call 54 [(.t 3)]⟩,⟨some 5,none,.mv (.t 4)⟩,⟨(some 6),(some (5,true)),(.load true 1 (.t 1))⟩,⟨(some 7),(some (5,true)),(.call 55 [(.t 6)])⟩,⟨some 8,none,.pick (.t 5) (.t 7) (.c (.bool false))⟩,⟨some 2,none,.mv (.t 8)⟩]) .ret))
theorem J4:codeOf Tryz.prog 32=some ⟨9,Gg,[(.tmp 2)]⟩:=by kernel_rfl
theorem CC:modes 32=⟨[],.asis,none,false⟩:=by unfold modes; rfl
theorem Rm (c:Cl) (hc:c.tame):E 32 [c.sv] []=some (.bool (c.ok&&c.norm),[]):=by
 have h1:=Gd c hc
 cases hv:c.ok with
 | false =>
  rw [hv] at h1
  refine Ah J4 CC (of_decide_eq_true rfl) ?_
  simp (disch:=omega) only [Gg,go_sem,Aa,h1,Ci]
 | true =>
  rw [hv] at h1
  have h2:=Kx c hv
  refine Ah J4 CC (of_decide_eq_true rfl) ?_
  simp (disch:=omega) only [Gg,go_sem,Aa,h1,h2,Ci,Co]
def J5:SC:=(.seq (.reg [⟨some 4,none,.mv (.c (.mp true nomap))⟩]) (.seq (.reg [⟨some 8,none,.mkmap true none⟩,⟨some 5,none,.mv (.t 8)⟩]) (.seq (.seq (.reg [⟨some 9,none,.mv (.t 0)⟩,⟨some 10,none,.len false (.t 9)⟩,⟨some 11,none,.mv (.c (.int .i64 0))⟩]) (.block 0 (.loop [0,1,0,0,0,1,0,0,0,1,1,1,0,0,0,0,0,0,0,0,0,0,0,0] (.seq (.reg [⟨some 12,none,.bin .lss false (.t 11) (.t 10)⟩]) (.seq (.cond (.t 12) .skip (.exit 0)) (.seq (.block 1 (.seq (.reg [⟨some 13,none,.mv (.t 11)⟩,⟨some 14,none,.iaddr 1 (.t 9) (.t 11)⟩,⟨some 15,none,.load false 1 (.t 14)⟩,⟨some 6,none,.mv (.t 13)⟩,⟨some 7,none,.mv (.t 15)⟩]) (.reg [⟨some 16,none,.mv (.t 5)⟩,⟨some 17,none,.mv (.t 7)⟩,⟨some 18,none,.mv (.t 1)⟩,⟨some 19,none,.mv (.t 6)⟩,⟨some 20,none,.call 85 [(.t 19)]⟩,⟨some 21,none,.bin .add false (.t 18) (.t 20)⟩,⟨none,none,(.mset true (.t 16) (.t 17) (.t 21))⟩]))) (.reg [⟨some 22,none,.bin .add false (.t 11) (.c (.int .i64 1))⟩,⟨some 11,none,.mv (.t 22)⟩]))))))) (.seq (.reg [⟨some 23,none,.mv (.t 5)⟩,⟨some 4,none,.mv (.t 23)⟩]) .ret))))
theorem Pi:codeOf Tryz.prog 140=some ⟨24,J5,[(.tmp 4)]⟩:=by kernel_rfl
theorem Ez:modes 140=⟨[],.frz,none,false⟩:=by unfold modes; rfl
theorem QbW (p:ByteArray):FN (He p [])=nomap:=Yt
theorem Yw (ns:List ByteArray) (hn:ns.length≤1048576) (p:ByteArray) (hp:p.size≤1048576):E 140 [.arr (ns.map fun s=>[D.str s]),.str p] []=some (.mp true (FN (He p ns)),[]):=by
 have h0:=QbW p
 refine Ah Pi Ez (of_decide_eq_true rfl) ?_
 simp (disch:=omega) only [J5,go_sem,Aa]
 refine go_loop (α:=Int) (fun a=>⟨slots 24 0 [(1,.str p),(5,.ref 0),(9,.arr (ns.map fun s=>[D.str s])),(10,.int .i64 ns.length),(11,.int .i64 a)],[.mp true (FN (He p (ns.take a.toNat)))]⟩) (fun a=>∃ k:Nat,a=k∧k≤(ns).length) (fun a=>(ns).length-(a).toNat) 0 ⟨0,rfl,Nat.zero_le _⟩ (by simp (disch:=omega) only [go_sem,Aa,h0]) ?_
 rintro i ⟨k,hi,hk⟩
 have hni:i.toNat=k:=by omega
 have hni1:(i+1).toNat=k+1:=by omega
 rcases Nat.lt_or_ge k (ns).length with hlt | hge
 ·have hg:=get_at (fun s=>[D.str s]) hlt
  have hit:=QbO i (by omega) (by omega)
  have hz:=G5 (show 0≤i by omega) (show i≤1099511627776 by omega)
  have hb:dec (p.size+(Gv i).size≤9223372036854775807)=true:=Ay (by omega)
  have hs:OZ (FN (He p (ns.take k))) (.str ns[k]) (false,[.str (p++Gv i)])=FN (He p (ns.take (k+1))):=by
   rw [Qaz,Oi p hlt,hi]; rfl
  simp (disch:=omega) only [go_sem,Aa,hni,hg,hit,hb,hs,EW]
  refine ⟨i+1,⟨k+1,by omega,hlt⟩,by omega,?_⟩
  simp (disch:=omega) only [go_sem,Aa,hni1]
 ·have ht:ns.take k=ns:=List.take_of_length_le hge
  simp (disch:=omega) only [go_sem,Aa,hni,ht]
def FO:SC:=(.seq (.reg [⟨some 2,none,.boxv 28 1 (.t 0)⟩,⟨some 4,none,.alloc 28 [.nil]⟩]) (.seq (.reg [⟨(some 8),none,(.mkrow 73 3 [(.bool false),(.str ⟨#[]⟩),.nil] 0 [])⟩,⟨some 5,none,.mv (.t 8)⟩]) (.seq (.seq (.reg [⟨some 9,none,.faddr 0 (.t 2)⟩,⟨some 10,none,.load false 1 (.t 9)⟩,⟨some 11,none,.len false (.t 10)⟩,⟨some 12,none,.mv (.c (.int .i64 0))⟩]) (.block 0 (.loop [0,1,0,0,1,1,0,0,0,0,1,1,1,0,0,0,0,0,0,0,0,0,0,0,0,0,0,0,0] (.seq (.reg [⟨some 13,none,.bin .lss false (.t 12) (.t 11)⟩]) (.seq (.cond (.t 13) .skip (.exit 0)) (.seq (.block 1 (.seq (.reg [⟨some 14,none,.iaddr 3 (.t 10) (.t 12)⟩,⟨some 15,none,.load true 3 (.t 14)⟩,⟨(some 7),none,(.alloc 73 [(.bool false),(.str ⟨#[]⟩),.nil])⟩,⟨none,none,(.store 3 (.t 7) (.t 15))⟩]) (.dreg [[],[],[1],[],[3],[],[4,3,5],[2,1,6,4,3,5],[7,2,1,6,4,3,5],[0,8,7,2,1,6,4,3,5],[9,0,8,7,2,1,6,4,3,5]] [⟨some 16,none,.mv (.t 5)⟩,⟨some 17,none,.faddr 0 (.t 7)⟩,⟨some 18,none,.load false 1 (.t 17)⟩,⟨some 19,none,.faddr 1 (.t 7)⟩,⟨some 20,none,.load true 2 (.t 19)⟩,⟨some 21,none,.mv (.t 1)⟩,⟨some 22,none,.call 143 [(.t 20),(.t 21)]⟩,⟨(some 23),none,(.build [(.bool false),(.str ⟨#[]⟩),.nil] [(0,(1,(.t 18))),(1,(2,(.t 22)))])⟩,⟨(some 24),none,(.mkrow 73 3 [(.bool false),(.str ⟨#[]⟩),.nil] 1 [(0,(.t 23))])⟩,⟨(some 25),none,(.append 73 3 48 [(.bool false),(.str ⟨#[]⟩),.nil] (.t 16) (.t 24))⟩,⟨some 5,none,.mv (.t 25)⟩]))) (.reg [⟨some 26,none,.bin .add false (.t 12) (.c (.int .i64 1))⟩,⟨some 12,none,.mv (.t 26)⟩]))))))) (.seq (.reg [⟨some 27,none,.mv (.t 5)⟩,⟨some 28,none,.call 138 [(.t 27)]⟩,⟨none,none,(.store 1 (.t 4) (.t 28))⟩]) .ret))))
theorem Ky:codeOf Tryz.prog 98=some ⟨29,FO,[(.cell 4 true 1)]⟩:=by kernel_rfl
theorem CG:modes 98=⟨[],.own [some (73,3)],none,false⟩:=by unfold modes; rfl
theorem Pj (c:Cl) (hc:c.ok=true) (e:SEnv) (he:U3 e):E 98 [c.sv,.mp true (FN e)] []=some ((c.rn e).osv,(c.rn e).obs):=by
 have hl:=Cl.ok_len hc
 have hcs:c.sv=.agg [.arr (c.lits.map Lt.d)]:=rfl
 have hat:=Lt.Rk he (Cl.CZ hc)
 have hco:=QP (c.lits.map (Lt.rn e)) (by rw [List.length_map]; omega) (fun x hx=>Ok (hat x hx))
 rw [show mkC (c.lits.map (Lt.rn e))=c.rn e from rfl] at hco
 have her:=Lt.erss (c.lits.map (Lt.rn e))
 refine Ah Ky CG (of_decide_eq_true rfl) ?_
 simp (disch:=omega) only [FO,go_sem,Aa]
 refine go_loop (α:=Int) (fun a=>⟨slots 29 0 [(1,.mp true (FN e)),(4,.ptr 0 0),(5,.ref 1),(10,.arr (c.lits.map Lt.d)),(11,.int .i64 c.lits.length),(12,.int .i64 a)],[.box 28 [.nil],.row 73 3 (((c.lits.map (Lt.rn e)).take a.toNat).map Lt.o)]⟩) (fun a=>∃ k:Nat,a=k∧k≤(c.lits).length) (fun a=>(c.lits).length-(a).toNat) 0 ⟨0,rfl,Nat.zero_le _⟩ (by simp (disch:=omega) only [go_sem,Aa]) ?_
 rintro i ⟨k,hi,hk⟩
 have hni:i.toNat=k:=by omega
 have hni1:(i+1).toNat=k+1:=by omega
 rcases Nat.lt_or_ge k (c.lits).length with hlt | hge
 ·have hg:=get_at Lt.d hlt
  rw [Lt.d_eq] at hg
  have hnn:=Tm.C5 (Cl.Jm hc hlt)
  have hr:=T1 e c.lits[k].atom (by omega)
  unfold RnC at hr
  have hrs:c.lits[k].atom.sv=.agg [.str c.lits[k].atom.name,.arr (c.lits[k].atom.args.map Tm.d)]:=rfl
  have hlm:k<(c.lits.map (Lt.rn e)).length:=by rw [List.length_map]; exact hlt
  have hs:=Dv Lt.o hlm
  rw [Lt.o_eq,List.getElem_map] at hs
  have hs':((c.lits.map (Lt.rn e)).take k).map Lt.o++[[OT.bool c.lits[k].pos,OT.str (c.lits[k].atom.rn e).name,OT.ow ((c.lits[k].atom.rn e).args.map Tm.o)]]=((c.lits.map (Lt.rn e)).take (k+1)).map Lt.o:=hs
  have htl:((c.lits.map (Lt.rn e)).take k).length=k:=by rw [List.length_take,List.length_map]; omega
  simp (disch:=omega) only [go_sem,Aa,hni,hg,hr,hrs,htl,Tm.osv,Tm.obs,B3]
  refine ⟨i+1,⟨k+1,by omega,hlt⟩,by omega,?_⟩
  simp (disch:=omega) only [go_sem,Aa,hni1,hs']
 ·have ht:(c.lits.map (Lt.rn e)).take k=c.lits.map (Lt.rn e):=List.take_of_length_le (by rw [List.length_map]; exact hge)
  simp (disch:=omega) only [go_sem,Aa,hni,ht,hco,her,Lt.noss,Lt.fus,CA]
def IA:SC:=(.seq (.reg [⟨some 1,none,.boxv 28 1 (.t 0)⟩,⟨some 2,none,.alloc 28 [.nil]⟩]) (.seq (.reg [⟨some 5,none,.load true 1 (.t 1)⟩,⟨some 6,none,.call 139 [(.t 5)]⟩,⟨some 3,none,.alloc 28 [.nil]⟩,⟨none,none,(.store 1 (.t 3) (.t 6))⟩]) (.seq (.seq (.reg [⟨some 4,none,.mv (.c (.int .i64 0))⟩]) (.block 0 (.loop [0,0,1,1,1,0,0,0,0,0,0,0,0,0,0,0,0,0,0,0,0,0] (.seq (.seq (.reg [⟨some 7,none,.mv (.t 4)⟩,⟨some 8,none,.bin .lss false (.t 7) (.c (.int .i64 10))⟩,⟨some 9,none,.mv (.t 8)⟩,⟨(some 10),(some (9,true)),(.load true 1 (.t 3))⟩,⟨(some 11),(some (9,true)),(.call 55 [(.t 10)])⟩,⟨(some 12),(some (9,true)),(.un .not (.t 11))⟩,⟨some 13,none,.pick (.t 9) (.t 12) (.c (.bool false))⟩]) (.cond (.t 13) .skip (.exit 0))) (.seq (.block 1 (.dreg [[],[],[1],[2,1],[0,3,2,1],[4,0,3,2,1]] [⟨some 16,none,.load true 1 (.t 3)⟩,⟨some 17,none,.load true 1 (.t 3)⟩,⟨some 18,none,.call 84 [(.t 17)]⟩,⟨(some 19),none,(.call 140 [(.t 18),(.c (.str ⟨#[88]⟩))])⟩,⟨some 20,none,.call 98 [(.t 16),(.t 19)]⟩,⟨none,none,(.store 1 (.t 3) (.t 20))⟩])) (.reg [⟨some 14,none,.mv (.t 4)⟩,⟨some 15,none,.bin .add false (.t 14) (.c (.int .i64 1))⟩,⟨some 4,none,.mv (.t 15)⟩])))))) (.seq (.reg [⟨some 21,none,.load true 1 (.t 3)⟩,⟨none,none,(.store 1 (.t 2) (.t 21))⟩]) .ret))))
theorem Om:codeOf Tryz.prog 93=some ⟨22,IA,[(.cell 2 true 1)]⟩:=by kernel_rfl
theorem Fv:modes 93=⟨[],.own [some (73,3)],none,false⟩:=by unfold modes; rfl
theorem Wv (c:Cl) (hc:c.ok=true):E 93 [c.sv] []=some ((nz 10 c).osv,(nz 10 c).obs):=by
 have hl:=Cl.ok_len hc
 have h1:=U5 c (by omega) (fun x hx=>by have:=Tm.C5 (Cl.CZ hc x hx); omega)
 have hcs:∀ d:Cl,Cl.osv d=.agg [.ref 0]:=fun d=>rfl
 have hob:∀ d:Cl,Cl.obs d=[.row 73 3 (d.lits.map Lt.o)]:=fun d=>rfl
 have hsv:∀ d:Cl,d.sv=.agg [.arr (d.lits.map Lt.d)]:=fun d=>rfl
 rw [hcs,hob] at h1
 rw [hcs,hob]
 refine Ah Om Fv (of_decide_eq_true rfl) ?_
 simp (disch:=omega) only [IA,go_sem,Aa,h1,H4]
 refine go_loop (α:=Int × Cl) (fun a=>⟨slots 22 0 [(2,.ptr 0 0),(3,.ptr 1 0),(4,.int .i64 a.1)],[.box 28 [.nil],.box 28 [.ref 2],.row 73 3 (a.2.lits.map Lt.o)]⟩) (fun a=>∃ k:Nat,a.1=k∧k≤10∧a.2.ok=true∧nz (10-k) a.2=nz 10 c) (fun a=>10-a.1.toNat) (0,c) ⟨0,rfl,Nat.zero_le _,hc,rfl⟩ (by simp (disch:=omega) only [go_sem,Aa]) ?_
 rintro ⟨i,d⟩ ⟨k,hi,hk,hd,hR⟩
 dsimp only at hi hd hR
 have n1:=Kx d hd
 have n2:=Tz d hd
 have n3:=Yw d.ns (by have:=Cl.Ri hd; omega) ⟨#[88]⟩ (by decide +kernel)
 have n4:=Pj d hd (He ⟨#[88]⟩ d.ns) (Cl.xE hd)
 rw [show Ct [] (Lt.vsL d.lits)=d.ns from rfl] at n2
 rw [hcs,hob] at n4
 rw [hsv] at n1 n2 n4
 have her:=Lt.erss d.lits
 rcases Nat.lt_or_ge k 10 with hlt | hge
 ·obtain ⟨m,hm⟩:∃ m,10-k=m+1:=⟨9-k,by omega⟩
  rw [hm,nz] at hR
  cases hn:d.norm with
  | true =>
   rw [hn,cond_true] at hR
   rw [hn] at n1
   rw [←hR]
   simp (disch:=omega) only [go_sem,Aa,n1,n2,n3,n4,her,Lt.noss,Lt.fus,Co,DS,Ez,CG]
  | false =>
   rw [hn,cond_false] at hR
   rw [hn] at n1
   simp (disch:=omega) only [go_sem,Aa,n1,n2,n3,n4,her,Lt.noss,Lt.fus,Co,DS,Ez,CG]
   refine ⟨(i+1,d.rn (He Si d.ns)),⟨k+1,by dsimp only; omega,by omega,Cl.QbU (Cl.xE hd) hd,by rw [show 10-(k+1)=m by omega]; exact hR⟩,by dsimp only; omega,?_⟩
   first | trivial | rfl
 ·obtain rfl:k=10:=by omega
  have hR:d=nz 10 c:=hR
  rw [←hR]
  simp (disch:=omega) only [go_sem,Aa,n1,n2,n3,n4,her,Lt.noss,Lt.fus,Co,DS,Ez,CG]
theorem T2 {α β:Type} (g:α→β):∀ (l:List α) (i:Nat),(l.map g).eraseIdx i=(l.eraseIdx i).map g
 | [],i=>by cases i <;> rfl
 | a :: l,0=>rfl
 | a :: l,i+1=>by
  show g a :: (l.map g).eraseIdx i=g a :: (l.eraseIdx i).map g
  rw [T2 g l i]
noncomputable def Lt.ds (l:List Lt):List (List OT):=l.map fun b=>b.d.map D.ot
theorem Lt.Qeh (l:List Lt):OT.erss (Lt.ds l)=l.map Lt.d:=Lt.der l
theorem Lt.Qei (l:List Lt):OT.AN (Lt.ds l)=true:=Lt.dfu l
theorem Lt.QbX (a:List Lt):(Lt.ds a).length=a.length:=by unfold Lt.ds; rw [List.length_map]
theorem Lt.Qem (a:List Lt):((a.map Lt.d).map fun x=>x.map D.ot)=Lt.ds a:=by unfold Lt.ds; rw [List.map_map]; rfl
theorem BV:modes 95=⟨[],.asis,some NO,false⟩:=by unfold modes; rfl
theorem BR:modes 94=⟨[true],.asis,some KX,false⟩:=by unfold modes; rfl
theorem Qa2 (xs:List Lt) (h0:xs≠[]) (h:xs.length≤1048576):E 95 [.arr (xs.map Lt.d)] []=some (.ref 0,[.row 73 3 (Lt.ds xs)]):=by
 rw [Jc (g:=NO) (congrArg FM.ext BV)]
 unfold NO
 simp only
 rw [Ay ⟨by simpa using h0,by simpa using h,fun e he=>by obtain ⟨b,_,rfl⟩:=List.mem_map.1 he; rfl⟩,cond_true,Lt.Qem]
theorem Yx (xs:List Lt) (i:Int) (h0:0≤i) (h1:i.toNat<xs.length) (h:xs.length≤1048576):E 94 [.ref 0,.int .i64 i,.int .i64 (i+1)] [.row 73 3 (Lt.ds xs)]=some (.ref 1,[.gone,.row 73 3 (Lt.ds (xs.eraseIdx i.toNat))]):=by
 rw [Jc (g:=KX) (congrArg FM.ext BR)]
 unfold KX
 simp only
 rw [Ay ⟨trivial,h0,by rw [Lt.QbX]; exact h1,trivial,by rw [Lt.QbX]; omega⟩,cond_true]
 unfold Lt.ds
 rw [T2]
def Kz:SC:=(.seq (.reg [⟨some 2,none,.boxv 28 1 (.t 0)⟩,⟨some 4,none,.mv (.c .nil)⟩]) (.seq (.reg [⟨some 5,none,.faddr 0 (.t 2)⟩,⟨some 6,none,.load false 1 (.t 5)⟩,⟨some 7,none,.call 95 [(.t 6)]⟩,⟨some 8,none,.mv (.t 1)⟩,⟨some 9,none,.mv (.t 1)⟩,⟨some 10,none,.bin .add false (.t 9) (.c (.int .i64 1))⟩,⟨some 11,none,.call 94 [(.t 7),(.t 8),(.t 10)]⟩,⟨some 4,none,.mv (.t 11)⟩]) .ret))
theorem Rn:codeOf Tryz.prog 59=some ⟨12,Kz,[(.tmp 4)]⟩:=by kernel_rfl
theorem K0:modes 59=⟨[],.own [some (73,3)],none,false⟩:=by unfold modes; rfl
theorem Qa3 (c:Cl) (hl:c.lits.length≤1048575) (i:Int) (h0:0≤i) (h1:i.toNat<c.lits.length):E 59 [c.sv,.int .i64 i] []=some (.ref 0,[.row 73 3 (Lt.ds (c.lits.eraseIdx i.toNat))]):=by
 have hcs:c.sv=.agg [.arr (c.lits.map Lt.d)]:=rfl
 have h2:=Qa2 c.lits (fun e=>by rw [e] at h1; simp at h1) (by omega)
 have h3:=Yx c.lits i h0 h1 (by omega)
 refine Ah Rn K0 (of_decide_eq_true rfl) ?_
 simp (disch:=omega) only [Kz,go_sem,Aa,h2,h3,BV,BR]
def bdLe (x y:Bd):Bool:=!strLt y.var x.var
def FP:List Bd→Bd→List Bd
 | [],b=>[b]
 | x :: xs,b=>bif strLt x.var b.var then x :: FP xs b else b :: x :: xs
theorem Lj (b:Bd):∀ xs:List Bd,(FP xs b).Perm (b :: xs)
 | []=>.refl _
 | x :: xs=>by
  rw [FP]
  cases strLt x.var b.var with
  | true=>exact ((Lj b xs).cons x).trans (.swap b x xs)
  | false=>exact .refl _
theorem Ro {a b c:Bd} (h:bdLe a b=true) (k:bdLe b c=true):bdLe a c=true:=by
  unfold bdLe at *
  cases hq:strLt c.var a.var with
  | false=>rfl
  | true =>
    cases hb:strLt b.var a.var with
    | true=>rw [hb] at h; cases h
    | false =>
      cases hc:strLt c.var b.var with
      | true=>rw [hc] at k; cases k
      | false =>
        cases hab:strLt a.var b.var with
        | true=>rw [Kr hq hab] at hc; cases hc
        | false =>
          have:=Kq hab hb
          rw [this] at hq; rw [hq] at hc; cases hc
theorem Yy (a b:Bd):(bdLe a b || bdLe b a)=true:=by
 unfold bdLe
 cases h:strLt b.var a.var with
 | false=>rfl
 | true=>rw [Kp h]; rfl
theorem OP (b:Bd):∀ xs:List Bd,xs.Pairwise (fun x y=>bdLe x y=true)→(FP xs b).Pairwise fun x y=>bdLe x y=true
  | [],_=>by simp [FP]
  | x :: xs,h=>by
    rw [FP]
    rw [List.pairwise_cons] at h
    cases hq:strLt x.var b.var with
    | true =>
      rw [cond_true,List.pairwise_cons]
      refine ⟨fun y hy=>?_,OP b xs h.2⟩
      rcases List.mem_cons.1 ((Lj b xs).mem_iff.1 hy) with rfl | hy
      · unfold bdLe; rw [Kp hq]; rfl
      · exact h.1 y hy
    | false =>
      have hb:bdLe b x=true:=by unfold bdLe; rw [hq]; rfl
      rw [cond_false,List.pairwise_cons,List.pairwise_cons]
      refine ⟨fun y hy=>?_,h⟩
      rcases List.mem_cons.1 hy with rfl | hy
      · exact hb
      · exact Ro hb (h.1 y hy)
def If (xs ys:List Bd):List Bd:=ys.foldl FP xs
theorem On:∀ (ys xs:List Bd),(If xs ys).Perm (xs++ys)
 | [],xs=>by simp [If]
 | y :: ys,xs=>by
  have h:=On ys (FP xs y)
  simp only [If,List.foldl_cons] at h ⊢
  refine h.trans ?_
  have h2:(FP xs y++ys).Perm ((y :: xs)++ys):=(Lj y xs).append_right ys
  exact h2.trans List.perm_middle.symm
theorem OQ:∀ (ys xs:List Bd),xs.Pairwise (fun x y=>bdLe x y=true)→(If xs ys).Pairwise fun x y=>bdLe x y=true
 | [],xs,h=>h
 | y :: ys,xs,h=>by
  simp only [If,List.foldl_cons]
  exact OQ ys (FP xs y) (OP y xs h)
theorem QbY (xs a b:List Bd):If xs (a++b)=If (If xs a) b:=List.foldl_append
theorem Qa4 {ys:List Bd} (hn:(ys.map Bd.var).Nodup):If [] ys=ys.mergeSort bdLe:=by
 have h1:(If [] ys).Perm ys:=by simpa using On ys []
 have h2:(ys.mergeSort bdLe).Perm ys:=List.mergeSort_perm _ _
 refine List.Perm.eq_of_pairwise (le:=fun x y=>bdLe x y=true) ?_ (OQ ys [] List.Pairwise.nil) (List.pairwise_mergeSort (le:=bdLe) (fun _ _ _ h k=>Ro h k) Yy ys) (h1.trans h2.symm)
 intro a b ha hb hab hba
 unfold bdLe at hab hba
 have e:a.var=b.var:=Kq (by simpa using hba) (by simpa using hab)
 have ha:=h1.mem_iff.1 ha
 have hb:=h2.mem_iff.1 hb
 obtain ⟨i,hi,rfl⟩:=List.getElem_of_mem ha
 obtain ⟨j,hj,rfl⟩:=List.getElem_of_mem hb
 have hij:i=j:=(List.getElem_inj (h₀:=by simpa using hi) (h₁:=by simpa using hj) hn).1 (by simpa using e)
 subst hij; rfl
theorem Ww (b:Bd):∀ xs:List Bd,FP xs b=xs.take (Bl xs b.var)++b :: xs.drop (Bl xs b.var)
 | []=>by simp [FP,Bl]
 | x :: xs=>by
  rw [FP,Bl]
  cases h:strLt x.var b.var with
  | true=>rw [cond_true,Ww b xs]; simp
  | false=>simp
noncomputable def C6 (u:Sb) (b:Bd):Option Bd:=bif dec ((b.term.ap u.look).name=b.var) then none else some ⟨b.var,b.term.ap u.look⟩
noncomputable def Hg (s u:Sb):List Bd:=s.binds.filterMap (C6 u)
noncomputable def Z9 (s u:Sb):List Bd:=u.binds.filter fun b=>!D8 s.binds b.var
noncomputable def Cj (s u:Sb):List Bd:=Hg s u++Z9 s u
noncomputable def Ce (s u:Sb):Sb:=⟨(Cj s u).mergeSort bdLe⟩
theorem Mh:∀ {xs:List Bd},MT xs→(xs.map Bd.var).Nodup:=by
 intro xs h
 unfold List.Nodup
 rw [List.pairwise_iff_getElem]
 intro i j hi hj hij e
 rw [List.length_map] at hj
 have:=h i j hij hj
 simp only [List.getElem_map] at e
 rw [e,GV] at this
 cases this
theorem Wx {xs:List Bd} (hs:MT xs) (n:ByteArray):D8 xs n=xs.any fun b=>dec (b.var=n):=by
 rw [←QG,QW hs]
 cases D8 xs n with
 | true=>rw [if_pos rfl]; exact (Ay (by omega)).symm
 | false=>rw [if_neg (by simp)]; exact (A8 (by omega)).symm
theorem T3 {s u:Sb} {b:Bd} (h:b∈Hg s u):∃ c∈s.binds,b.var=c.var∧b.term=c.term.ap u.look:=by
 obtain ⟨c,hc,h⟩:=List.mem_filterMap.1 h
 refine ⟨c,hc,?_⟩
 unfold C6 at h
 cases hq:dec ((c.term.ap u.look).name=c.var) with
 | true=>rw [hq] at h; cases h
 | false=>rw [hq] at h; obtain rfl:=Option.some.inj h; exact ⟨rfl,rfl⟩
theorem K1 (u:Sb):∀ xs:List Bd,((xs.filterMap (C6 u)).map Bd.var).Sublist (xs.map Bd.var)
  | []=>.slnil
  | x :: xs=>by
    rw [List.filterMap_cons,List.map_cons]
    have h:=K1 u xs
    cases hq:C6 u x with
    | none=>exact h.cons _
    | some c =>
      have e:c.var=x.var:=by
        unfold C6 at hq
        cases hd:dec ((x.term.ap u.look).name=x.var) with
        | true=>rw [hd] at hq; cases hq
        | false=>rw [hd] at hq; obtain rfl:=Option.some.inj hq; rfl
      simp only [List.map_cons,e]
      exact h.cons_cons _
theorem Na {s u:Sb} (hs:MT s.binds) (hu:MT u.binds):((Cj s u).map Bd.var).Nodup:=by
 unfold Cj
 rw [List.map_append,List.nodup_append]
 refine ⟨(K1 u s.binds).nodup (Mh hs),(List.Sublist.map _ List.filter_sublist).nodup (Mh hu),fun a ha b hb e=>?_⟩
 subst e
 obtain ⟨x,hx,rfl⟩:=List.mem_map.1 ha
 obtain ⟨y,hy,e⟩:=List.mem_map.1 hb
 obtain ⟨c,hc,h1,_⟩:=T3 hx
 have hy2:=(List.mem_filter.1 hy).2
 rw [Wx hs,Bool.not_eq_true'] at hy2
 have:=List.any_eq_false.1 hy2 c hc
 exact this (Ay (by rw [←h1,e]))
theorem Rp (s u:Sb):(Cj s u).length≤s.binds.length+u.binds.length:=by
 unfold Cj Hg Z9
 rw [List.length_append]
 have h1:=List.length_filterMap_le (C6 u) s.binds
 have h2:=List.length_filter_le (fun b=>!D8 s.binds b.var) u.binds
 omega
mutual
def Tm.wt:Tm→Nat
 | .mk name args=>1+Tm.wtS args
def Tm.wtS:List Tm→Nat
 | []=>0
 | x :: xs=>Tm.wt x+Tm.wtS xs
end
theorem Tm.wt_eq (x:Tm):x.wt=1+Tm.wtS x.args:=by
 obtain ⟨name,args⟩:=x
 rw [Tm.wt]; rfl
mutual
noncomputable def Tm.mk1:Tm→Int→Tm × Int
 | .mk name args,k=>((Tm.mk (Hr k) ((Tm.mkS args (k+1)).1)),(Tm.mkS args (k+1)).2)
noncomputable def Tm.mkS:List Tm→Int→List Tm × Int
 | [],k=>([],k)
 | x :: xs,k=>((Tm.mk1 x k).1 :: (Tm.mkS xs (Tm.mk1 x k).2).1,(Tm.mkS xs (Tm.mk1 x k).2).2)
end
theorem Tm.mk1_eq (x:Tm) (k:Int):x.mk1 k=((Tm.mk (Hr k) ((Tm.mkS x.args (k+1)).1)),(Tm.mkS x.args (k+1)).2):=by
 obtain ⟨name,args⟩:=x
 rw [Tm.mk1]; rfl
theorem Tm.mk1_d (x:Tm) (k:Int):Tm.d (x.mk1 k).1=[.str (Hr k),.arr ((Tm.mkS x.args (k+1)).1.map Tm.d)]:=by
 rw [Tm.mk1_eq,Tm.d_eq]
 try rfl
theorem Tm.mk1_o (x:Tm) (k:Int):Tm.o (x.mk1 k).1=[.str (Hr k),.ow ((Tm.mkS x.args (k+1)).1.map Tm.o)]:=by
 rw [Tm.mk1_eq,Tm.o_eq]
 try rfl
theorem Tm.Mi:∀ (xs:List Tm) (k:Int),(∀ x∈xs,∀ k,(x.mk1 k).2=k+x.wt)→(Tm.mkS xs k).2=k+Tm.wtS xs
 | [],k,_=>by simp [Tm.mkS,Tm.wtS]
 | x :: xs,k,h=>by
  rw [Tm.mkS,Tm.wtS]
  have h1:=h x (by simp) k
  have h2:=Tm.Mi xs (x.mk1 k).2 fun y hy=>h y (by simp [hy])
  dsimp only
  omega
theorem Tm.mk1_end (x:Tm) (k:Int):(x.mk1 k).2=k+x.wt:=by
 rw [Tm.mk1_eq,Tm.wt_eq]
 have h:=fun k=>Tm.Mi x.args k fun y hy k=>Tm.mk1_end y k
 simp only [h]
 omega
termination_by SizeOf.sizeOf x
decreasing_by exact Tm.Aw hy
theorem Tm.mkS_end (xs:List Tm) (k:Int):(Tm.mkS xs k).2=k+Tm.wtS xs:=Tm.Mi xs k fun x _ k=>Tm.mk1_end x k
theorem Tm.Yz:∀ xs:List Tm,(∀ x∈xs,x.wt≤5*(1+x.bulk))→Tm.wtS xs≤5*(xs.length+Tm.sumB xs)
 | [],_=>by simp [Tm.wtS]
 | x :: xs,h=>by
  have h1:=h x (by simp)
  have h2:=Tm.Yz xs fun y hy=>h y (by simp [hy])
  rw [Tm.wtS,Tm.sumB]; simp only [List.length_cons]; omega
theorem Tm.wt_bulk (x:Tm):x.wt≤5*(1+x.bulk):=by
 rw [Tm.wt_eq,Tm.bulk_eq]
 have h:=Tm.Yz x.args fun y hy=>Tm.wt_bulk y
 omega
termination_by SizeOf.sizeOf x
decreasing_by exact Tm.Aw hy
theorem Tm.wtS_bulk (xs:List Tm):Tm.wtS xs≤5*(xs.length+Tm.sumB xs):=Tm.Yz xs fun x _=>Tm.wt_bulk x
theorem Tm.length_wt:∀ xs:List Tm,xs.length≤Tm.wtS xs
 | []=>Nat.le_refl _
 | x :: xs=>by
  have:=Tm.length_wt xs
  have:=Tm.wt_eq x
  rw [Tm.wtS]; simp only [List.length_cons]; omega
def IB:SC:=(.seq (.reg [⟨some 4,none,.mv (.c (.int .i64 0))⟩]) (.seq (.seq (.reg [⟨some 5,none,.mv (.c (.int .i64 0))⟩]) (.block 0 (.loop [1,1,0,0,0,1,0,0,0,0,0,0,0,0,0,0,0,0,0,0,0,0,0,0,0,0,0,0] (.seq (.seq (.reg [⟨some 6,none,.mv (.t 5)⟩,⟨some 7,none,.mv (.t 0)⟩,⟨some 8,none,.len false (.t 7)⟩,⟨some 9,none,.bin .lss false (.t 6) (.t 8)⟩]) (.cond (.t 9) .skip (.exit 0))) (.seq (.block 1 (.seq (.reg [⟨some 12,none,.mv (.t 0)⟩,⟨some 13,none,.mv (.t 5)⟩,⟨some 14,none,.mv (.t 1)⟩,⟨some 15,none,.call 61 [(.t 14)]⟩,⟨some 16,none,.iaddr 2 (.t 12) (.t 13)⟩,⟨some 17,none,.faddr 0 (.t 16)⟩,⟨none,none,(.store 1 (.t 17) (.t 15))⟩]) (.seq (.reg [⟨some 18,none,.mv (.t 1)⟩,⟨some 19,none,.bin .add false (.t 18) (.c (.int .i64 1))⟩,⟨some 1,none,.mv (.t 19)⟩]) (.reg [⟨some 20,none,.mv (.t 0)⟩,⟨some 21,none,.mv (.t 5)⟩,⟨some 22,none,.iaddr 2 (.t 20) (.t 21)⟩,⟨some 23,none,.faddr 1 (.t 22)⟩,⟨some 24,none,.load false 1 (.t 23)⟩,⟨some 25,none,.mv (.t 1)⟩,⟨some 26,none,.call 62 [(.t 24),(.t 25)]⟩,⟨some 1,none,.mv (.t 26)⟩])))) (.reg [⟨some 10,none,.mv (.t 5)⟩,⟨some 11,none,.bin .add false (.t 10) (.c (.int .i64 1))⟩,⟨some 5,none,.mv (.t 11)⟩])))))) (.seq (.reg [⟨some 27,none,.mv (.t 1)⟩,⟨some 4,none,.mv (.t 27)⟩]) .ret)))
theorem Oo:codeOf Tryz.prog 62=some ⟨28,IB,[(.tmp 4)]⟩:=by kernel_rfl
theorem Fw:modes 62=⟨[true],.asis,none,true⟩:=by unfold modes; rfl
abbrev H5 (xs:List Tm):Prop:=∀ (k:Int) (ob:List Ob),1≤k→k+Tm.wtS xs≤1099511627776→toTree ob=[.tree (xs.map Tm.o) []]→E 62 [.ref 0,.int .i64 k] ob=some (.int .i64 (Tm.mkS xs k).2,[.tree ((Tm.mkS xs k).1.map Tm.o) []])
theorem K2 (xs:List Tm) (ih:∀ x∈xs,H5 x.args):H5 xs:=by
 intro k0 ob h1 h2 hob
 have hlen:ob.length=1:=by rw [←IT,hob]; rfl
 have hL:=Tm.length_wt xs
 refine Ah Oo Fw (of_decide_eq_true rfl) ?_
 simp (disch:=omega) only [IB,go_sem,Aa,hob,hlen]
 refine go_loop (α:=Int × (Int) × (List Tm)) (fun a=>⟨slots 28 0 [(0,.ref 0),(1,.int .i64 (a.2.1)),(5,.int .i64 (a.1))],[.tree (((a.2.2)++xs.drop (a.1).toNat).map Tm.o) []]⟩) (fun a=>∃ k:Nat,a.1=k∧k≤(xs).length∧(a.2.2).length=k∧1≤(a.2.1)∧(a.2.1)+Tm.wtS (xs.drop k)=k0+Tm.wtS xs∧Tm.mkS xs k0=((a.2.2)++(Tm.mkS (xs.drop k) (a.2.1)).1,(Tm.mkS (xs.drop k) (a.2.1)).2)) (fun a=>(xs).length-(a.1).toNat) (0,k0,[]) ⟨0,rfl,Nat.zero_le _,rfl,h1,by rw [List.drop_zero],by simp⟩ (by simp (disch:=omega) only [go_sem,Aa,Int.toNat_zero]) ?_
 rintro ⟨i,kk,dn⟩ ⟨k,hi,hk,hR⟩
 dsimp only at hi hR
 have hni:i.toNat=k:=by omega
 have hni1:(i+1).toNat=k+1:=by omega
 rcases Nat.lt_or_ge k (xs).length with hlt | hge
 ·obtain ⟨hd,hk1,hkn,hm⟩:=hR
  have hdr:xs.drop k=xs[k] :: xs.drop (k+1):=List.drop_eq_getElem_cons hlt
  have hel:(dn++xs.drop k).length=xs.length:=by simp; omega
  have hg:(List.map Tm.o (dn++xs.drop k))[k]?=some [.str xs[k].name,.ow (xs[k].args.map Tm.o)]:=by
   rw [←Tm.o_eq,hdr,List.getElem?_map,List.getElem?_append_right (by omega),hd,Nat.sub_self]; rfl
  rw [hdr,Tm.wtS] at hkn
  rw [hdr,Tm.mkS] at hm
  have hn1:=Tm.wt_eq xs[k]
  have e1:=Tm.mkS_end xs[k].args ((kk+1))
  have t0:=Jd (k:=kk) (by omega) (by omega)
  have c58:=ih xs[k] (List.getElem_mem hlt) ((kk+1)) [.tree (xs[k].args.map Tm.o) []] (by omega) (by omega) rfl
  have hs:=OK Tm.o dn (xs.drop (k+1)) xs[k] (xs[k].mk1 kk).1 hd
  rw [Tm.mk1_o,← hdr] at hs
  have hgs:∀ a,((List.map Tm.o (dn++xs.drop k)).set k a)[k]?=some a:=fun a=>List.getElem?_set_self (by rw [List.length_map,hel]; exact hlt)
  have he:=Tm.mk1_end xs[k] kk
  have three:∀ z:Int,dec ((3:Int)=0)=false:=fun _=>A8 (by omega)
  simp (disch:=omega) only [go_sem,Aa,hni,hel,hg,t0,c58,Fw,Ex,hgs,List.length_set,List.set_set,hs,three 0]
  refine ⟨(i+1,(xs[k].mk1 kk).2,dn++[(xs[k].mk1 kk).1]),⟨k+1,by dsimp only; omega,hlt,by dsimp only; simp [hd],by dsimp only; omega,by dsimp only; omega,by rw [hm]; simp⟩,by dsimp only; omega,?_⟩
  dsimp only
  rw [hni1,Tm.mk1_eq]
  refine ⟨⟨?_,rfl⟩,rfl⟩
  first | rfl | omega
 ·obtain ⟨hd,hk1,hkn,hm⟩:=hR
  have hdr:xs.drop k=[]:=List.drop_eq_nil_of_le hge
  rw [hdr,Tm.mkS] at hm
  rw [hm]
  simp (disch:=omega) only [go_sem,Aa,hni,hdr,List.append_nil]
theorem Nb (x:Tm):H5 x.args:=K2 x.args fun y hy=>Nb y
termination_by SizeOf.sizeOf x
decreasing_by exact Tm.Aw hy
theorem Wy (xs:List Tm):H5 xs:=K2 xs fun y _=>Nb y
def Lt.wt (x:Lt):Nat:=2+Tm.wtS x.atom.args
theorem Lt.wt_eq (x:Lt):x.wt=2+Tm.wtS x.atom.args:=rfl
noncomputable def Lt.mk1 (x:Lt) (k:Int):Lt × Int:=((Lt.mk (dec (k.tmod 3=0)) (Tm.mk (Hr (k+1)) ((Tm.mkS x.atom.args (k+1+1)).1))),(Tm.mkS x.atom.args (k+1+1)).2)
theorem Lt.mk1_eq (x:Lt) (k:Int):x.mk1 k=((Lt.mk (dec (k.tmod 3=0)) (Tm.mk (Hr (k+1)) ((Tm.mkS x.atom.args (k+1+1)).1))),(Tm.mkS x.atom.args (k+1+1)).2):=rfl
def Lt.wtS:List Lt→Nat
 | []=>0
 | x :: xs=>Lt.wt x+Lt.wtS xs
noncomputable def Lt.mkS:List Lt→Int→List Lt × Int
 | [],k=>([],k)
 | x :: xs,k=>((Lt.mk1 x k).1 :: (Lt.mkS xs (Lt.mk1 x k).2).1,(Lt.mkS xs (Lt.mk1 x k).2).2)
theorem Lt.mk1_d (x:Lt) (k:Int):Lt.d (x.mk1 k).1=[.bool (dec (k.tmod 3=0)),.str (Hr (k+1)),.arr ((Tm.mkS x.atom.args (k+1+1)).1.map Tm.d)]:=by
 rw [Lt.mk1_eq,Lt.d_eq]
 try rfl
theorem Lt.mk1_o (x:Lt) (k:Int):Lt.o (x.mk1 k).1=[.bool (dec (k.tmod 3=0)),.str (Hr (k+1)),.ow ((Tm.mkS x.atom.args (k+1+1)).1.map Tm.o)]:=by
 rw [Lt.mk1_eq,Lt.o_eq]
 try rfl
theorem Lt.mk1_end (x:Lt) (k:Int):(x.mk1 k).2=k+x.wt:=by
 rw [Lt.mk1_eq,Lt.wt_eq]
 first
  |omega
  |(simp only [Tm.mkS_end]; done)
  |(simp only [Tm.mkS_end]; omega)
  |simp
theorem Lt.mkS_end:∀ (xs:List Lt) (k:Int),(Lt.mkS xs k).2=k+Lt.wtS xs
 | [],k=>by simp [Lt.mkS,Lt.wtS]
 | x :: xs,k=>by
  rw [Lt.mkS,Lt.wtS]
  have h1:=Lt.mk1_end x k
  have h2:=Lt.mkS_end xs (x.mk1 k).2
  dsimp only
  omega
theorem Lt.wt_bulk (x:Lt):x.wt≤5*(1+x.bulk):=by
 rw [Lt.wt_eq,Lt.bulk_eq]
 have h0:=Tm.wtS_bulk x.atom.args
 have q1:=Tm.bulk_eq x.atom
 omega
theorem Lt.wtS_bulk:∀ xs:List Lt,Lt.wtS xs≤5*(xs.length+Lt.sumB xs)
 | []=>by simp [Lt.wtS]
 | x :: xs=>by
  have h1:=Lt.wt_bulk x
  have h2:=Lt.wtS_bulk xs
  rw [Lt.wtS,Lt.sumB]; simp only [List.length_cons]; omega
theorem Lt.length_wt:∀ xs:List Lt,xs.length≤Lt.wtS xs
 | []=>Nat.le_refl _
 | x :: xs=>by
  have:=Lt.length_wt xs
  have:=Lt.wt_eq x
  rw [Lt.wtS]; simp only [List.length_cons]; omega
def Gn:SC:=(.seq (.reg [⟨some 4,none,.mv (.c (.int .i64 0))⟩]) (.seq (.seq (.reg [⟨some 5,none,.mv (.c (.int .i64 0))⟩]) (.block 0 (.loop [1,1,0,0,0,1,0,0,0,0,0,0,0,0,0,0,0,0,0,0,0,0,0,0,0,0,0,0,0,0,0,0,0,0,0,0,0,0,0] (.seq (.seq (.reg [⟨some 6,none,.mv (.t 5)⟩,⟨some 7,none,.mv (.t 0)⟩,⟨some 8,none,.len false (.t 7)⟩,⟨some 9,none,.bin .lss false (.t 6) (.t 8)⟩]) (.cond (.t 9) .skip (.exit 0))) (.seq (.block 1 (.seq (.reg [⟨some 12,none,.mv (.t 0)⟩,⟨some 13,none,.mv (.t 5)⟩,⟨some 14,none,.mv (.t 1)⟩,⟨some 15,none,.bin .rem false (.t 14) (.c (.int .i64 3))⟩,⟨some 16,none,.bin .eql false (.t 15) (.c (.int .i64 0))⟩,⟨some 17,none,.iaddr 3 (.t 12) (.t 13)⟩,⟨some 18,none,.faddr 0 (.t 17)⟩,⟨none,none,(.store 1 (.t 18) (.t 16))⟩]) (.seq (.reg [⟨some 19,none,.mv (.t 1)⟩,⟨some 20,none,.bin .add false (.t 19) (.c (.int .i64 1))⟩,⟨some 1,none,.mv (.t 20)⟩]) (.seq (.reg [⟨some 21,none,.mv (.t 0)⟩,⟨some 22,none,.mv (.t 5)⟩,⟨some 23,none,.mv (.t 1)⟩,⟨some 24,none,.call 61 [(.t 23)]⟩,⟨some 25,none,.iaddr 3 (.t 21) (.t 22)⟩,⟨some 26,none,.faddr 1 (.t 25)⟩,⟨some 27,none,.faddr 0 (.t 26)⟩,⟨none,none,(.store 1 (.t 27) (.t 24))⟩]) (.seq (.reg [⟨some 28,none,.mv (.t 1)⟩,⟨some 29,none,.bin .add false (.t 28) (.c (.int .i64 1))⟩,⟨some 1,none,.mv (.t 29)⟩]) (.reg [⟨some 30,none,.mv (.t 0)⟩,⟨some 31,none,.mv (.t 5)⟩,⟨some 32,none,.iaddr 3 (.t 30) (.t 31)⟩,⟨some 33,none,.faddr 1 (.t 32)⟩,⟨some 34,none,.faddr 1 (.t 33)⟩,⟨some 35,none,.load false 1 (.t 34)⟩,⟨some 36,none,.mv (.t 1)⟩,⟨some 37,none,.call 62 [(.t 35),(.t 36)]⟩,⟨some 1,none,.mv (.t 37)⟩])))))) (.reg [⟨some 10,none,.mv (.t 5)⟩,⟨some 11,none,.bin .add false (.t 10) (.c (.int .i64 1))⟩,⟨some 5,none,.mv (.t 11)⟩])))))) (.seq (.reg [⟨some 38,none,.mv (.t 1)⟩,⟨some 4,none,.mv (.t 38)⟩]) .ret)))
theorem Lp:codeOf Tryz.prog 35=some ⟨39,Gn,[(.tmp 4)]⟩:=by kernel_rfl
theorem Gp:modes 35=⟨[true],.asis,none,true⟩:=by unfold modes; rfl
abbrev K3 (xs:List Lt):Prop:=∀ (k:Int) (ob:List Ob),1≤k→k+Lt.wtS xs≤1099511627776→toTree ob=[.tree (xs.map Lt.o) []]→E 35 [.ref 0,.int .i64 k] ob=some (.int .i64 (Lt.mkS xs k).2,[.tree ((Lt.mkS xs k).1.map Lt.o) []])
theorem Nc (xs:List Lt):K3 xs:=by
 intro k0 ob h1 h2 hob
 have hlen:ob.length=1:=by rw [←IT,hob]; rfl
 have hL:=Lt.length_wt xs
 refine Ah Lp Gp (of_decide_eq_true rfl) ?_
 simp (disch:=omega) only [Gn,go_sem,Aa,hob,hlen]
 refine go_loop (α:=Int × (Int) × (List Lt)) (fun a=>⟨slots 39 0 [(0,.ref 0),(1,.int .i64 (a.2.1)),(5,.int .i64 (a.1))],[.tree (((a.2.2)++xs.drop (a.1).toNat).map Lt.o) []]⟩) (fun a=>∃ k:Nat,a.1=k∧k≤(xs).length∧(a.2.2).length=k∧1≤(a.2.1)∧(a.2.1)+Lt.wtS (xs.drop k)=k0+Lt.wtS xs∧Lt.mkS xs k0=((a.2.2)++(Lt.mkS (xs.drop k) (a.2.1)).1,(Lt.mkS (xs.drop k) (a.2.1)).2)) (fun a=>(xs).length-(a.1).toNat) (0,k0,[]) ⟨0,rfl,Nat.zero_le _,rfl,h1,by rw [List.drop_zero],by simp⟩ (by simp (disch:=omega) only [go_sem,Aa,Int.toNat_zero]) ?_
 rintro ⟨i,kk,dn⟩ ⟨k,hi,hk,hR⟩
 dsimp only at hi hR
 have hni:i.toNat=k:=by omega
 have hni1:(i+1).toNat=k+1:=by omega
 rcases Nat.lt_or_ge k (xs).length with hlt | hge
 ·obtain ⟨hd,hk1,hkn,hm⟩:=hR
  have hdr:xs.drop k=xs[k] :: xs.drop (k+1):=List.drop_eq_getElem_cons hlt
  have hel:(dn++xs.drop k).length=xs.length:=by simp; omega
  have hg:(List.map Lt.o (dn++xs.drop k))[k]?=some [.bool xs[k].pos,.str xs[k].atom.name,.ow (xs[k].atom.args.map Tm.o)]:=by
   rw [←Lt.o_eq,hdr,List.getElem?_map,List.getElem?_append_right (by omega),hd,Nat.sub_self]; rfl
  rw [hdr,Lt.wtS] at hkn
  rw [hdr,Lt.mkS] at hm
  have hn1:=Lt.wt_eq xs[k]
  have e2:=Tm.mkS_end xs[k].atom.args ((kk+1+1))
  have t0:=Jd (k:=(kk+1)) (by omega) (by omega)
  have c64:=Wy xs[k].atom.args ((kk+1+1)) [.tree (xs[k].atom.args.map Tm.o) []] (by omega) (by omega) rfl
  have hs:=OK Lt.o dn (xs.drop (k+1)) xs[k] (xs[k].mk1 kk).1 hd
  rw [Lt.mk1_o,← hdr] at hs
  have hgs:∀ a,((List.map Lt.o (dn++xs.drop k)).set k a)[k]?=some a:=fun a=>List.getElem?_set_self (by rw [List.length_map,hel]; exact hlt)
  have he:=Lt.mk1_end xs[k] kk
  have three:∀ z:Int,dec ((3:Int)=0)=false:=fun _=>A8 (by omega)
  simp (disch:=omega) only [go_sem,Aa,hni,hel,hg,t0,c64,Fw,Ex,hgs,List.length_set,List.set_set,hs,three 0]
  refine ⟨(i+1,(xs[k].mk1 kk).2,dn++[(xs[k].mk1 kk).1]),⟨k+1,by dsimp only; omega,hlt,by dsimp only; simp [hd],by dsimp only; omega,by dsimp only; omega,by rw [hm]; simp⟩,by dsimp only; omega,?_⟩
  dsimp only
  rw [hni1,Lt.mk1_eq]
  refine ⟨⟨?_,rfl⟩,rfl⟩
  first | rfl | omega
 ·obtain ⟨hd,hk1,hkn,hm⟩:=hR
  have hdr:xs.drop k=[]:=List.drop_eq_nil_of_le hge
  rw [hdr,Lt.mkS] at hm
  rw [hm]
  simp (disch:=omega) only [go_sem,Aa,hni,hdr,List.append_nil]
theorem Rq (xs:List Lt):K3 xs:=Nc xs
def IC:SC:=(.seq (.reg [⟨some 4,none,.mv (.c (.int .i64 0))⟩]) (.seq (.seq (.reg [⟨some 5,none,.mv (.c (.int .i64 0))⟩]) (.block 0 (.loop [1,1,0,0,0,1,0,0,0,0,0,0,0,0,0,0,0,0,0,0,0,0,0,0,0,0,0,0,0,0,0,0] (.seq (.seq (.reg [⟨some 6,none,.mv (.t 5)⟩,⟨some 7,none,.mv (.t 0)⟩,⟨some 8,none,.len false (.t 7)⟩,⟨some 9,none,.bin .lss false (.t 6) (.t 8)⟩]) (.cond (.t 9) .skip (.exit 0))) (.seq (.block 1 (.seq (.seq (.dreg [[],[],[0,1],[2,0,1],[3,2,0,1],[],[5],[4,3,2,0,1,6,5]] [⟨some 12,none,.mv (.t 0)⟩,⟨some 13,none,.mv (.t 5)⟩,⟨some 14,none,.iaddr 2 (.t 12) (.t 13)⟩,⟨some 15,none,.faddr 0 (.t 14)⟩,⟨some 16,none,.load false 1 (.t 15)⟩,⟨some 17,none,.mv (.t 1)⟩,⟨some 18,none,.call 61 [(.t 17)]⟩,⟨some 19,none,.bin .neq false (.t 16) (.t 18)⟩]) (.cond (.t 19) (.seq (.reg [⟨some 4,none,.mv (.c (.int .i64 (-(0+1))))⟩]) .ret) .skip)) (.seq (.reg [⟨some 20,none,.mv (.t 1)⟩,⟨some 21,none,.bin .add false (.t 20) (.c (.int .i64 1))⟩,⟨some 1,none,.mv (.t 21)⟩]) (.seq (.reg [⟨some 22,none,.mv (.t 0)⟩,⟨some 23,none,.mv (.t 5)⟩,⟨some 24,none,.iaddr 2 (.t 22) (.t 23)⟩,⟨some 25,none,.faddr 1 (.t 24)⟩,⟨some 26,none,.load false 1 (.t 25)⟩,⟨some 27,none,.mv (.t 1)⟩,⟨some 28,none,.call 63 [(.t 26),(.t 27)]⟩,⟨some 1,none,.mv (.t 28)⟩]) (.seq (.reg [⟨some 29,none,.mv (.t 1)⟩,⟨some 30,none,.bin .lss false (.t 29) (.c (.int .i64 0))⟩]) (.cond (.t 30) (.seq (.reg [⟨some 4,none,.mv (.c (.int .i64 (-(0+1))))⟩]) .ret) .skip)))))) (.reg [⟨some 10,none,.mv (.t 5)⟩,⟨some 11,none,.bin .add false (.t 10) (.c (.int .i64 1))⟩,⟨some 5,none,.mv (.t 11)⟩])))))) (.seq (.reg [⟨some 31,none,.mv (.t 1)⟩,⟨some 4,none,.mv (.t 31)⟩]) .ret)))
theorem Oq:codeOf Tryz.prog 63=some ⟨32,IC,[(.tmp 4)]⟩:=by kernel_rfl
theorem Fx:modes 63=⟨[],.asis,none,false⟩:=by unfold modes; rfl
theorem Tm.mkS_len:∀ (xs:List Tm) (k:Int),(Tm.mkS xs k).1.length=xs.length
 | [],k=>by rw [Tm.mkS]
 | x :: xs,k=>by rw [Tm.mkS]; simp only [List.length_cons]; rw [Tm.mkS_len xs]
abbrev H6 (xs:List Tm):Prop:=∀ k:Int,1≤k→k+Tm.wtS xs≤1099511627776→E 63 [.arr ((Tm.mkS xs k).1.map Tm.d),.int .i64 k] []=some (.int .i64 (Tm.mkS xs k).2,[])
theorem K4 (xs:List Tm) (ih:∀ x∈xs,H6 x.args):H6 xs:=by
 intro k0 h1 h2
 obtain ⟨ys,hys⟩:∃ ys,ys=(Tm.mkS xs k0).1:=⟨_,rfl⟩
 have hyl:ys.length=xs.length:=by rw [hys,Tm.mkS_len]
 rw [←hys]
 have hL:=Tm.length_wt xs
 refine Ah Oq Fx (of_decide_eq_true rfl) ?_
 simp (disch:=omega) only [IC,go_sem,Aa]
 refine go_loop (α:=Int × (Int)) (fun a=>⟨slots 32 0 [(0,.arr (ys.map Tm.d)),(1,.int .i64 (a.2)),(5,.int .i64 (a.1))],[]⟩) (fun a=>∃ k:Nat,a.1=k∧k≤(ys).length∧1≤(a.2)∧(a.2)+Tm.wtS (xs.drop k)=k0+Tm.wtS xs∧ys.drop k=(Tm.mkS (xs.drop k) (a.2)).1∧(Tm.mkS xs k0).2=(Tm.mkS (xs.drop k) (a.2)).2) (fun a=>(ys).length-(a.1).toNat) (0,k0) ⟨0,rfl,Nat.zero_le _,h1,by rw [List.drop_zero],by rw [List.drop_zero,List.drop_zero,hys],by rw [List.drop_zero]⟩ (by simp (disch:=omega) only [go_sem,Aa]) ?_
 rintro ⟨i,kk⟩ ⟨k,hi,hk,hR⟩
 dsimp only at hi hR
 have hni:i.toNat=k:=by omega
 have hni1:(i+1).toNat=k+1:=by omega
 rcases Nat.lt_or_ge k (ys).length with hlt | hge
 ·obtain ⟨hk1,hkn,hy,hm⟩:=hR
  have hlx:k<xs.length:=by omega
  have hdr:xs.drop k=xs[k] :: xs.drop (k+1):=List.drop_eq_getElem_cons hlx
  have hdy:=List.drop_eq_getElem_cons hlt
  rw [hdr,Tm.wtS] at hkn
  rw [hdr,Tm.mkS] at hm
  rw [hdr,Tm.mkS,hdy] at hy
  dsimp only at hy hm
  obtain ⟨hy1,hy2⟩:=List.cons.inj hy
  have hg:=get_at Tm.d hlt
  rw [hy1,Tm.mk1_d] at hg
  have hn1:=Tm.wt_eq xs[k]
  have e1:=Tm.mkS_end xs[k].args ((kk+1))
  have t0:=Jd (k:=kk) (by omega) (by omega)
  have c58:=ih xs[k] (List.getElem_mem hlx) ((kk+1)) (by omega) (by omega)
  have he:=Tm.mk1_end xs[k] kk
  simp (disch:=omega) only [go_sem,Aa,hni,hg,Ex,Dr,t0,c58,Fx]
  refine ⟨(i+1,(xs[k].mk1 kk).2),⟨k+1,by dsimp only; omega,hlt,by dsimp only; omega,by dsimp only; omega,hy2,hm⟩,by dsimp only; omega,?_⟩
  dsimp only
  rw [Tm.mk1_eq]
  simp only [and_self,and_true,true_and]
  try omega
 ·obtain ⟨hk1,hkn,hy,hm⟩:=hR
  have hdr:xs.drop k=[]:=List.drop_eq_nil_of_le (by omega)
  rw [hdr,Tm.mkS] at hm
  rw [hm]
  simp (disch:=omega) only [go_sem,Aa,hni]
theorem Nd (x:Tm):H6 x.args:=K4 x.args fun y hy=>Nd y
termination_by SizeOf.sizeOf x
decreasing_by exact Tm.Aw hy
theorem Wz (xs:List Tm):H6 xs:=K4 xs fun y _=>Nd y
def Gq:SC:=(.seq (.reg [⟨some 4,none,.mv (.c (.int .i64 0))⟩]) (.seq (.seq (.reg [⟨some 5,none,.mv (.c (.int .i64 0))⟩]) (.block 0 (.loop [1,1,0,0,0,1,0,0,0,0,0,0,0,0,0,0,0,0,0,0,0,0,0,0,0,0,0,0,0,0,0,0,0,0,0,0,0,0,0,0,0,0,0,0,0] (.seq (.seq (.reg [⟨some 6,none,.mv (.t 5)⟩,⟨some 7,none,.mv (.t 0)⟩,⟨some 8,none,.len false (.t 7)⟩,⟨some 9,none,.bin .lss false (.t 6) (.t 8)⟩]) (.cond (.t 9) .skip (.exit 0))) (.seq (.block 1 (.seq (.seq (.reg [⟨some 12,none,.mv (.t 0)⟩,⟨some 13,none,.mv (.t 5)⟩,⟨some 14,none,.iaddr 3 (.t 12) (.t 13)⟩,⟨some 15,none,.faddr 0 (.t 14)⟩,⟨some 16,none,.load false 1 (.t 15)⟩,⟨some 17,none,.mv (.t 1)⟩,⟨some 18,none,.bin .rem false (.t 17) (.c (.int .i64 3))⟩,⟨some 19,none,.bin .eql false (.t 18) (.c (.int .i64 0))⟩,⟨some 20,none,.bin .neq true (.t 16) (.t 19)⟩]) (.cond (.t 20) (.seq (.reg [⟨some 4,none,.mv (.c (.int .i64 (-(0+1))))⟩]) .ret) .skip)) (.seq (.reg [⟨some 21,none,.mv (.t 1)⟩,⟨some 22,none,.bin .add false (.t 21) (.c (.int .i64 1))⟩,⟨some 1,none,.mv (.t 22)⟩]) (.seq (.seq (.dreg [[],[],[0,1],[2,0,1],[3,2,0,1],[4,3,2,0,1],[],[6],[5,4,3,2,0,1,7,6]] [⟨some 23,none,.mv (.t 0)⟩,⟨some 24,none,.mv (.t 5)⟩,⟨some 25,none,.iaddr 3 (.t 23) (.t 24)⟩,⟨some 26,none,.faddr 1 (.t 25)⟩,⟨some 27,none,.faddr 0 (.t 26)⟩,⟨some 28,none,.load false 1 (.t 27)⟩,⟨some 29,none,.mv (.t 1)⟩,⟨some 30,none,.call 61 [(.t 29)]⟩,⟨some 31,none,.bin .neq false (.t 28) (.t 30)⟩]) (.cond (.t 31) (.seq (.reg [⟨some 4,none,.mv (.c (.int .i64 (-(0+1))))⟩]) .ret) .skip)) (.seq (.reg [⟨some 32,none,.mv (.t 1)⟩,⟨some 33,none,.bin .add false (.t 32) (.c (.int .i64 1))⟩,⟨some 1,none,.mv (.t 33)⟩]) (.seq (.reg [⟨some 34,none,.mv (.t 0)⟩,⟨some 35,none,.mv (.t 5)⟩,⟨some 36,none,.iaddr 3 (.t 34) (.t 35)⟩,⟨some 37,none,.faddr 1 (.t 36)⟩,⟨some 38,none,.faddr 1 (.t 37)⟩,⟨some 39,none,.load false 1 (.t 38)⟩,⟨some 40,none,.mv (.t 1)⟩,⟨some 41,none,.call 63 [(.t 39),(.t 40)]⟩,⟨some 1,none,.mv (.t 41)⟩]) (.seq (.reg [⟨some 42,none,.mv (.t 1)⟩,⟨some 43,none,.bin .lss false (.t 42) (.c (.int .i64 0))⟩]) (.cond (.t 43) (.seq (.reg [⟨some 4,none,.mv (.c (.int .i64 (-(0+1))))⟩]) .ret) .skip)))))))) (.reg [⟨some 10,none,.mv (.t 5)⟩,⟨some 11,none,.bin .add false (.t 10) (.c (.int .i64 1))⟩,⟨some 5,none,.mv (.t 11)⟩])))))) (.seq (.reg [⟨some 44,none,.mv (.t 1)⟩,⟨some 4,none,.mv (.t 44)⟩]) .ret)))
theorem Lr:codeOf Tryz.prog 36=some ⟨45,Gq,[(.tmp 4)]⟩:=by kernel_rfl
theorem Gr:modes 36=⟨[],.asis,none,false⟩:=by unfold modes; rfl
theorem Lt.mkS_len:∀ (xs:List Lt) (k:Int),(Lt.mkS xs k).1.length=xs.length
 | [],k=>by rw [Lt.mkS]
 | x :: xs,k=>by rw [Lt.mkS]; simp only [List.length_cons]; rw [Lt.mkS_len xs]
abbrev K5 (xs:List Lt):Prop:=∀ k:Int,1≤k→k+Lt.wtS xs≤1099511627776→E 36 [.arr ((Lt.mkS xs k).1.map Lt.d),.int .i64 k] []=some (.int .i64 (Lt.mkS xs k).2,[])
theorem Nf (xs:List Lt):K5 xs:=by
 intro k0 h1 h2
 obtain ⟨ys,hys⟩:∃ ys,ys=(Lt.mkS xs k0).1:=⟨_,rfl⟩
 have hyl:ys.length=xs.length:=by rw [hys,Lt.mkS_len]
 rw [←hys]
 have hL:=Lt.length_wt xs
 refine Ah Lr Gr (of_decide_eq_true rfl) ?_
 simp (disch:=omega) only [Gq,go_sem,Aa]
 refine go_loop (α:=Int × (Int)) (fun a=>⟨slots 45 0 [(0,.arr (ys.map Lt.d)),(1,.int .i64 (a.2)),(5,.int .i64 (a.1))],[]⟩) (fun a=>∃ k:Nat,a.1=k∧k≤(ys).length∧1≤(a.2)∧(a.2)+Lt.wtS (xs.drop k)=k0+Lt.wtS xs∧ys.drop k=(Lt.mkS (xs.drop k) (a.2)).1∧(Lt.mkS xs k0).2=(Lt.mkS (xs.drop k) (a.2)).2) (fun a=>(ys).length-(a.1).toNat) (0,k0) ⟨0,rfl,Nat.zero_le _,h1,by rw [List.drop_zero],by rw [List.drop_zero,List.drop_zero,hys],by rw [List.drop_zero]⟩ (by simp (disch:=omega) only [go_sem,Aa]) ?_
 rintro ⟨i,kk⟩ ⟨k,hi,hk,hR⟩
 dsimp only at hi hR
 have hni:i.toNat=k:=by omega
 have hni1:(i+1).toNat=k+1:=by omega
 rcases Nat.lt_or_ge k (ys).length with hlt | hge
 ·obtain ⟨hk1,hkn,hy,hm⟩:=hR
  have hlx:k<xs.length:=by omega
  have hdr:xs.drop k=xs[k] :: xs.drop (k+1):=List.drop_eq_getElem_cons hlx
  have hdy:=List.drop_eq_getElem_cons hlt
  rw [hdr,Lt.wtS] at hkn
  rw [hdr,Lt.mkS] at hm
  rw [hdr,Lt.mkS,hdy] at hy
  dsimp only at hy hm
  obtain ⟨hy1,hy2⟩:=List.cons.inj hy
  have hg:=get_at Lt.d hlt
  rw [hy1,Lt.mk1_d] at hg
  have hn1:=Lt.wt_eq xs[k]
  have e2:=Tm.mkS_end xs[k].atom.args ((kk+1+1))
  have t0:=Jd (k:=(kk+1)) (by omega) (by omega)
  have c64:=Wz xs[k].atom.args ((kk+1+1)) (by omega) (by omega)
  have he:=Lt.mk1_end xs[k] kk
  simp (disch:=omega) only [go_sem,Aa,hni,hg,Ex,Dr,t0,c64,Fx]
  refine ⟨(i+1,(xs[k].mk1 kk).2),⟨k+1,by dsimp only; omega,hlt,by dsimp only; omega,by dsimp only; omega,hy2,hm⟩,by dsimp only; omega,?_⟩
  dsimp only
  rw [Lt.mk1_eq]
  simp only [and_self,and_true,true_and]
  try omega
 ·obtain ⟨hk1,hkn,hy,hm⟩:=hR
  have hdr:xs.drop k=[]:=List.drop_eq_nil_of_le (by omega)
  rw [hdr,Lt.mkS] at hm
  rw [hm]
  simp (disch:=omega) only [go_sem,Aa,hni]
theorem Rr (xs:List Lt):K5 xs:=Nf xs
theorem Qdg {o:Ob} {es:List (List OT)} (h:toTree [o]=[.tree es []]):(∃ a b,o=.row a b es)∨o=.tree es []:=by
 cases o with
 | row a b e=>obtain ⟨h1,h2⟩:=List.cons.inj h; cases h1; exact .inl ⟨a,b,rfl⟩
 | tree e hs=>obtain ⟨h1,h2⟩:=List.cons.inj h; cases h1; exact .inr rfl
 | _=>simp [toTree] at h
noncomputable def Cl.mkr (x:Cl) (k:Int):Cl × Int:=((Cl.mk ((Lt.mkS x.lits k).1)),(Lt.mkS x.lits k).2)
def H7:SC:=(.seq (.reg [⟨some 2,none,.boxv 28 1 (.t 0)⟩,⟨some 4,none,.mv (.c (.int .i64 0))⟩]) (.seq (.reg [⟨some 5,none,.faddr 0 (.t 2)⟩,⟨some 6,none,.load false 1 (.t 5)⟩,⟨some 7,none,.mv (.t 1)⟩,⟨some 8,none,.call 35 [(.t 6),(.t 7)]⟩,⟨some 1,none,.mv (.t 8)⟩]) (.seq (.reg [⟨some 9,none,.mv (.t 1)⟩,⟨some 4,none,.mv (.t 9)⟩]) .ret)))
theorem Ng:codeOf Tryz.prog 13=some ⟨10,H7,[(.tmp 4)]⟩:=by kernel_rfl
theorem CH:modes 13=⟨[true],.asis,none,false⟩:=by unfold modes; rfl
theorem Nh (x:Cl) (k:Int) (o0:Ob) (h1:1≤k) (h2:k+(Lt.wtS x.lits:Nat)≤1099511627776) (t0:toTree [o0]=[.tree (x.lits.map Lt.o) []]):E 13 [.agg [.ref 0],.int .i64 k] [o0]=some (.int .i64 (x.mkr k).2,[.tree ((Lt.mkS x.lits k).1.map Lt.o) []]):=by
 have e0:=Lt.mkS_end x.lits k
 rw [Cl.mkr]
 dsimp only
 have c0:=Rq x.lits k [o0] (by omega) (by omega) t0
 rcases Qdg t0 with ⟨a0,b0,rfl⟩ | rfl <;>
  (
  refine Ah Ng CH (of_decide_eq_true rfl) ?_
  simp (disch:=omega) only [H7,go_sem,Aa,c0,Gp])
def H8:SC:=(.seq (.reg [⟨some 2,none,.boxv 28 1 (.t 0)⟩,⟨some 4,none,.mv (.c (.int .i64 0))⟩]) (.seq (.reg [⟨some 5,none,.faddr 0 (.t 2)⟩,⟨some 6,none,.load false 1 (.t 5)⟩,⟨some 7,none,.mv (.t 1)⟩,⟨some 8,none,.call 36 [(.t 6),(.t 7)]⟩,⟨some 1,none,.mv (.t 8)⟩]) (.seq (.seq (.reg [⟨some 9,none,.mv (.t 1)⟩,⟨some 10,none,.bin .lss false (.t 9) (.c (.int .i64 0))⟩]) (.cond (.t 10) (.seq (.reg [⟨some 4,none,.mv (.c (.int .i64 (-(0+1))))⟩]) .ret) .skip)) (.seq (.reg [⟨some 11,none,.mv (.t 1)⟩,⟨some 4,none,.mv (.t 11)⟩]) .ret))))
theorem Ni:codeOf Tryz.prog 14=some ⟨12,H8,[(.tmp 4)]⟩:=by kernel_rfl
theorem CI:modes 14=⟨[],.asis,none,false⟩:=by unfold modes; rfl
theorem U6 (x:Cl) (k:Int) (h1:1≤k) (h2:k+(Lt.wtS x.lits:Nat)≤1099511627776):E 14 [.agg [.arr ((Lt.mkS x.lits k).1.map Lt.d)],.int .i64 k] []=some (.int .i64 (x.mkr k).2,[]):=by
 have e0:=Lt.mkS_end x.lits k
 rw [Cl.mkr]
 dsimp only
 have c0:=Rr x.lits k (by omega) (by omega)
 refine Ah Ni CI (of_decide_eq_true rfl) ?_
 simp (disch:=omega) only [H8,go_sem,Aa,c0,Gr]
end Go.Proofs.YtibdknkacmimgaaGreatDoor
