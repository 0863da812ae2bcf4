/-
  Texts of this claim, one behind the other, each built on those ahead of it. No condition.
-/
import Derived.Test.YtepbennkcbmgoaaGreatDoorK53c
set_option maxHeartbeats 16000000
open Bool renaming and_eq_true → zA, or_eq_true → z8, and_false → yC, eq_false_iff → yL, true_and → yQ, false_eq_true → yU, and_true → yZ, or_true → y5, not_false → y8, false_and → y9, and_self → xC, false_or → xG, not_true → xH
open List renaming drop_eq_getElem_cons → zB, drop_eq_nil_of_le → zC, getElem_mem → zD, drop_zero → zF, length_cons → zG, eq_nil_of_length_eq_zero → zJ, map_cons → zK, length_map → zL, all_eq_true → zM, mem_cons → zO, foldl_cons → zP, length_nil → zQ, pairwise_cons → zR, length_append → zS, map_nil → zT, getElem_cons_succ → zW, cons_append → zX, getElem_cons_zero → zZ, map_append → z6, nil_append → z7, mem_append → yA, take_zero → yB, getElem?_append_right → yD, length_take → yF, map_map → yG, getElem_of_mem → yH, append_nil → yI, take_succ_eq_append_getElem → yJ, take_of_length_le → yK, getElem?_map → yM, getElem?_set_self → yN, take_length → yO, any_eq_true → yP, drop_succ_cons → yS, take_succ_cons → yT, mem_singleton → yW, pairwise_iff_getElem → yX, foldl_append → yY, all_map → y6, length_set → y7, foldl_nil → xA, map → xB, all_cons → xD, any_cons → xF
open Nat renaming lt_or_ge → zE, zero_le → zH, le_refl → zI, eq_zero_or_pos → zY, zero_add → yE, not_lt → yV
open Option.some renaming injEq → zN
open Int renaming toNat_zero → zU
open Prod.mk renaming injEq → zV
open List.cons renaming injEq → yR, inj → y4
open List.Pairwise renaming nil → xI
set_option maxRecDepth 100000
set_option linter.unusedSimpArgs false
set_option linter.unusedVariables false
set_option linter.unusedSectionVars false
namespace Go.Proofs.YtepbennkcbmgoaaGreatDoor
open Go.RowKit
namespace Wd
def modes:FuncId→FM:=fun _=>⟨[],.asis,none,false⟩
theorem mode (f:FuncId):modes f=⟨[],.asis,none,false⟩:=rfl
theorem MS:@N3 QC Tryz.prog modes:=fun _ _ _ _ _ _ hg _=>by cases hg
noncomputable def E:FEnv:=ev Tryz.prog modes
noncomputable def calls:CallF:=Db modes E
theorem E_told {f:FuncId} {xs:List SV} {ob:List Ob} {r:SV} {ob':List Ob} (h:E f xs ob=some (r,ob')):FunD Tryz.prog f xs ob r ob':=@Qab QC _ _ Qcg MS f xs ob r ob' h
noncomputable def run (n0:Nat):SC→St→Option (X × St):=fr Tryz.prog calls (J4 n0)
def go (n0:Nat) (sc:SC) (st:St) (K:X→St→Prop):Prop:=∃ x st',run n0 sc st=some (x,st')∧K x st'
def Vq (n0:Nat) (b:SC) (K:X→St→Prop):X→St→Prop
 | .normal,st=>go n0 b st K
 | .exit i,st=>K (.exit i) st
 | .ret,st=>K .ret st
def blk (id:Nat) (K:X→St→Prop):X→St→Prop
 | .normal,st=>K .normal st
 | .exit i,st=>if i=id then K .normal st else K (.exit i) st
 | .ret,st=>K .ret st
def RL (r:Option St) (k:X→St→Prop):Prop :=
 match r with
 | some st=>k .normal st
 | none=>False
def RN (anc:List (List Nat)) (r:Option (List Ent × St)) (k:X→St→Prop):Prop :=
 match r with
 | some (es,st)=>obB anc [] (Gt es) 0=true∧k .normal st
 | none=>False
def HW (v:SV) (a b:Unit→Prop):Prop :=
 match v with
 | .bool true=>a ()
 | .bool false=>b ()
 | _=>False
noncomputable def MT (ops:List SOper) (st:St):Option St:=Qm Tryz.prog calls ops st
noncomputable def MU (ops:List SOper) (acc:List Ent) (st:St):Option (List Ent × St):=I1 Tryz.prog calls ops acc st
section
variable {n0:Nat} {st:St} {K:X→St→Prop}
theorem go_skip:go n0 .skip st K=K .normal st:=by
 refine propext ⟨fun ⟨x,st',h,k⟩=>?_,fun k=>⟨_,_,rfl,k⟩⟩
 obtain ⟨rfl,rfl⟩:X.normal=x∧st=st':=by simpa [run,fr] using h
 exact k
theorem QG {i:Nat}:go n0 (.exit i) st K=K (.exit i) st:=by
 refine propext ⟨fun ⟨x,st',h,k⟩=>?_,fun k=>⟨_,_,rfl,k⟩⟩
 obtain ⟨rfl,rfl⟩:X.exit i=x∧st=st':=by simpa [run,fr] using h
 exact k
theorem go_ret:go n0 .ret st K=K .ret st:=by
 refine propext ⟨fun ⟨x,st',h,k⟩=>?_,fun k=>⟨_,_,rfl,k⟩⟩
 obtain ⟨rfl,rfl⟩:X.ret=x∧st=st':=by simpa [run,fr] using h
 exact k
theorem Vr {ops:List SOper}:go n0 (.reg ops) st K=RL (MT ops st) K:=by
 unfold RL MT
 refine propext ⟨fun ⟨x,st',h,k⟩=>?_,fun k=>?_⟩
 ·simp only [run,fr] at h
  split at h
  ·rename_i s hs
   simp only [zN,zV] at h
   obtain ⟨rfl,rfl⟩:=h
   first | exact k | (simp only [hs]; exact k)
  ·cases h
 ·split at k
  ·rename_i s hs
   exact ⟨.normal,s,by simp only [run,fr,hs],k⟩
  ·exact k.elim
theorem QH {anc:List (List Nat)} {ops:List SOper}:go n0 (.dreg anc ops) st K=RN anc (MU ops [] st) K:=by
 unfold RN MU
 refine propext ⟨fun ⟨x,st',h,k⟩=>?_,fun k=>?_⟩
 ·simp only [run,fr] at h
  split at h
  ·rename_i es s hs
   obtain ⟨h1,h2⟩:=As h
   simp only [zN,zV] at h2
   obtain ⟨rfl,rfl⟩:=h2
   first | exact ⟨h1,k⟩ | (simp only [hs]; exact ⟨h1,k⟩)
  ·cases h
 ·split at k
  ·rename_i es s hs
   exact ⟨.normal,s,by simp only [run,fr,hs,k.1,cond_true],k.2⟩
  ·exact k.elim
theorem Vs {a b:SC}:go n0 (.seq a b) st K=go n0 a st (Vq n0 b K):=by
 refine propext ⟨fun ⟨x,st',h,k⟩=>?_,fun ⟨x,st',h,k⟩=>?_⟩
 ·simp only [run,fr,C7] at h
  split at h
  ·rename_i s hs
   exact ⟨.normal,s,hs,x,st',h,k⟩
  ·rename_i i s hs
   simp only [zN,zV] at h
   obtain ⟨rfl,rfl⟩:=h
   exact ⟨_,_,hs,k⟩
  ·rename_i s hs
   simp only [zN,zV] at h
   obtain ⟨rfl,rfl⟩:=h
   exact ⟨_,_,hs,k⟩
  ·cases h
 ·simp only [run] at h
  cases x with
  | normal =>
   obtain ⟨x2,st2,h2,k2⟩:=k
   exact ⟨x2,st2,by simp only [run,fr,C7,h]; exact h2,k2⟩
  | exit i=>exact ⟨_,st',by simp only [run,fr,C7,h],k⟩
  | ret=>exact ⟨_,st',by simp only [run,fr,C7,h],k⟩
theorem ND {id:Nat} {b:SC}:go n0 (.block id b) st K=go n0 b st (blk id K):=by
 refine propext ⟨fun ⟨x,st',h,k⟩=>?_,fun ⟨x,st',h,k⟩=>?_⟩
 ·simp only [run,fr,EW] at h
  split at h
  ·rename_i s hs
   simp only [zN,zV] at h
   obtain ⟨rfl,rfl⟩:=h
   exact ⟨.normal,s,hs,k⟩
  ·rename_i i s hs
   refine ⟨.exit i,s,hs,?_⟩
   simp only [blk]
   by_cases hi:i=id
   ·simp only [if_pos hi,zN,zV] at h ⊢
    obtain ⟨rfl,rfl⟩:=h
    exact k
   ·simp only [if_neg hi,zN,zV] at h ⊢
    obtain ⟨rfl,rfl⟩:=h
    exact k
  ·rename_i s hs
   simp only [zN,zV] at h
   obtain ⟨rfl,rfl⟩:=h
   exact ⟨_,s,hs,k⟩
  ·cases h
 ·simp only [run] at h
  cases x with
  | normal=>exact ⟨_,st',by simp only [run,fr,EW,h],k⟩
  | exit i =>
   simp only [blk] at k
   by_cases hi:i=id
   ·simp only [if_pos hi] at k
    exact ⟨.normal,st',by simp only [run,fr,EW,h,if_pos hi],k⟩
   ·simp only [if_neg hi] at k
    exact ⟨.exit i,st',by simp only [run,fr,EW,h,if_neg hi],k⟩
  | ret=>exact ⟨_,st',by simp only [run,fr,EW,h],k⟩
theorem Ab {q:SX} {a b:SC}:go n0 (.cond q a b) st K=HW (Ay (gets st.sl) q) (fun _=>go n0 a st K) (fun _=>go n0 b st K):=by
 unfold HW
 refine propext ⟨fun ⟨x,st',h,k⟩=>?_,fun k=>?_⟩
 ·simp only [run,fr] at h
  split at h
  ·rename_i t ht
   simp only [ht]
   cases t with
   | true=>exact ⟨x,st',h,k⟩
   | false=>exact ⟨x,st',h,k⟩
  ·cases h
 ·split at k
  ·rename_i ht
   obtain ⟨x,st',h,k⟩:=k
   exact ⟨x,st',by simp only [run,fr,ht,cond_true]; exact h,k⟩
  ·rename_i ht
   obtain ⟨x,st',h,k⟩:=k
   exact ⟨x,st',by simp only [run,fr,ht,cond_false]; exact h,k⟩
  ·exact k.elim
theorem QI {a b:Unit→Prop}:HW (.bool true) a b=a ():=rfl
theorem QJ {a b:Unit→Prop}:HW (.bool false) a b=b ():=rfl
theorem QK {t:Bool} {a b:Unit→Prop}:HW (.bool (!t)) a b=HW (.bool t) b a:=by cases t <;> rfl
theorem Vt {b:SC}:Vq n0 b K .normal st=go n0 b st K:=rfl
theorem Vu {b:SC} {i:Nat}:Vq n0 b K (.exit i) st=K (.exit i) st:=rfl
theorem Vv {b:SC}:Vq n0 b K .ret st=K .ret st:=rfl
theorem Qal {id:Nat}:blk id K .normal st=K .normal st:=rfl
theorem Qam {id i:Nat}:blk id K (.exit i) st=if i=id then K .normal st else K (.exit i) st:=rfl
theorem Qan {id:Nat}:blk id K .ret st=K .ret st:=rfl
theorem QL:RL (some st) K=K .normal st:=rfl
def quiet:List Ent→Bool
 | []=>true
 | ⟨_,_,[],_⟩ :: r=>quiet r
 | ⟨_,_,_ :: _,_⟩ :: _=>false
theorem Hl {anc:List (List Nat)} {rd:List Nat} {j:Nat}:∀ {l:List Ent} {i:Nat},quiet l=true→QV anc rd [] j (Gt l) i=true
 | [],i,_=>rfl
 | ⟨_,_,[],rdi⟩ :: r,i,h=>by
  have:=Hl (anc:=anc) (rd:=rd) (j:=j) (l:=r) (i:=i+1) h
  simp only [Gt,zK,zT] at this ⊢
  simp only [QV,this,yZ]
  have e1:meets [] (rd++[])=false:=rfl
  have e2:meets rdi []=false:=by cases rdi <;> simp [meets]
  rw [e1,e2]; rfl
theorem ON {l l':List Ent} (h:quiet l=true) (h':quiet l'=true):quiet (l++l')=true:=by
 induction l with
 | nil=>exact h'
 | cons x r ih =>
  obtain ⟨a,b,c,d⟩:=x
  cases c with
  | nil=>exact ih h
  | cons _ _=>cases h
theorem IX {anc:List (List Nat)}:∀ {l pre:List Ent} {j:Nat},quiet pre=true→quiet l=true→obB anc (Gt pre) (Gt l) j=true
 | [],pre,j,_,_=>rfl
 | ⟨a,b,[],rd⟩ :: r,pre,j,hp,h=>by
  have e:=IX (anc:=anc) (l:=r) (pre:=pre++[⟨a,b,[],rd⟩]) (j:=j+1) (ON hp rfl) h
  have e2:=Hl (anc:=anc) (rd:=rd) (j:=j) (i:=0) hp
  simp only [Gt,z6,zK,zT] at e e2 ⊢
  simp only [obB,e2,e,xC]
theorem QM {anc:List (List Nat)} {es:List Ent}:RN anc (some (es,st)) K=match quiet es with
  | true=>K .normal st
  | false=>obB anc [] (Gt es) 0=true∧K .normal st:=by
 show (obB anc [] (Gt es) 0=true∧K .normal st)=_
 cases h:quiet es with
 | true=>exact propext ⟨fun h=>h.2,fun h'=>⟨IX (pre:=[]) rfl h,h'⟩⟩
 | false=>rfl
noncomputable def Zi (r:List SOper) (e:Option (Ent × St)):Option St :=
 match e with
 | some (_,st)=>MT r st
 | none=>none
noncomputable def Zj (r:List SOper) (acc:List Ent) (e:Option (Ent × St)):Option (List Ent × St) :=
 match e with
 | some (x,st)=>MU r (acc++[x]) st
 | none=>none
noncomputable def opF (so:SOp) (sl:List SV) (ob:List Ob):Option R3:=fOp Tryz.prog calls so sl ob
theorem NE:MT [] st=some st:=rfl
theorem LJ {d:Option Tmp} {so:SOp} {r:List SOper} {sl:List SV} {ob:List Ob}:MT (⟨d,none,so⟩ :: r) ⟨sl,ob⟩=Zi r (GW d ⟨sl,ob⟩ (opF so sl ob)):=rfl
noncomputable def gdF (d:Option Tmp) (so:SOp) (want:Bool) (sl:List SV) (ob:List Ob) (v:SV):Option (Ent × St) :=
 match v with
 | .bool b=>bif SP b want then GW d ⟨sl,ob⟩ (opF so sl ob) else some (⟨false,.tup [],[],[]⟩,⟨Ew sl d (.tup []),ob⟩)
 | .tup []=>some (⟨false,.tup [],[],[]⟩,⟨Ew sl d (.tup []),ob⟩)
 | _=>none
theorem QN {d:Option Tmp} {k:Nat} {want:Bool} {so:SOp} {r:List SOper} {sl:List SV} {ob:List Ob}:MT (⟨d,some (k,want),so⟩ :: r) ⟨sl,ob⟩=Zi r (gdF d so want sl ob (gets sl k)):=rfl
theorem NF {acc:List Ent}:MU [] acc st=some (acc,st):=rfl
theorem LK {d:Option Tmp} {so:SOp} {r:List SOper} {acc:List Ent} {sl:List SV} {ob:List Ob}:MU (⟨d,none,so⟩ :: r) acc ⟨sl,ob⟩=Zj r acc (GW d ⟨sl,ob⟩ (opF so sl ob)):=rfl
theorem QO {d:Option Tmp} {k:Nat} {want:Bool} {so:SOp} {r:List SOper} {acc:List Ent} {sl:List SV} {ob:List Ob}:MU (⟨d,some (k,want),so⟩ :: r) acc ⟨sl,ob⟩=Zj r acc (gdF d so want sl ob (gets sl k)):=rfl
theorem Vw {r:List SOper} {e:Ent}:Zi r (some (e,st))=MT r st:=rfl
theorem Vx {r:List SOper} {acc:List Ent} {e:Ent}:Zj r acc (some (e,st))=MU r (acc++[e]) st:=rfl
theorem Qao {d:Option Tmp} {so:SOp} {sl:List SV} {ob:List Ob}:gdF d so true sl ob (.bool true)=GW d ⟨sl,ob⟩ (opF so sl ob):=rfl
theorem Vy {d:Option Tmp} {so:SOp} {sl:List SV} {ob:List Ob}:gdF d so false sl ob (.bool false)=GW d ⟨sl,ob⟩ (opF so sl ob):=rfl
theorem Vz {d:Option Tmp} {so:SOp} {sl:List SV} {ob:List Ob}:gdF d so true sl ob (.bool false)=some (⟨false,.tup [],[],[]⟩,⟨Ew sl d (.tup []),ob⟩):=rfl
theorem V3 {d:Option Tmp} {so:SOp} {sl:List SV} {ob:List Ob}:gdF d so false sl ob (.bool true)=some (⟨false,.tup [],[],[]⟩,⟨Ew sl d (.tup []),ob⟩):=rfl
theorem Qap {d:Option Tmp} {so:SOp} {want:Bool} {sl:List SV} {ob:List Ob}:gdF d so want sl ob (.tup [])=some (⟨false,.tup [],[],[]⟩,⟨Ew sl d (.tup []),ob⟩):=rfl
theorem V4 {d:Option Tmp} {x:SV} {rd:List Nat}:GW d st (some (x,[],rd))=some (⟨true,x,[],rd⟩,⟨Ew st.sl d x,st.ob⟩):=rfl
theorem V5 {d:Option Tmp} {x:SV} {q:Nat × Ob} {u:List (Nat × Ob)} {rd:List Nat}:GW d st (some (x,q :: u,rd))=bif UT (Dj st.ob (q :: u)).length (q :: u) then some (⟨true,x,q :: u,rd⟩,⟨Ew st.sl d x,Dj st.ob (q :: u)⟩) else none:=rfl
def KO (ob:List Ob) (xs:List SV) (sel:List Nat) (r:Option (SV × List Ob)) (n:Nat):Option R3 :=
 match r with
 | some (r,fob')=>bif decide (n≤fob'.length) then some (DM sel (Bx sel xs) ob.length r fob') else none
 | none=>none
def Zk (hd:List Bool) (f:FuncId) (xs:List SV) (ob:List Ob) (sel:List Nat) (e:List SV→List Ob→Option (SV × List Ob)) (b:Option (List Ob)):Option R3 :=
 match b with
 | some fob=>bif nodupB sel&&GX ob.length sel&&EU fob.length fob then KO ob xs sel (e (ES hd (Ap ob) sel xs) fob) fob.length else none
 | none=>none
def RO (hd:List Bool) (f:FuncId) (xs:List SV) (ob:List Ob) (sel:List Nat) (e:List SV→List Ob→Option (SV × List Ob)):Option R3:=Zk hd f xs ob sel e (Ej sel ob sel)
theorem NG {f:FuncId} {xs:List SV} {ob:List Ob}:calls f xs ob=Ey (modes f).res (RO (modes f).hand f xs ob (reach ob 64 (ET (modes f).hand xs) []) (E f)):=rfl
theorem V6 {r:Option R3}:Ey .asis r=r:=rfl
theorem V7 {r:Option R3}:Ey .frz r=r:=rfl
theorem V8 {l:List (Option (Nat × Nat))} {r:Option R3}:Ey (.own l) r=r:=rfl
theorem V9 {l:List (Option (Nat × Nat))} {r:Option R3}:Ey (.tr l) r=r:=rfl
theorem VA {l:List Nat} {r:Option R3}:Ey (.frl l) r=r:=rfl
theorem VB {r:R3}:Ey .late (some r)=PG r:=rfl
theorem EI:∀ u:List (Nat × Ob),CR [] u=u
 | []=>rfl
 | (g,o) :: u=>by rw [CR,EI u]; rfl
theorem VC {m:RM} {b:Bool} {u:List (Nat × Ob)} {rd:List Nat}:Ey m (some (.bool b,u,rd))=some (.bool b,u,rd):=by
 cases m <;> first | rfl | (show some (SV.bool b,CR [] u,rd)=_; rw [EI])
theorem VD {m:RM} {k:IntKind} {n:Int} {u:List (Nat × Ob)} {rd:List Nat}:Ey m (some (.int k n,u,rd))=some (.int k n,u,rd):=by
 cases m <;> first | rfl | (show some (SV.int k n,CR [] u,rd)=_; rw [EI])
theorem LL {hd:List Bool} {f:FuncId} {xs:List SV} {ob:List Ob} {e:List SV→List Ob→Option (SV × List Ob)}:RO hd f xs ob [] e=KO ob xs [] (e (ES hd (Ap ob) [] xs) []) 0:=rfl
theorem JA {hd:List Bool} {f:FuncId} {xs:List SV} {ob:List Ob} {g:Nat} {r:List Nat} {e:List SV→List Ob→Option (SV × List Ob)}:RO hd f xs ob (g :: r) e=Zk hd f xs ob (g :: r) e (Ej (g :: r) ob (g :: r)):=rfl
theorem QP {ob:List Ob} {xs:List SV} {r:SV} {fob':List Ob}:KO ob xs [] (some (r,fob')) 0=some (DM [] (Bx [] xs) ob.length r fob'):=rfl
theorem QQ {ob:List Ob} {xs:List SV} {sel:List Nat} {r:SV} {fob':List Ob} {n:Nat}:KO ob xs sel (some (r,fob')) n=bif decide (n≤fob'.length) then some (DM sel (Bx sel xs) ob.length r fob') else none:=rfl
theorem VE {hd:List Bool} {f:FuncId} {xs:List SV} {ob:List Ob} {sel:List Nat} {fob:List Ob} {e:List SV→List Ob→Option (SV × List Ob)}:Zk hd f xs ob sel e (some fob)=bif nodupB sel&&GX ob.length sel&&EU fob.length fob then KO ob xs sel (e (ES hd (Ap ob) sel xs) fob) fob.length else none:=rfl
theorem LM {p:Nat} {r:SV}:DM [] [] p r []=(r.ren (sgp [] p),[],[]):=rfl
def JB {α:Type} (n0:Nat) (keep:List Nat) (H:α→St) (R:α→Prop) (μ:α→Nat) (a:α) (K:X→St→Prop):X→St→Prop
 | .normal,st'=>∃ y,R y∧μ y < μ a∧canon n0 keep st'=H y
 | .exit i,st'=>K (.exit i) st'
 | .ret,st'=>K .ret st'
theorem NH {α:Type} {keep:List Nat} {H:α→St} {R:α→Prop} {μ:α→Nat} {a:α} {st':St}:JB n0 keep H R μ a K .normal st'=∃ y,R y∧μ y < μ a∧canon n0 keep st'=H y:=rfl
theorem NI {α:Type} {keep:List Nat} {H:α→St} {R:α→Prop} {μ:α→Nat} {a:α} {i:Nat} {st':St}:JB n0 keep H R μ a K (.exit i) st'=K (.exit i) st':=rfl
theorem NJ {α:Type} {keep:List Nat} {H:α→St} {R:α→Prop} {μ:α→Nat} {a:α} {st':St}:JB n0 keep H R μ a K .ret st'=K .ret st':=rfl
theorem go_loop {α:Type} {keep:List Nat} {b:SC} (H:α→St) (R:α→Prop) (μ:α→Nat) (a0:α) (hR:R a0) (h0:canon n0 keep st=H a0) (round:∀ a,R a→go n0 b (H a) (JB n0 keep H R μ a K)):go n0 (.loop keep b) st K:=by
 have key:∀ (n:Nat) (a:α) (st:St),μ a≤n→R a→canon n0 keep st=H a→∃ x st',R9 n0 keep (run n0 b) st=some (x,st')∧K x st':=by
  intro n
  induction n with
  | zero =>
   intro a st hn hR hc
   obtain ⟨x,st',h,k⟩:=round a hR
   cases x with
   | normal =>
    obtain ⟨y,_,h2,_⟩:=k
    omega
   | exit i=>exact ⟨_,st',by rw [Ez,hc,h]; rfl,k⟩
   | ret=>exact ⟨_,st',by rw [Ez,hc,h]; rfl,k⟩
  | succ n ih =>
   intro a st hn hR hc
   obtain ⟨x,st',h,k⟩:=round a hR
   cases x with
   | normal =>
    obtain ⟨y,h1,h2,h3⟩:=k
    obtain ⟨x2,st2,h4,k2⟩:=ih y st' (by omega) h1 h3
    exact ⟨x2,st2,by rw [Ez,hc,h]; exact h4,k2⟩
   | exit i=>exact ⟨_,st',by rw [Ez,hc,h]; rfl,k⟩
   | ret=>exact ⟨_,st',by rw [Ez,hc,h]; rfl,k⟩
 exact key (μ a0) a0 st (zI _) hR h0
def JC (n0:Nat) (keep keepO:List Nat) (H:EL→St) (F:X × St) (p:EL):X→St→Prop
 | .normal,st'=>canon n0 keep st'=H p
 | .exit i,st'=>F=(.exit i,canon n0 keepO st')
 | .ret,st'=>F=(.ret,canon n0 keepO st')
def Xn (n0:Nat) (keepO:List Nat) (F:X × St):X→St→Prop
 | .normal,_=>False
 | .exit i,st'=>F=(.exit i,canon n0 keepO st')
 | .ret,st'=>F=(.ret,canon n0 keepO st')
theorem LN {keep keepO:List Nat} {H:EL→St} {F:X × St} {p:EL} {st':St}:JC n0 keep keepO H F p .normal st'=(canon n0 keep st'=H p):=rfl
theorem LO {keep keepO:List Nat} {H:EL→St} {F:X × St} {p:EL} {i:Nat} {st':St}:JC n0 keep keepO H F p (.exit i) st'=(F=(.exit i,canon n0 keepO st')):=rfl
theorem LP {keep keepO:List Nat} {H:EL→St} {F:X × St} {p:EL} {st':St}:JC n0 keep keepO H F p .ret st'=(F=(.ret,canon n0 keepO st')):=rfl
theorem QR {keepO:List Nat} {F:X × St} {i:Nat} {st':St}:Xn n0 keepO F (.exit i) st'=(F=(.exit i,canon n0 keepO st')):=rfl
theorem QS {keepO:List Nat} {F:X × St} {st':St}:Xn n0 keepO F .ret st'=(F=(.ret,canon n0 keepO st')):=rfl
end
def slots:Nat→Nat→List (Nat × SV)→List SV
 | 0,_,_=>[]
 | n+1,k,[]=>.any :: slots n (k+1) []
 | n+1,k,(j,x) :: r=>bif j == k then x :: slots n (k+1) r else .any :: slots n (k+1) ((j,x) :: r)
def Xo (res:RM) (n0:Nat) (rs:List RX) (out:SV × List Ob) (x:X) (st:St):Prop:=fin res n0 rs x st=some out
def Zl (res:RM) (n0:Nat) (r:Option (SV × List Ob)):Option (SV × List Ob) :=
 match r with
 | some (r,ob)=>order res n0 r ob
 | none=>none
def NK (res:RM) (n0:Nat) (ob:List Ob) (r:Option SV):Option (SV × List Ob) :=
 match r with
 | some r0=>Zl res n0 (gc n0 r0 ob)
 | none=>none
theorem VF {res:RM} {n0:Nat} {rs:List RX} {out:SV × List Ob} {sl:List SV} {ob:List Ob}:Xo res n0 rs out .ret ⟨sl,ob⟩=(NK res n0 ob (Nz ⟨sl,ob⟩ rs)=some out):=rfl
theorem VG {res:RM} {n0:Nat} {rs:List RX} {out:SV × List Ob} {sl:List SV} {ob:List Ob}:Xo res n0 rs out .normal ⟨sl,ob⟩=(NK res n0 ob (Nz ⟨sl,ob⟩ rs)=some out):=rfl
theorem QT {res:RM} {n0:Nat} {ob:List Ob} {r:SV}:NK res n0 ob (some r)=Zl res n0 (gc n0 r ob):=rfl
theorem VH {n0:Nat} {r:SV} {ob:List Ob} {res:RM}:Zl res n0 (some (r,ob))=order res n0 r ob:=rfl
theorem Af {f:FuncId} {fc:FC} {hand:List Bool} {res:RM} {tr:Bool} {xs:List SV} {ob:List Ob} {out:SV × List Ob} (hc:codeOf Tryz.prog f=some fc) (hr:modes f=⟨hand,res,none,tr⟩) (hn:xs.length≤fc.nt) (h:go ob.length (HU res fc.sc) ⟨xs++K9 (fc.nt-xs.length),entry tr ob⟩ (Xo res ob.length fc.rs out)):E f xs ob=some out:=by
 obtain ⟨x,st',h1,h2⟩:=h
 unfold E
 rw [Qcq]
 unfold Ha
 rw [hc,hr]
 simp only
 rw [decide_eq_true hn,cond_true]
 have h1:fr Tryz.prog (Db modes (ev Tryz.prog modes)) (J4 ob.length) (HU res fc.sc) ⟨xs++K9 (fc.nt-xs.length),entry tr ob⟩=some (x,st'):=h1
 rw [h1]
 exact h2
end Wd
namespace Wd
attribute [local go_sem] ES Ro SV.isNil Ob.idsB SV.idsB SV.Mh List.getElem?_cons_zero List.getElem?_cons_succ OT.AO OT.C6 OT.full entry toTree TL R2 TK Gg F5 EF WN P3 UU OT.erss OT.ers OT.er OT.BD OT.Dq OT.noSh quiet obB QV Gt meets Iw go_skip QG go_ret Vr QH Vs ND QI QJ QK Vt Vu Vv Qal Qam Qan QL QM NE LJ QN NF LK QO Vw Vx Qao Vy Vz V3 Qap V4 V5 NG V6 V7 V8 V9 VA VB VC VD PG Rw CR seen LL JA QP QQ VE LM DM NH NI NJ VF VG QT VH order opF fOp F0 TH QaU TF TG WM Iz eqK Ay gets Ap Ql Ew Dj LU O4 AR UT SV.cellsN SV.one JZ splice DS SN JY K4 DO BN Cf BF Ka Kb UK eOp.mkEs eOp.addS D.sv OT.sv D.ot HM nodupB reach SV.refs SV.PE SV.ptrs SV.PF Ob.refs Ob.liveB ET Ej SV.back SV.Mi Ob.back HL HT CF Bx B5 GX EU SV.ren SV.LV Ob.ren mkU sgp gc Mk names LW UV UW UX MO YC UZ Va Vb Vd Ve Vf SC.mark PI EV slots Nz US rxV K9 Rv SV.noSh SV.Mg Ob.noSh SV.own SV.R0 F6 cond_true cond_false zG zQ zK zT yS zF List.drop_nil yT yB List.take_nil yI z7 zX xD List.all_nil List.getD_cons_zero List.getD_cons_succ xF List.any_nil List.contains_cons List.contains_nil List.isEmpty_nil List.isEmpty_cons List.flatten_cons List.flatten_nil List.replicate_succ List.replicate_zero List.set_cons_zero List.set_cons_succ Nat.add_zero yE zI zH yZ yQ xC Bool.or_false xG Bool.true_or y5 xH y8 y9 yC decide_true decide_false beq_self_eq_true if_true if_false Option.map_some Option.map_none zN Option.getD_some Option.getD_none Int.toNat_natCast true_and and_true and_self eq_self_iff_true zL yU Bool.true_eq_false zV SV.int.injEq SV.bool.injEq SV.str.injEq SV.agg.injEq SV.tup.injEq SV.arr.injEq yR St.mk.injEq Int.zero_add Qar Qas VI An Aj QdV svK svD Yz svM MV.sv T4 Rt N0 Ru Gv St.app SQ MK.sv LN LO LP QR QS mode
def CI:SC:=(.seq (.reg [⟨some 2,none,.mv (.c (.bool false))⟩]) (.seq (.reg [⟨some 3,none,.mv (.t 0)⟩,⟨some 4,none,.mv (.t 0)⟩,⟨some 5,none,.bin .neq false (.t 3) (.t 4)⟩,⟨some 2,none,.mv (.t 5)⟩]) .ret))
theorem EK:codeOf Tryz.prog 305=some ⟨6,CI,[(.tmp 2)]⟩:=by kernel_rfl
theorem By:modes 305=⟨[],.asis,none,false⟩:=by unfold modes; rfl
def D7:SC:=(.seq (.reg [⟨some 2,none,.mv (.c (.bool false))⟩]) (.seq (.reg [⟨some 3,none,.mv (.t 0)⟩,⟨some 4,none,.mv (.t 0)⟩,⟨some 5,none,.bin .neq false (.t 3) (.t 4)⟩,⟨some 2,none,.mv (.t 5)⟩]) .ret))
theorem Gx:codeOf Tryz.prog 314=some ⟨6,D7,[(.tmp 2)]⟩:=by kernel_rfl
theorem BK:modes 314=⟨[],.asis,none,false⟩:=by unfold modes; rfl
def Bh:SC:=(.seq (.reg [⟨some 4,none,.mv (.c (.int .i64 0))⟩]) (.seq (.reg [⟨some 7,none,.mv (.t 0)⟩,⟨some 8,none,.call 305 [(.t 7)]⟩,⟨some 5,none,.mv (.t 8)⟩]) (.seq (.reg [⟨some 9,none,.mv (.t 1)⟩,⟨some 10,none,.call 305 [(.t 9)]⟩,⟨some 6,none,.mv (.t 10)⟩]) (.seq (.seq (.reg [⟨some 11,none,.mv (.t 5)⟩]) (.cond (.t 11) (.seq (.seq (.reg [⟨some 12,none,.mv (.t 6)⟩]) (.cond (.t 12) (.seq (.reg [⟨some 4,none,.mv (.c (.int .i64 0))⟩]) .ret) .skip)) (.seq (.reg [⟨some 4,none,.mv (.c (.int .i64 (-(0+1))))⟩]) .ret)) .skip)) (.seq (.seq (.reg [⟨some 13,none,.mv (.t 6)⟩]) (.cond (.t 13) (.seq (.reg [⟨some 4,none,.mv (.c (.int .i64 1))⟩]) .ret) .skip)) (.seq (.seq (.reg [⟨some 14,none,.mv (.t 0)⟩,⟨some 15,none,.mv (.t 1)⟩,⟨some 16,none,.bin .lss false (.t 14) (.t 15)⟩]) (.cond (.t 16) (.seq (.reg [⟨some 4,none,.mv (.c (.int .i64 (-(0+1))))⟩]) .ret) .skip)) (.seq (.seq (.reg [⟨some 17,none,.mv (.t 0)⟩,⟨some 18,none,.mv (.t 1)⟩,⟨some 19,none,.bin .gtr false (.t 17) (.t 18)⟩]) (.cond (.t 19) (.seq (.reg [⟨some 4,none,.mv (.c (.int .i64 1))⟩]) .ret) .skip)) (.seq (.reg [⟨some 4,none,.mv (.c (.int .i64 0))⟩]) .ret))))))))
theorem B9:codeOf Tryz.prog 283=some ⟨20,Bh,[(.tmp 4)]⟩:=by kernel_rfl
theorem AH:modes 283=⟨[],.asis,none,false⟩:=by unfold modes; rfl
def B6:SC:=(.seq (.reg [⟨some 4,none,.mv (.c (.int .i64 0))⟩]) (.seq (.reg [⟨some 7,none,.mv (.t 0)⟩,⟨some 8,none,.call 314 [(.t 7)]⟩,⟨some 5,none,.mv (.t 8)⟩]) (.seq (.reg [⟨some 9,none,.mv (.t 1)⟩,⟨some 10,none,.call 314 [(.t 9)]⟩,⟨some 6,none,.mv (.t 10)⟩]) (.seq (.seq (.reg [⟨some 11,none,.mv (.t 5)⟩]) (.cond (.t 11) (.seq (.seq (.reg [⟨some 12,none,.mv (.t 6)⟩]) (.cond (.t 12) (.seq (.reg [⟨some 4,none,.mv (.c (.int .i64 0))⟩]) .ret) .skip)) (.seq (.reg [⟨some 4,none,.mv (.c (.int .i64 (-(0+1))))⟩]) .ret)) .skip)) (.seq (.seq (.reg [⟨some 13,none,.mv (.t 6)⟩]) (.cond (.t 13) (.seq (.reg [⟨some 4,none,.mv (.c (.int .i64 1))⟩]) .ret) .skip)) (.seq (.seq (.reg [⟨some 14,none,.mv (.t 0)⟩,⟨some 15,none,.mv (.t 1)⟩,⟨some 16,none,.bin .lss false (.t 14) (.t 15)⟩]) (.cond (.t 16) (.seq (.reg [⟨some 4,none,.mv (.c (.int .i64 (-(0+1))))⟩]) .ret) .skip)) (.seq (.seq (.reg [⟨some 17,none,.mv (.t 0)⟩,⟨some 18,none,.mv (.t 1)⟩,⟨some 19,none,.bin .gtr false (.t 17) (.t 18)⟩]) (.cond (.t 19) (.seq (.reg [⟨some 4,none,.mv (.c (.int .i64 1))⟩]) .ret) .skip)) (.seq (.reg [⟨some 4,none,.mv (.c (.int .i64 0))⟩]) .ret))))))))
theorem BW:codeOf Tryz.prog 274=some ⟨20,B6,[(.tmp 4)]⟩:=by kernel_rfl
theorem AI:modes 274=⟨[],.asis,none,false⟩:=by unfold modes; rfl
def Fc:SC:=(.seq (.reg [⟨some 2,none,.mv (.c (.int .i64 0))⟩]) (.seq (.reg [⟨some 3,none,.mv (.c (.int .i64 0))⟩]) (.seq (.seq (.reg [⟨some 6,none,.mv (.t 0)⟩,⟨some 7,none,.len false (.t 6)⟩,⟨some 8,none,.mv (.c (.int .i64 0))⟩]) (.block 0 (.loop [0,0,0,1,0,0,1,1,1,0,0,0,0,0,0,0,0,0] (.seq (.reg [⟨some 9,none,.bin .lss false (.t 8) (.t 7)⟩]) (.seq (.cond (.t 9) .skip (.exit 0)) (.seq (.block 1 (.seq (.reg [⟨some 10,none,.iaddr 1 (.t 6) (.t 8)⟩,⟨some 11,none,.load false 1 (.t 10)⟩,⟨some 5,none,.mv (.t 11)⟩]) (.seq (.reg [⟨some 12,none,.mv (.t 5)⟩,⟨some 13,none,.mv (.t 3)⟩,⟨some 14,none,.bin .neq false (.t 12) (.t 13)⟩]) (.cond (.t 14) (.seq (.reg [⟨some 15,none,.mv (.t 5)⟩,⟨some 2,none,.mv (.t 15)⟩]) .ret) .skip)))) (.reg [⟨some 16,none,.bin .add false (.t 8) (.c (.int .i64 1))⟩,⟨some 8,none,.mv (.t 16)⟩]))))))) (.seq (.reg [⟨some 17,none,.mv (.t 3)⟩,⟨some 2,none,.mv (.t 17)⟩]) .ret))))
theorem JF:codeOf Tryz.prog 272=some ⟨18,Fc,[(.tmp 2)]⟩:=by kernel_rfl
theorem C3:modes 272=⟨[],.asis,none,false⟩:=by unfold modes; rfl
theorem KS (a:ByteArray):E 305 [.str a] []=some (.bool false,[]):=by
 refine Af EK By (of_decide_eq_true rfl) ?_
 simp (disch:=omega) only [CI,go_sem,Ab]
theorem KT (a:Int):E 314 [.int .i64 a] []=some (.bool false,[]):=by
 refine Af Gx BK (of_decide_eq_true rfl) ?_
 simp (disch:=omega) only [D7,go_sem,Ab]
theorem Na (a b:ByteArray):E 283 [.str a,.str b] []=some (.int .i64 (Gi a b),[]):=by
 have h1:=KS a
 have h2:=KS b
 unfold Gi
 cases h3:strLt a b
 ·cases h4:dec (a=b)
  ·refine Af B9 AH (of_decide_eq_true rfl) ?_
   simp (disch:=omega) only [Bh,go_sem,Ab,h1,h2,h3,h4,By]
  ·refine Af B9 AH (of_decide_eq_true rfl) ?_
   simp (disch:=omega) only [Bh,go_sem,Ab,h1,h2,h3,h4,By]
 ·refine Af B9 AH (of_decide_eq_true rfl) ?_
  simp (disch:=omega) only [Bh,go_sem,Ab,h1,h2,h3,By]
theorem Hq (a b:Int):E 274 [.int .i64 a,.int .i64 b] []=some (.int .i64 (Hg a b),[]):=by
 have h1:=KT a
 have h2:=KT b
 unfold Hg
 cases h3:dec (a<b)
 ·cases h4:dec (b<a)
  ·refine Af BW AI (of_decide_eq_true rfl) ?_
   simp (disch:=omega) only [B6,go_sem,Ab,h1,h2,h3,h4,BK]
  ·refine Af BW AI (of_decide_eq_true rfl) ?_
   simp (disch:=omega) only [B6,go_sem,Ab,h1,h2,h3,h4,BK]
 ·refine Af BW AI (of_decide_eq_true rfl) ?_
  simp (disch:=omega) only [B6,go_sem,Ab,h1,h2,h3,BK]
def orL:List Int→Int
 | []=>0
 | x :: xs=>if x=0 then orL xs else x
theorem QeP (xs:List Int) (hl:xs.length≤1099511627776):E 272 [.arr (xs.map fun n=>[D.int n])] []=some (.int .i64 (orL xs),[]):=by
 refine Af JF C3 (of_decide_eq_true rfl) ?_
 simp (disch:=omega) only [Fc,go_sem,Ab]
 refine go_loop (α:=Int) (fun a=>⟨slots 18 0 [(3,.int .i64 0),(6,.arr (xs.map fun n=>[D.int n])),(7,.int .i64 xs.length),(8,.int .i64 a)],[]⟩) (fun a=>∃ k:Nat,a=k∧k≤(xs).length∧orL (xs.drop k)=orL xs) (fun a=>(xs).length-(a).toNat) 0 ⟨0,rfl,zH _,by rw [zF]⟩ (by simp (disch:=omega) only [go_sem,Ab]) ?_
 rintro i ⟨k,hi,hk,hR⟩
 have hni:i.toNat=k:=by omega
 have hni1:(i+1).toNat=k+1:=by omega
 rcases zE k (xs).length with hlt | hge
 ·have hg:=get_at (fun n=>[D.int n]) hlt
  rw [zB hlt,orL] at hR
  by_cases h0:xs[k]=0
  ·rw [if_pos h0] at hR
   simp (disch:=omega) only [go_sem,Ab,hni,hg,h0]
   exact ⟨i+1,⟨k+1,by omega,hlt,hR⟩,by omega,by first | trivial | rfl⟩
  ·rw [if_neg h0] at hR
   simp (disch:=omega) only [go_sem,Ab,hni,hg,h0]
   exact hR
 ·rw [zC hge,orL] at hR
  simp (disch:=omega) only [go_sem,Ab,hni]
  exact hR
theorem Xw (a b:Int):E 272 [.arr [[.int a],[.int b]]] []=some (.int .i64 (orZ a b),[]):=by
 have h:=QeP [a,b] (by simp)
 have e:orL [a,b]=orZ a b:=by
  simp only [orL,orZ]
  split
  ·split <;> omega
  ·rfl
 rw [e] at h
 exact h
def CJ:SC:=(.seq (.reg [⟨some 2,none,.mv (.c (.bool false))⟩]) (.seq (.reg [⟨some 3,none,.mv (.t 0)⟩,⟨some 4,none,.bin .geq false (.t 3) (.c (.int .u8 65))⟩,⟨some 5,none,.mv (.t 4)⟩,⟨(some 6),(some (5,true)),(.mv (.t 0))⟩,⟨(some 7),(some (5,true)),(.bin .leq false (.t 6) (.c (.int .u8 90)))⟩,⟨some 8,none,.pick (.t 5) (.t 7) (.c (.bool false))⟩,⟨some 2,none,.mv (.t 8)⟩]) .ret))
theorem DY:codeOf Tryz.prog 240=some ⟨9,CJ,[(.tmp 2)]⟩:=by kernel_rfl
theorem CK:modes 240=⟨[],.asis,none,false⟩:=by unfold modes; rfl
def Fd:SC:=(.seq (.reg [⟨some 1,none,.boxv 33 2 (.t 0)⟩,⟨some 2,none,.mv (.c (.bool false))⟩]) (.seq (.reg [⟨some 3,none,.faddr 0 (.t 1)⟩,⟨some 4,none,.load false 1 (.t 3)⟩,⟨some 5,none,.idx (.t 4) (.c (.int .i64 0))⟩,⟨some 6,none,.call 240 [(.t 5)]⟩,⟨some 2,none,.mv (.t 6)⟩]) .ret))
theorem JG:codeOf Tryz.prog 209=some ⟨7,Fd,[(.tmp 2)]⟩:=by kernel_rfl
theorem Cp:modes 209=⟨[],.asis,none,false⟩:=by unfold modes; rfl
theorem OX (n:Int):E 240 [.int .u8 n] []=some (.bool (dec (65≤n)&&dec (n≤90)),[]):=by
 cases h1:dec (65≤n)
 ·refine Af DY CK (of_decide_eq_true rfl) ?_
  simp (disch:=omega) only [CJ,go_sem,Ab,h1]
 ·refine Af DY CK (of_decide_eq_true rfl) ?_
  simp (disch:=omega) only [CJ,go_sem,Ab,h1]
theorem LR (x:Tm) (h:x.cok=true):E 209 [x.sv] []=some (.bool (AY x.name),[]):=by
 rw [Tm.MR,zA] at h
 obtain ⟨h1,h2⟩:=Ui h.1
 have h3:=OX (Jy x.name 0)
 rw [h2] at h3
 refine Af JG Cp (of_decide_eq_true rfl) ?_
 simp (disch:=omega) only [Fd,go_sem,Ab,h3,CK]
def Au:SC:=(.seq (.reg [⟨some 6,none,.mv (.c (.int .i64 0))⟩]) (.seq (.seq (.reg [⟨some 11,none,.mv (.t 0)⟩,⟨some 12,none,.len false (.t 11)⟩,⟨some 13,none,.mv (.c (.int .i64 0))⟩]) (.block 0 (.loop [1,1,1,0,0,0,0,0,0,0,0,1,1,1,0,0,0,0,0,0,0,0,0,0,0,0,0,0,0,0,0,0,0,0,0,0,0,0,0] (.seq (.reg [⟨some 14,none,.bin .lss false (.t 13) (.t 12)⟩]) (.seq (.cond (.t 14) .skip (.exit 0)) (.seq (.block 1 (.seq (.reg [⟨some 15,none,.mv (.t 13)⟩,⟨some 16,none,.iaddr 2 (.t 11) (.t 13)⟩,⟨some 17,none,.load true 2 (.t 16)⟩,⟨(some 8),none,(.alloc 33 [(.str ⟨#[]⟩),.nil])⟩,⟨some 7,none,.mv (.t 15)⟩,⟨none,none,(.store 2 (.t 8) (.t 17))⟩]) (.seq (.seq (.reg [⟨some 18,none,.mv (.t 7)⟩,⟨some 19,none,.mv (.t 1)⟩,⟨some 20,none,.len false (.t 19)⟩,⟨some 21,none,.bin .geq false (.t 18) (.t 20)⟩]) (.cond (.t 21) (.seq (.reg [⟨some 6,none,.mv (.c (.int .i64 1))⟩]) .ret) .skip)) (.seq (.reg [⟨some 22,none,.mv (.t 1)⟩,⟨some 23,none,.mv (.t 7)⟩,⟨some 24,none,.iaddr 2 (.t 22) (.t 23)⟩,⟨some 25,none,.load true 2 (.t 24)⟩,⟨(some 9),none,(.alloc 33 [(.str ⟨#[]⟩),.nil])⟩,⟨none,none,(.store 2 (.t 9) (.t 25))⟩]) (.seq (.reg [⟨some 26,none,.mv (.t 2)⟩,⟨some 27,none,.load true 2 (.t 8)⟩,⟨some 28,none,.load true 2 (.t 9)⟩,⟨some 29,none,.callv (.t 26) [(.t 27),(.t 28)]⟩,⟨some 10,none,.mv (.t 29)⟩]) (.seq (.reg [⟨some 30,none,.mv (.t 10)⟩,⟨some 31,none,.bin .neq false (.t 30) (.c (.int .i64 0))⟩]) (.cond (.t 31) (.seq (.reg [⟨some 32,none,.mv (.t 10)⟩,⟨some 6,none,.mv (.t 32)⟩]) .ret) .skip))))))) (.reg [⟨some 33,none,.bin .add false (.t 13) (.c (.int .i64 1))⟩,⟨some 13,none,.mv (.t 33)⟩]))))))) (.seq (.seq (.reg [⟨some 34,none,.mv (.t 0)⟩,⟨some 35,none,.len false (.t 34)⟩,⟨some 36,none,.mv (.t 1)⟩,⟨some 37,none,.len false (.t 36)⟩,⟨some 38,none,.bin .lss false (.t 35) (.t 37)⟩]) (.cond (.t 38) (.seq (.reg [⟨some 6,none,.mv (.c (.int .i64 (-(0+1))))⟩]) .ret) .skip)) (.seq (.reg [⟨some 6,none,.mv (.c (.int .i64 0))⟩]) .ret))))
theorem AA:codeOf Tryz.prog 313=some ⟨39,Au,[(.tmp 6)]⟩:=by kernel_rfl
theorem Av:modes 313=⟨[],.asis,none,false⟩:=by unfold modes; rfl
def BE:SC:=(.seq (.reg [⟨some 2,none,.boxv 33 2 (.t 0)⟩,⟨some 3,none,.boxv 33 2 (.t 1)⟩,⟨some 4,none,.mv (.c (.int .i64 0))⟩]) (.seq (.dreg [[],[0],[],[2,1,0],[1,0,3,2],[3,2,1,0,4]] [⟨some 8,none,.load true 2 (.t 2)⟩,⟨some 9,none,.call 209 [(.t 8)]⟩,⟨some 10,none,.load true 2 (.t 3)⟩,⟨some 11,none,.call 209 [(.t 10)]⟩,⟨some 5,none,.mv (.t 9)⟩,⟨some 6,none,.mv (.t 11)⟩]) (.seq (.block 0 (.seq (.reg [⟨some 13,none,.mv (.t 5)⟩,⟨some 14,none,.mv (.t 13)⟩,⟨(some 15),(some (14,true)),(.mv (.t 6))⟩,⟨(some 16),(some (14,true)),(.un .not (.t 15))⟩,⟨some 17,none,.pick (.t 14) (.t 16) (.c (.bool false))⟩,⟨some 12,none,.mv (.t 17)⟩]) (.cond (.t 12) (.seq (.reg [⟨some 4,none,.mv (.c (.int .i64 (-(0+1))))⟩]) .ret) (.seq (.reg [⟨some 19,none,.mv (.t 6)⟩,⟨some 20,none,.mv (.t 19)⟩,⟨(some 21),(some (20,true)),(.mv (.t 5))⟩,⟨(some 22),(some (20,true)),(.un .not (.t 21))⟩,⟨some 23,none,.pick (.t 20) (.t 22) (.c (.bool false))⟩,⟨some 18,none,.mv (.t 23)⟩]) (.cond (.t 18) (.seq (.reg [⟨some 4,none,.mv (.c (.int .i64 1))⟩]) .ret) .skip))))) (.seq (.seq (.dreg [[],[0],[],[2],[1,0,3,2],[],[5],[6,5],[],[8],[9,8],[7,6,5,10,9,8,4,1,0,3,2],[4,1,0,3,2,11,7,6,5,10,9,8],[12,4,1,0,3,2,11,7,6,5,10,9,8],[13,12,4,1,0,3,2,11,7,6,5,10,9,8]] [⟨some 24,none,.faddr 0 (.t 2)⟩,⟨some 25,none,.load false 1 (.t 24)⟩,⟨some 26,none,.faddr 0 (.t 3)⟩,⟨some 27,none,.load false 1 (.t 26)⟩,⟨some 28,none,.call 283 [(.t 25),(.t 27)]⟩,⟨some 29,none,.faddr 1 (.t 2)⟩,⟨some 30,none,.load false 1 (.t 29)⟩,⟨some 31,none,.len false (.t 30)⟩,⟨some 32,none,.faddr 1 (.t 3)⟩,⟨some 33,none,.load false 1 (.t 32)⟩,⟨some 34,none,.len false (.t 33)⟩,⟨some 35,none,.call 274 [(.t 31),(.t 34)]⟩,⟨some 36,none,.mkrow 3 1 [(.int .i64 0)] 2 [(0,(.t 28)),(1,(.t 35))]⟩,⟨some 37,none,.call 272 [(.t 36)]⟩,⟨some 7,none,.mv (.t 37)⟩]) (.seq (.reg [⟨some 38,none,.mv (.t 7)⟩,⟨some 39,none,.bin .neq false (.t 38) (.c (.int .i64 0))⟩]) (.cond (.t 39) (.seq (.reg [⟨some 40,none,.mv (.t 7)⟩,⟨some 4,none,.mv (.t 40)⟩]) .ret) .skip))) (.seq (.reg [⟨some 41,none,.faddr 1 (.t 2)⟩,⟨some 42,none,.load false 1 (.t 41)⟩,⟨some 43,none,.faddr 1 (.t 3)⟩,⟨some 44,none,.load false 1 (.t 43)⟩,⟨some 45,none,.call 313 [(.t 42),(.t 44),(.c (.fn 273 []))]⟩,⟨some 4,none,.mv (.t 45)⟩]) .ret)))))
theorem C2:codeOf Tryz.prog 273=some ⟨46,BE,[(.tmp 4)]⟩:=by kernel_rfl
theorem Bp:modes 273=⟨[],.asis,none,false⟩:=by unfold modes; rfl
theorem Et:GD Tryz.prog 273=true:=by kernel_rfl
theorem I7 (fid:Nat) (xs ys:List Tm) (hl:xs.length≤1099511627776) (hl':ys.length≤1099511627776) (hg:GD Tryz.prog fid=true) (hm:(modes fid).hand=[]) (hE:∀ x∈xs,∀ y∈ys,E fid [x.sv,y.sv] []=some (.int .i64 (x.cmp y),[])):E 313 [.arr (xs.map Tm.d),.arr (ys.map Tm.d),.fn fid []] []=some (.int .i64 (Tm.CG xs ys),[]):=by
 refine Af AA Av (of_decide_eq_true rfl) ?_
 simp (disch:=omega) only [Au,go_sem,Ab]
 refine go_loop (α:=Int) (fun a=>⟨slots 39 0 [(0,.arr (xs.map Tm.d)),(1,.arr (ys.map Tm.d)),(2,.fn fid []),(11,.arr (xs.map Tm.d)),(12,.int .i64 xs.length),(13,.int .i64 a)],[]⟩) (fun a=>∃ k:Nat,a=k∧k≤(xs).length∧k≤ys.length∧Tm.CG (xs.drop k) (ys.drop k)=Tm.CG xs ys) (fun a=>(xs).length-(a).toNat) 0 ⟨0,rfl,zH _,zH _,by rw [zF,zF]⟩ (by simp (disch:=omega) only [go_sem,Ab]) ?_
 rintro i ⟨k,hi,hk,hR⟩
 have hni:i.toNat=k:=by omega
 have hni1:(i+1).toNat=k+1:=by omega
 rcases zE k (xs).length with hlt | hge
 ·obtain ⟨hk',hR⟩:=hR
  have hgx:=get_at Tm.d hlt
  rw [Tm.d_eq] at hgx
  rcases zE k ys.length with hlt' | hge'
  ·have hgy:=get_at Tm.d hlt'
   rw [Tm.d_eq] at hgy
   have hc:=hE xs[k] (zD hlt) ys[k] (zD hlt')
   rw [OU hlt hlt'] at hR
   by_cases h0:xs[k].cmp ys[k]=0
   ·rw [orZ,if_pos h0] at hR
    rw [h0] at hc
    simp (disch:=omega) only [go_sem,Ab,hni,hgx,hgy,hc,hg,hm]
    exact ⟨i+1,⟨k+1,by omega,hlt,hlt',hR⟩,by omega,by first | trivial | rfl⟩
   ·rw [orZ,if_neg h0] at hR
    simp (disch:=omega) only [go_sem,Ab,hni,hgx,hgy,hc,hg,hm,h0]
    exact hR
  ·rw [RS hlt hge'] at hR
   simp (disch:=omega) only [go_sem,Ab,hni,hgx]
   exact hR
 ·obtain ⟨hk',hR⟩:=hR
  obtain rfl:k=xs.length:=by omega
  rcases zE xs.length ys.length with hlt' | hge'
  ·rw [Xv (zI _) hlt'] at hR
   simp (disch:=omega) only [go_sem,Ab,hni]
   exact hR
  ·rw [OV (zI _) hge'] at hR
   simp (disch:=omega) only [go_sem,Ab,hni]
   exact hR
abbrev Ta (f:FuncId) (x y:Tm):Prop:=x.cok=true→y.cok=true→x.nodes≤1099511627776→y.nodes≤1099511627776→E f [x.sv,y.sv] []=some (.int .i64 (x.cmp y),[])
theorem Gy (x:Tm) (ih:∀ x'∈x.args,∀ y,Ta 273 x' y) (y:Tm):Ta 273 x y:=by
 intro hx hy hnx hny
 have lx:=Tm.length_le x.args
 have ly:=Tm.length_le y.args
 have nx:=Tm.nodes_eq x
 have ny:=Tm.nodes_eq y
 have h1:=LR x hx
 have h2:=LR y hy
 have h3:=Na x.name y.name
 have h4:=Hq x.args.length y.args.length
 have h5:=Xw (Gi x.name y.name) (Hg x.args.length y.args.length)
 rw [Tm.MR,zA] at hx hy
 have h6:=I7 273 x.args y.args (by omega) (by omega) Et (by rw [Bp]) fun x' hx' y' hy'=>ih x' hx' y' (Tm.Hh hx.2 hx') (Tm.Hh hy.2 hy') (by have:=Tm.nodes_mem hx'; omega) (by have:=Tm.nodes_mem hy'; omega)
 rw [Tm.Vm]
 cases vx:AY x.name <;> rw [vx] at h1 <;> cases vy:AY y.name <;> rw [vy] at h2
 all_goals
  simp only [xH,y8,yZ,yC,yQ,y9,if_true,if_false,yU]
  by_cases h0:orZ (Gi x.name y.name) (Hg x.args.length y.args.length)=0
  ·rw [h0] at h5
   try rw [h0]
   refine Af C2 Bp (of_decide_eq_true rfl) ?_
   simp (disch:=omega) only [BE,go_sem,Ab,h1,h2,h3,h4,h5,h6,Cp,AH,AI,C3,Av]
   try rfl
  ·try rw [orZ.eq_1 (orZ _ _) _,if_neg h0]
   refine Af C2 Bp (of_decide_eq_true rfl) ?_
   simp (disch:=omega) only [BE,go_sem,Ab,h0,h1,h2,h3,h4,h5,Cp,AH,AI,C3]
theorem DZ (x y:Tm):Ta 273 x y:=Gy x (fun x' hx' y'=>DZ x' y') y
termination_by SizeOf.sizeOf x
decreasing_by exact Tm.lt_of_mem hx'
def Ea:SC:=(.seq (.reg [⟨some 2,none,.mv (.c (.int .i64 0))⟩]) (.seq (.seq (.reg [⟨some 3,none,.mv (.t 0)⟩]) (.cond (.t 3) (.seq (.reg [⟨some 2,none,.mv (.c (.int .i64 1))⟩]) .ret) .skip)) (.seq (.reg [⟨some 2,none,.mv (.c (.int .i64 0))⟩]) .ret)))
theorem Gl:codeOf Tryz.prog 88=some ⟨4,Ea,[(.tmp 2)]⟩:=by kernel_rfl
theorem Eb:modes 88=⟨[],.asis,none,false⟩:=by unfold modes; rfl
def BX:SC:=(.seq (.reg [⟨some 2,none,.boxv 122 3 (.t 0)⟩,⟨some 3,none,.boxv 122 3 (.t 1)⟩,⟨some 4,none,.mv (.c (.int .i64 0))⟩]) (.seq (.dreg [[],[0],[],[2],[1,0,3,2],[],[5],[6,5,4,1,0,3,2],[],[8],[9,8,7,6,5,4,1,0,3,2],[7,6,5,4,1,0,3,2,10,9,8],[4,1,0,3,2,11,7,6,5,10,9,8],[12,4,1,0,3,2,11,7,6,5,10,9,8],[13,12,4,1,0,3,2,11,7,6,5,10,9,8]] [⟨some 5,none,.faddr 1 (.t 2)⟩,⟨some 6,none,.load true 2 (.t 5)⟩,⟨some 7,none,.faddr 1 (.t 3)⟩,⟨some 8,none,.load true 2 (.t 7)⟩,⟨some 9,none,.call 273 [(.t 6),(.t 8)]⟩,⟨some 10,none,.faddr 0 (.t 2)⟩,⟨some 11,none,.load false 1 (.t 10)⟩,⟨some 12,none,.call 88 [(.t 11)]⟩,⟨some 13,none,.faddr 0 (.t 3)⟩,⟨some 14,none,.load false 1 (.t 13)⟩,⟨some 15,none,.call 88 [(.t 14)]⟩,⟨some 16,none,.call 274 [(.t 12),(.t 15)]⟩,⟨some 17,none,.mkrow 3 1 [(.int .i64 0)] 2 [(0,(.t 9)),(1,(.t 16))]⟩,⟨some 18,none,.call 272 [(.t 17)]⟩,⟨some 4,none,.mv (.t 18)⟩]) .ret))
theorem Dw:codeOf Tryz.prog 203=some ⟨19,BX,[(.tmp 4)]⟩:=by kernel_rfl
theorem Bz:modes 203=⟨[],.asis,none,false⟩:=by unfold modes; rfl
theorem RT (b:Bool):E 88 [.bool b] []=some (.int .i64 (Hi b),[]):=by
 cases b
 ·refine Af Gl Eb (of_decide_eq_true rfl) ?_
  simp (disch:=omega) only [Ea,go_sem,Ab]
  rfl
 ·refine Af Gl Eb (of_decide_eq_true rfl) ?_
  simp (disch:=omega) only [Ea,go_sem,Ab]
  rfl
theorem compareLiterals_E (x y:Lt) (hx:x.atom.cok=true) (hy:y.atom.cok=true) (hnx:x.atom.nodes≤1099511627776) (hny:y.atom.nodes≤1099511627776):E 203 [x.sv,y.sv] []=some (.int .i64 (x.cmp y),[]):=by
 have h1:=DZ x.atom y.atom hx hy hnx hny
 have h2:=RT x.pos
 have h3:=RT y.pos
 have h4:=Hq (Hi x.pos) (Hi y.pos)
 have h5:=Xw (x.atom.cmp y.atom) (Hg (Hi x.pos) (Hi y.pos))
 unfold Lt.cmp
 refine Af Dw Bz (of_decide_eq_true rfl) ?_
 simp (disch:=omega) only [BX,go_sem,Ab,h1,h2,h3,h4,h5,Bp,Eb,AI,C3]
end Wd
theorem NS (x y:Lt) (hx:x.atom.cok=true) (hy:y.atom.cok=true) (hnx:x.atom.nodes≤1099511627776) (hny:y.atom.nodes≤1099511627776):FunD Tryz.prog 203 [x.sv,y.sv] [] (.int .i64 (x.cmp y)) []:=Wd.E_told (Wd.compareLiterals_E x y hx hy hnx hny)
def AC:SC:=(.seq (.reg [⟨some 6,none,.mv (.c (.bool false))⟩]) (.seq (.seq (.reg [⟨some 10,none,.mv (.t 0)⟩,⟨some 11,none,.len false (.t 10)⟩,⟨some 12,none,.mv (.t 1)⟩,⟨some 13,none,.len false (.t 12)⟩,⟨some 14,none,.bin .neq false (.t 11) (.t 13)⟩]) (.cond (.t 14) (.seq (.reg [⟨some 6,none,.mv (.c (.bool false))⟩]) .ret) .skip)) (.seq (.seq (.reg [⟨some 15,none,.mv (.t 0)⟩,⟨some 16,none,.len false (.t 15)⟩,⟨some 17,none,.mv (.c (.int .i64 0))⟩]) (.block 0 (.loop [0,1,1,0,0,0,0,0,0,0,0,0,0,0,0,1,1,1,0,0,0,0,0,0,0,0,0,0,0,0,0,0] (.seq (.reg [⟨some 18,none,.bin .lss false (.t 17) (.t 16)⟩]) (.seq (.cond (.t 18) .skip (.exit 0)) (.seq (.block 1 (.seq (.reg [⟨some 19,none,.mv (.t 17)⟩,⟨some 20,none,.iaddr 2 (.t 15) (.t 17)⟩,⟨some 21,none,.load true 2 (.t 20)⟩,⟨(some 8),none,(.alloc 33 [(.str ⟨#[]⟩),.nil])⟩,⟨some 7,none,.mv (.t 19)⟩,⟨none,none,(.store 2 (.t 8) (.t 21))⟩]) (.seq (.reg [⟨some 22,none,.mv (.t 1)⟩,⟨some 23,none,.mv (.t 7)⟩,⟨some 24,none,.iaddr 2 (.t 22) (.t 23)⟩,⟨some 25,none,.load true 2 (.t 24)⟩,⟨(some 9),none,(.alloc 33 [(.str ⟨#[]⟩),.nil])⟩,⟨none,none,(.store 2 (.t 9) (.t 25))⟩]) (.seq (.reg [⟨some 26,none,.mv (.t 2)⟩,⟨some 27,none,.load true 2 (.t 8)⟩,⟨some 28,none,.load true 2 (.t 9)⟩,⟨some 29,none,.callv (.t 26) [(.t 27),(.t 28)]⟩,⟨some 30,none,.un .not (.t 29)⟩]) (.cond (.t 30) (.seq (.reg [⟨some 6,none,.mv (.c (.bool false))⟩]) .ret) .skip))))) (.reg [⟨some 31,none,.bin .add false (.t 17) (.c (.int .i64 1))⟩,⟨some 17,none,.mv (.t 31)⟩]))))))) (.seq (.reg [⟨some 6,none,.mv (.c (.bool true))⟩]) .ret))))
theorem Bt:codeOf Tryz.prog 277=some ⟨32,AC,[(.tmp 6)]⟩:=by kernel_rfl
theorem AD:modes 277=⟨[],.asis,none,false⟩:=by unfold modes; rfl
def Ff:SC:=(.seq (.reg [⟨some 2,none,.boxv 33 2 (.t 0)⟩,⟨some 3,none,.boxv 33 2 (.t 1)⟩,⟨some 4,none,.mv (.c (.bool false))⟩]) (.seq (.reg [⟨some 5,none,.faddr 0 (.t 2)⟩,⟨some 6,none,.load false 1 (.t 5)⟩,⟨some 7,none,.faddr 0 (.t 3)⟩,⟨some 8,none,.load false 1 (.t 7)⟩,⟨some 9,none,.bin .eql false (.t 6) (.t 8)⟩,⟨some 10,none,.mv (.t 9)⟩,⟨(some 11),(some (10,true)),(.faddr 1 (.t 2))⟩,⟨(some 12),(some (10,true)),(.load false 1 (.t 11))⟩,⟨(some 13),(some (10,true)),(.faddr 1 (.t 3))⟩,⟨(some 14),(some (10,true)),(.load false 1 (.t 13))⟩,⟨(some 15),(some (10,true)),(.call 277 [(.t 12),(.t 14),(.c (.fn 208 []))])⟩,⟨some 16,none,.pick (.t 10) (.t 15) (.c (.bool false))⟩,⟨some 4,none,.mv (.t 16)⟩]) .ret))
theorem Id:codeOf Tryz.prog 208=some ⟨17,Ff,[(.tmp 4)]⟩:=by kernel_rfl
theorem AB:modes 208=⟨[],.asis,none,false⟩:=by unfold modes; rfl
theorem NT:GD Tryz.prog 208=true:=by kernel_rfl
def FV:SC:=(.seq (.reg [⟨some 2,none,.boxv 33 2 (.t 0)⟩,⟨some 3,none,.boxv 33 2 (.t 1)⟩,⟨some 4,none,.mv (.c (.bool false))⟩]) (.seq (.seq (.reg [⟨some 6,none,.faddr 0 (.t 2)⟩,⟨some 7,none,.load false 1 (.t 6)⟩,⟨some 8,none,.faddr 0 (.t 3)⟩,⟨some 9,none,.load false 1 (.t 8)⟩,⟨some 10,none,.bin .neq false (.t 7) (.t 9)⟩,⟨some 11,none,.mv (.t 10)⟩,⟨(some 12),(some (11,false)),(.faddr 1 (.t 2))⟩,⟨(some 13),(some (11,false)),(.load false 1 (.t 12))⟩,⟨(some 14),(some (11,false)),(.len false (.t 13))⟩,⟨(some 15),(some (11,false)),(.faddr 1 (.t 3))⟩,⟨(some 16),(some (11,false)),(.load false 1 (.t 15))⟩,⟨(some 17),(some (11,false)),(.len false (.t 16))⟩,⟨(some 18),(some (11,false)),(.bin .neq false (.t 14) (.t 17))⟩,⟨some 19,none,.pick (.t 11) (.c (.bool true)) (.t 18)⟩]) (.cond (.t 19) (.seq (.reg [⟨some 4,none,.mv (.c (.bool false))⟩]) .ret) .skip)) (.seq (.seq (.reg [⟨some 5,none,.mv (.c (.int .i64 0))⟩]) (.block 0 (.loop [0,0,1,1,0,1,0,0,0,0,0,0,0,0,0,0,0,0,0,0,0,0,0,0,0,0,0,0,0,0,0,0,0,0,0,0,0,0,0] (.seq (.seq (.reg [⟨some 20,none,.mv (.t 5)⟩,⟨some 21,none,.faddr 1 (.t 2)⟩,⟨some 22,none,.load false 1 (.t 21)⟩,⟨some 23,none,.len false (.t 22)⟩,⟨some 24,none,.bin .lss false (.t 20) (.t 23)⟩]) (.cond (.t 24) .skip (.exit 0))) (.seq (.block 1 (.seq (.dreg [[],[0],[],[1,0,2],[3,1,0,2],[],[5],[],[6,5,7],[8,6,5,7],[4,3,1,0,2,9,8,6,5,7],[10,4,3,1,0,2,9,8,6,5,7]] [⟨some 27,none,.faddr 1 (.t 2)⟩,⟨some 28,none,.load false 1 (.t 27)⟩,⟨some 29,none,.mv (.t 5)⟩,⟨some 30,none,.iaddr 2 (.t 28) (.t 29)⟩,⟨some 31,none,.load true 2 (.t 30)⟩,⟨some 32,none,.faddr 1 (.t 3)⟩,⟨some 33,none,.load false 1 (.t 32)⟩,⟨some 34,none,.mv (.t 5)⟩,⟨some 35,none,.iaddr 2 (.t 33) (.t 34)⟩,⟨some 36,none,.load true 2 (.t 35)⟩,⟨some 37,none,.call 230 [(.t 31),(.t 36)]⟩,⟨some 38,none,.un .not (.t 37)⟩]) (.cond (.t 38) (.seq (.reg [⟨some 4,none,.mv (.c (.bool false))⟩]) .ret) .skip))) (.reg [⟨some 25,none,.mv (.t 5)⟩,⟨some 26,none,.bin .add false (.t 25) (.c (.int .i64 1))⟩,⟨some 5,none,.mv (.t 26)⟩])))))) (.seq (.reg [⟨some 4,none,.mv (.c (.bool true))⟩]) .ret))))
theorem IA:codeOf Tryz.prog 230=some ⟨39,FV,[(.tmp 4)]⟩:=by kernel_rfl
theorem AL:modes 230=⟨[],.asis,none,false⟩:=by unfold modes; rfl
theorem PU {α:Type} {xs ys:List α} {k:Nat} (hx:k<xs.length) (hy:k<ys.length):xs.drop k=ys.drop k ↔ xs[k]=ys[k]∧xs.drop (k+1)=ys.drop (k+1):=by
 rw [zB hx,zB hy,yR]
theorem Xy (fid:Nat) (xs ys:List Tm) (hl:xs.length≤1099511627776) (hl':ys.length≤1099511627776) (hg:GD Tryz.prog fid=true) (hm:(modes fid).hand=[]) (hE:∀ x∈xs,∀ y∈ys,E fid [x.sv,y.sv] []=some (.bool (dec (x=y)),[])):E 277 [.arr (xs.map Tm.d),.arr (ys.map Tm.d),.fn fid []] []=some (.bool (dec (xs=ys)),[]):=by
 by_cases hlen:xs.length=ys.length
 ·have hq:((xs.length:Int)=(ys.length:Int))=True:=by first | exact eq_true (by omega) | exact eq_false (by omega)
  refine Af Bt AD (of_decide_eq_true rfl) ?_
  simp (disch:=omega) only [AC,go_sem,Ab,hq]
  refine go_loop (α:=Int) (fun a=>⟨slots 32 0 [(1,.arr (ys.map Tm.d)),(2,.fn fid []),(15,.arr (xs.map Tm.d)),(16,.int .i64 xs.length),(17,.int .i64 a)],[]⟩) (fun a=>∃ k:Nat,a=k∧k≤(xs).length∧dec (xs.drop k=ys.drop k)=dec (xs=ys)) (fun a=>(xs).length-(a).toNat) 0 ⟨0,rfl,zH _,by rw [zF,zF]⟩ (by simp (disch:=omega) only [go_sem,Ab]) ?_
  rintro i ⟨k,hi,hk,hR⟩
  have hni:i.toNat=k:=by omega
  have hni1:(i+1).toNat=k+1:=by omega
  rcases zE k (xs).length with hlt | hge
  ·have hgx:=get_at Tm.d hlt
   rw [Tm.d_eq] at hgx
   have hlt':k<ys.length:=by omega
   have hgy:=get_at Tm.d hlt'
   rw [Tm.d_eq] at hgy
   have hc:=hE xs[k] (zD hlt) ys[k] (zD hlt')
   rw [Gw (PU hlt hlt')] at hR
   by_cases h0:xs[k]=ys[k]
   ·rw [An h0] at hc
    rw [Gw (and_iff_right h0)] at hR
    simp (disch:=omega) only [go_sem,Ab,hni,hgx,hgy,hc,hg,hm]
    exact ⟨i+1,⟨k+1,by omega,hlt,hR⟩,by omega,by first | trivial | rfl⟩
   ·rw [Aj h0] at hc
    rw [Aj (fun h=>h0 h.1)] at hR
    simp (disch:=omega) only [go_sem,Ab,hni,hgx,hgy,hc,hg,hm]
    exact hR
  ·rw [zC hge,zC (by omega),CU] at hR
   simp (disch:=omega) only [go_sem,Ab,hni]
   exact hR
 ·have hq:((xs.length:Int)=(ys.length:Int))=False:=by first | exact eq_true (by omega) | exact eq_false (by omega)
  have he:dec (xs=ys)=false:=Aj fun h=>hlen (by rw [h])
  rw [he]
  refine Af Bt AD (of_decide_eq_true rfl) ?_
  simp (disch:=omega) only [AC,go_sem,Ab,hq]
theorem Tm.eq_iff (x y:Tm):x=y ↔ x.name=y.name∧x.args=y.args:=by
 obtain ⟨n,a⟩:=x
 obtain ⟨m,b⟩:=y
 rw [Tm.mk.injEq]; rfl
theorem Tc (x:Tm) (y:Tm) (hnx:x.nodes≤1099511627776) (hny:y.nodes≤1099511627776) (ih:∀ x'∈x.args,∀ y':Tm,x'.nodes≤1099511627776→y'.nodes≤1099511627776→E 208 [x'.sv,y'.sv] []=some (.bool (dec (x'=y')),[])):E 208 [x.sv,y.sv] []=some (.bool (dec (x=y)),[]):=by
 have lx:=Tm.length_le x.args
 have ly:=Tm.length_le y.args
 have nx:=Tm.nodes_eq x
 have ny:=Tm.nodes_eq y
 have h6:=Xy 208 x.args y.args (by omega) (by omega) NT (by rw [AB]) fun x' hx' y' hy'=>ih x' hx' y' (by have:=Tm.nodes_mem hx'; omega) (by have:=Tm.nodes_mem hy'; omega)
 rw [Gw (Tm.eq_iff x y)]
 by_cases h0:x.name=y.name
 ·rw [Gw (and_iff_right h0)]
  have hq:(x.name=y.name)=True:=by simp [h0]
  refine Af Id AB (of_decide_eq_true rfl) ?_
  simp (disch:=omega) only [Ff,go_sem,Ab,hq,h6,AD]
 ·have hq:(x.name=y.name)=False:=by simp [h0]
  rw [Aj (fun h=>h0 h.1)]
  refine Af Id AB (of_decide_eq_true rfl) ?_
  simp (disch:=omega) only [Ff,go_sem,Ab,hq]
theorem Em (x y:Tm) (hnx:x.nodes≤1099511627776) (hny:y.nodes≤1099511627776):E 208 [x.sv,y.sv] []=some (.bool (dec (x=y)),[]) :=
 Tc x y hnx hny fun x' hx' y' h h'=>Em x' y' h h'
termination_by SizeOf.sizeOf x
decreasing_by exact Tm.lt_of_mem hx'
theorem Qbr (x:Tm) (y:Tm) (hnx:x.nodes≤1099511627776) (hny:y.nodes≤1099511627776) (ih:∀ x'∈x.args,∀ y':Tm,x'.nodes≤1099511627776→y'.nodes≤1099511627776→E 230 [x'.sv,y'.sv] []=some (.bool (dec (x'=y')),[])):E 230 [x.sv,y.sv] []=some (.bool (dec (x=y)),[]):=by
 have lx:=Tm.length_le x.args
 have ly:=Tm.length_le y.args
 have nx:=Tm.nodes_eq x
 have ny:=Tm.nodes_eq y
 rw [Gw (Tm.eq_iff x y)]
 by_cases h0:x.name=y.name
 ·rw [Gw (and_iff_right h0)]
  have hq:(x.name=y.name)=True:=by simp [h0]
  by_cases hlen:x.args.length=y.args.length
  ·have hq2:((x.args.length:Int)=(y.args.length:Int))=True:=by first | exact eq_true (by omega) | exact eq_false (by omega)
   refine Af IA AL (of_decide_eq_true rfl) ?_
   simp (disch:=omega) only [FV,go_sem,Ab,hq,hq2]
   refine go_loop (α:=Int) (fun a=>⟨slots 39 0 [(2,.ptr 0 0),(3,.ptr 1 0),(5,.int .i64 a)],[.box 33 [.str x.name,.arr (x.args.map Tm.d)],.box 33 [.str y.name,.arr (y.args.map Tm.d)]]⟩) (fun a=>∃ k:Nat,a=k∧k≤(x.args).length∧dec (x.args.drop k=y.args.drop k)=dec (x.args=y.args)) (fun a=>(x.args).length-(a).toNat) 0 ⟨0,rfl,zH _,by rw [zF,zF]⟩ (by simp (disch:=omega) only [go_sem,Ab]) ?_
   rintro i ⟨k,hi,hk,hR⟩
   have hni:i.toNat=k:=by omega
   have hni1:(i+1).toNat=k+1:=by omega
   rcases zE k (x.args).length with hlt | hge
   ·have hgx:=get_at Tm.d hlt
    rw [Tm.d_eq] at hgx
    have hlt':k<y.args.length:=by omega
    have hgy:=get_at Tm.d hlt'
    rw [Tm.d_eq] at hgy
    have hc:=ih x.args[k] (zD hlt) y.args[k] (by have:=Tm.nodes_mem (zD hlt); omega) (by have:=Tm.nodes_mem (zD hlt'); omega)
    rw [Gw (PU hlt hlt')] at hR
    by_cases h0:x.args[k]=y.args[k]
    ·rw [An h0] at hc
     rw [Gw (and_iff_right h0)] at hR
     simp (disch:=omega) only [go_sem,Ab,hni,hgx,hgy,hc,AL]
     exact ⟨i+1,⟨k+1,by omega,hlt,hR⟩,by omega,by first | trivial | rfl⟩
    ·rw [Aj h0] at hc
     rw [Aj (fun h=>h0 h.1)] at hR
     simp (disch:=omega) only [go_sem,Ab,hni,hgx,hgy,hc,AL]
     exact hR
   ·rw [zC hge,zC (by omega),CU] at hR
    simp (disch:=omega) only [go_sem,Ab,hni]
    exact hR
  ·have hq2:((x.args.length:Int)=(y.args.length:Int))=False:=by first | exact eq_true (by omega) | exact eq_false (by omega)
   have he:dec (x.args=y.args)=false:=Aj fun h=>hlen (by rw [h])
   rw [he]
   refine Af IA AL (of_decide_eq_true rfl) ?_
   simp (disch:=omega) only [FV,go_sem,Ab,hq,hq2]
 ·have hq:(x.name=y.name)=False:=by simp [h0]
  rw [Aj (fun h=>h0 h.1)]
  refine Af IA AL (of_decide_eq_true rfl) ?_
  simp (disch:=omega) only [FV,go_sem,Ab,hq]
theorem Ja (x y:Tm) (hnx:x.nodes≤1099511627776) (hny:y.nodes≤1099511627776):E 230 [x.sv,y.sv] []=some (.bool (dec (x=y)),[]) :=
 Qbr x y hnx hny fun x' hx' y' h h'=>Ja x' y' h h'
termination_by SizeOf.sizeOf x
decreasing_by exact Tm.lt_of_mem hx'
def FJ:SC:=(.seq (.reg [⟨some 2,none,.mv (.c .nil)⟩]) (.seq (.seq (.reg [⟨some 6,none,.mv (.t 0)⟩,⟨some 7,none,.len false (.t 6)⟩,⟨some 8,none,.bin .eql false (.t 7) (.c (.int .i64 0))⟩]) (.cond (.t 8) (.seq (.reg [⟨some 2,none,.mv (.c .nil)⟩]) .ret) .skip)) (.seq (.reg [⟨some 9,none,.mv (.t 0)⟩,⟨some 10,none,.len false (.t 9)⟩,⟨(some 11),none,(.mkslice 33 2 40 [(.str ⟨#[]⟩),.nil] (.t 10))⟩,⟨some 3,none,.mv (.t 11)⟩]) (.seq (.seq (.reg [⟨some 12,none,.mv (.t 0)⟩,⟨some 13,none,.len false (.t 12)⟩,⟨some 14,none,.mv (.c (.int .i64 0))⟩]) (.block 0 (.loop [0,0,0,1,0,0,0,0,0,0,0,0,1,1,1,0,0,0,0,0,0,0,0,0,0,0] (.seq (.reg [⟨some 15,none,.bin .lss false (.t 14) (.t 13)⟩]) (.seq (.cond (.t 15) .skip (.exit 0)) (.seq (.block 1 (.seq (.reg [⟨some 16,none,.mv (.t 14)⟩,⟨some 17,none,.iaddr 2 (.t 12) (.t 14)⟩,⟨some 18,none,.load true 2 (.t 17)⟩,⟨(some 5),none,(.alloc 33 [(.str ⟨#[]⟩),.nil])⟩,⟨some 4,none,.mv (.t 16)⟩,⟨none,none,(.store 2 (.t 5) (.t 18))⟩]) (.reg [⟨some 19,none,.mv (.t 3)⟩,⟨some 20,none,.mv (.t 4)⟩,⟨some 21,none,.load true 2 (.t 5)⟩,⟨some 22,none,.call 187 [(.t 21)]⟩,⟨some 23,none,.iaddr 2 (.t 19) (.t 20)⟩,⟨none,none,(.store 2 (.t 23) (.t 22))⟩]))) (.reg [⟨some 24,none,.bin .add false (.t 14) (.c (.int .i64 1))⟩,⟨some 14,none,.mv (.t 24)⟩]))))))) (.seq (.reg [⟨some 25,none,.mv (.t 3)⟩,⟨some 2,none,.mv (.t 25)⟩]) .ret)))))
theorem Jb:codeOf Tryz.prog 260=some ⟨26,FJ,[(.tmp 2)]⟩:=by kernel_rfl
theorem FK:modes 260=⟨[],.own [some (33,2)],none,false⟩:=by unfold modes; rfl
def Kh:SC:=(.seq (.reg [⟨some 1,none,.boxv 33 2 (.t 0)⟩,⟨(some 2),none,(.alloc 33 [(.str ⟨#[]⟩),.nil])⟩]) (.seq (.dreg [[],[0],[],[2],[3,2],[1,0,4,3,2],[5,1,0,4,3,2]] [⟨some 3,none,.faddr 0 (.t 1)⟩,⟨some 4,none,.load false 1 (.t 3)⟩,⟨some 5,none,.faddr 1 (.t 1)⟩,⟨some 6,none,.load false 1 (.t 5)⟩,⟨some 7,none,.call 260 [(.t 6)]⟩,⟨(some 8),none,(.build [(.str ⟨#[]⟩),.nil] [(0,(1,(.t 4))),(1,(1,(.t 7)))])⟩,⟨none,none,(.store 2 (.t 2) (.t 8))⟩]) .ret))
theorem Qr:codeOf Tryz.prog 187=some ⟨9,Kh,[(.cell 2 true 2)]⟩:=by kernel_rfl
theorem Gz:modes 187=⟨[],.asis,none,false⟩:=by unfold modes; rfl
def NU:SC:=(.seq (.reg [⟨some 1,none,.boxv 33 2 (.t 0)⟩,⟨(some 2),none,(.alloc 33 [(.str ⟨#[]⟩),.nil])⟩]) (.seq (.reg [⟨some 5,none,.faddr 0 (.t 1)⟩,⟨some 6,none,.load false 1 (.t 5)⟩,⟨(some 7),none,(.build [(.str ⟨#[]⟩),.nil] [(0,(1,(.t 6)))])⟩,⟨(some 3),none,(.alloc 33 [(.str ⟨#[]⟩),.nil])⟩,⟨none,none,(.store 2 (.t 3) (.t 7))⟩]) (.seq (.seq (.reg [⟨some 4,none,.mv (.c (.int .i64 0))⟩]) (.block 0 (.loop [0,1,1,1,1,0,0,0,0,0,0,0,0,0,0,0,0,0,0,0,0,0,0,0,0,0,0] (.seq (.seq (.reg [⟨some 8,none,.mv (.t 4)⟩,⟨some 9,none,.faddr 1 (.t 1)⟩,⟨some 10,none,.load false 1 (.t 9)⟩,⟨some 11,none,.len false (.t 10)⟩,⟨some 12,none,.bin .lss false (.t 8) (.t 11)⟩]) (.cond (.t 12) .skip (.exit 0))) (.seq (.block 1 (.dreg [[],[0],[],[2],[],[3,2,4],[5,3,2,4],[6,5,3,2,4],[7,6,5,3,2,4],[1,0,8,7,6,5,3,2,4],[0,1,2,3,4,5,6,7,8,9],[10,0,1,2,3,4,5,6,7,8,9]] [⟨some 15,none,.faddr 1 (.t 3)⟩,⟨some 16,none,.load false 1 (.t 15)⟩,⟨some 17,none,.faddr 1 (.t 1)⟩,⟨some 18,none,.load false 1 (.t 17)⟩,⟨some 19,none,.mv (.t 4)⟩,⟨some 20,none,.iaddr 2 (.t 18) (.t 19)⟩,⟨some 21,none,.load true 2 (.t 20)⟩,⟨some 22,none,.call 135 [(.t 21)]⟩,⟨(some 23),none,(.mkrow 33 2 [(.str ⟨#[]⟩),.nil] 1 [(0,(.t 22))])⟩,⟨(some 24),none,(.append 33 2 40 [(.str ⟨#[]⟩),.nil] (.t 16) (.t 23))⟩,⟨some 25,none,.faddr 1 (.t 3)⟩,⟨none,none,(.store 1 (.t 25) (.t 24))⟩])) (.reg [⟨some 13,none,.mv (.t 4)⟩,⟨some 14,none,.bin .add false (.t 13) (.c (.int .i64 1))⟩,⟨some 4,none,.mv (.t 14)⟩])))))) (.seq (.reg [⟨some 26,none,.load true 2 (.t 3)⟩,⟨none,none,(.store 2 (.t 2) (.t 26))⟩]) .ret))))
theorem VM:codeOf Tryz.prog 135=some ⟨27,NU,[(.cell 2 true 2)]⟩:=by kernel_rfl
theorem Fg:modes 135=⟨[],.frz,none,false⟩:=by unfold modes; rfl
theorem VN (xs:List Tm) (hl:xs.length≤1099511627776) (h:∀ x∈xs,E 187 [x.sv] []=some (x.osv,x.obs)):E 260 [.arr (xs.map Tm.d)] []=some (.ref 0,[.row 33 2 (xs.map Tm.o)]):=by
 cases xs with
 | nil =>
  refine Af Jb FK (of_decide_eq_true rfl) ?_
  simp (disch:=omega) only [FJ,go_sem,Ab]
 | cons x0 xs0 =>
 generalize hxs:x0 :: xs0=xs at *
 have hpos:0<xs.length:=by rw [←hxs]; simp
 refine Af Jb FK (of_decide_eq_true rfl) ?_
 simp (disch:=omega) only [FJ,go_sem,Ab]
 refine go_loop (α:=Int) (fun a=>⟨slots 26 0 [(3,.ref 0),(12,.arr (xs.map Tm.d)),(13,.int .i64 xs.length),(14,.int .i64 a)],[.row 33 2 (HY Tm.o [.str ⟨#[]⟩,.ow []] xs a.toNat)]⟩) (fun a=>∃ k:Nat,a=k∧k≤(xs).length) (fun a=>(xs).length-(a).toNat) 0 ⟨0,rfl,zH _⟩ (by simp (disch:=omega) only [go_sem,Ab,MW,zU]) ?_
 rintro i ⟨k,hi,hk⟩
 have hni:i.toNat=k:=by omega
 have hni1:(i+1).toNat=k+1:=by omega
 rcases zE k (xs).length with hlt | hge
 ·have hg:=get_at Tm.d hlt
  rw [Tm.d_eq] at hg
  have hz:=OR Tm.o [.str ⟨#[]⟩,.ow []] hlt
  have hc:=h xs[k] (zD hlt)
  have hs:=OS Tm.o [.str ⟨#[]⟩,.ow []] hlt
  rw [Tm.o_eq] at hs
  simp (disch:=omega) only [go_sem,Ab,hni,hg,hc,hz,OP,Gz,Tm.osv,Tm.obs]
  refine ⟨i+1,⟨k+1,by omega,hlt⟩,by omega,?_⟩
  simp (disch:=omega) only [go_sem,Ab,hni1,hs]
 ·obtain rfl:k=xs.length:=by omega
  simp (disch:=omega) only [go_sem,Ab,hni,OQ]
theorem Xz (x:Tm) (h:E 260 [.arr (x.args.map Tm.d)] []=some (.ref 0,[.row 33 2 (x.args.map Tm.o)])):E 187 [x.sv] []=some (x.osv,x.obs):=by
 refine Af Qr Gz (of_decide_eq_true rfl) ?_
 simp (disch:=omega) only [Kh,go_sem,Ab,h,FK]
theorem RU (x:Tm) (hn:x.nodes≤1099511627776):E 187 [x.sv] []=some (x.osv,x.obs) :=
 Xz x (VN x.args (by have:=Tm.nodes_eq x; have:=Tm.length_le x.args; omega) fun y hy=>RU y (by have:=Tm.nodes_mem hy; have:=Tm.nodes_eq x; omega))
termination_by SizeOf.sizeOf x
decreasing_by exact Tm.lt_of_mem hy
def Qfy (res:RM) (n0:Nat) (rs:List RX) (Q:SV × List Ob→Prop) (x:X) (st:St):Prop:=∃ out,Xo res n0 rs out x st∧Q out
theorem exq {α:Type} {a:α} {Q:α→Prop}:(∃ out,some a=some out∧Q out)=Q a:=propext ⟨fun ⟨o,h,q⟩=>by obtain rfl:=Option.some.inj h; exact q,fun q=>⟨a,rfl,q⟩⟩
theorem QeQ {res:RM} {n0:Nat} {rs:List RX} {Q:SV × List Ob→Prop} {sl:List SV} {ob:List Ob}:Qfy res n0 rs Q .ret ⟨sl,ob⟩=∃ out,NK res n0 ob (Nz ⟨sl,ob⟩ rs)=some out∧Q out:=rfl
theorem QeR {res:RM} {n0:Nat} {rs:List RX} {Q:SV × List Ob→Prop} {sl:List SV} {ob:List Ob}:Qfy res n0 rs Q .normal ⟨sl,ob⟩=∃ out,NK res n0 ob (Nz ⟨sl,ob⟩ rs)=some out∧Q out:=rfl
attribute [go_sem] QeQ QeR exq
def Tm.osh (x:Tm):List OT:=[.str x.name,.sh (x.args.map Tm.d)]
theorem Tm.VO (x:Tm):x.osh=[.str x.name,.sh (x.args.map Tm.d)]:=rfl
theorem Tm.RV:∀ xs:List Tm,OT.AO (xs.map Tm.osh)=true
 | []=>rfl
 | x :: xs=>by rw [zK,Tm.VO]; simp [OT.AO,OT.C6,OT.full,Tm.RV xs]
theorem Tm.Zo:∀ xs:List Tm,OT.erss (xs.map Tm.osh)=xs.map Tm.d
 | []=>rfl
 | x :: xs=>by rw [zK,zK,Tm.VO,Tm.d_eq]; simp [OT.erss,OT.ers,OT.er,Tm.Zo xs]
theorem Fh {α β:Type} (f:α→β) {xs:List α} {k:Nat} (h:k<xs.length):(xs.take k).map f++[f xs[k]]=(xs.take (k+1)).map f:=by
 rw [yJ h,z6]; rfl
theorem Qc8 (x:Tm) (hn:x.nodes≤1099511627776) (ih:∀ y∈x.args,E 135 [y.sv] []=some (y.sv,[])):E 135 [x.sv] []=some (x.sv,[]):=by
 have hl:=Tm.length_le x.args
 have hne:=Tm.nodes_eq x
 have h10:((1:Int)=0)=False:=by simp
 have hfu:=Tm.RV x.args
 have her:=Tm.Zo x.args
 refine Af VM Fg (of_decide_eq_true rfl) ?_
 simp (disch:=omega) only [NU,go_sem,Ab]
 refine go_loop (α:=Int) (fun a=>⟨slots 27 0 [(1,.ptr 0 0),(2,.ptr 1 0),(3,.ptr 2 0),(4,.int .i64 a)],(if a=0 then [.box 33 [.str x.name,.arr (x.args.map Tm.d)],.box 33 [.str ⟨#[]⟩,.nil],.box 33 [.str x.name,.nil]] else [.box 33 [.str x.name,.arr (x.args.map Tm.d)],.box 33 [.str ⟨#[]⟩,.nil],.box 33 [.str x.name,.ref 3],.row 33 2 ((x.args.take a.toNat).map Tm.osh)])⟩) (fun a=>∃ k:Nat,a=k∧k≤(x.args).length) (fun a=>(x.args).length-(a).toNat) 0 ⟨0,rfl,zH _⟩ (by simp (disch:=omega) only [go_sem,Ab,eq_self,if_true]) ?_
 rintro i ⟨k,hi,hk⟩
 have hni:i.toNat=k:=by omega
 have hni1:(i+1).toNat=k+1:=by omega
 rcases zE k (x.args).length with hlt | hge
 ·have hg:=get_at Tm.d hlt
  rw [Tm.d_eq] at hg
  have hc:=ih x.args[k] (zD hlt)
  have hs:=Fh Tm.osh hlt
  rw [Tm.VO] at hs
  rcases zY k with h0 | h0
  ·subst h0
   obtain rfl:i=0:=hi
   rw [yB,zT,z7] at hs
   simp (disch:=omega) only [go_sem,Ab,hni,hg,hc,Fg,eq_self,if_true]
   refine ⟨1,⟨1,rfl,hlt⟩,by omega,?_⟩
   simp (disch:=omega) only [go_sem,Ab,h10,if_false,hs]
  ·have hi0:(i=0)=False:=by simp; omega
   have hi1:(i+1=0)=False:=by simp; omega
   have htl:(x.args.take k).length=k:=by rw [yF]; omega
   simp (disch:=omega) only [go_sem,Ab,hni,hg,hc,Fg,hi0,if_false,htl]
   refine ⟨i+1,⟨k+1,by omega,hlt⟩,by omega,?_⟩
   simp (disch:=omega) only [go_sem,Ab,hni1,hi1,if_false,hs]
 ·obtain rfl:k=x.args.length:=by omega
  have ht:x.args.take x.args.length=x.args:=yO
  rcases zY x.args.length with h0 | h0
  ·have hx:x.args=[]:=zJ h0
   obtain rfl:i=0:=by omega
   simp (disch:=omega) only [go_sem,Ab,hni,hx,eq_self,if_true,zT,zQ]
  ·have hi0:(i=0)=False:=by simp; omega
   simp (disch:=omega) only [go_sem,Ab,hni,hi0,if_false,ht,hfu,her]
theorem Qav (x:Tm) (hn:x.nodes≤1099511627776):E 135 [x.sv] []=some (x.sv,[]) :=
 Qc8 x hn fun y hy=>Qav y (by have:=Tm.nodes_mem hy; have:=Tm.nodes_eq x; omega)
termination_by SizeOf.sizeOf x
decreasing_by exact Tm.lt_of_mem hy
def Hr:SC:=(.seq (.reg [⟨some 1,none,.boxv 122 3 (.t 0)⟩,⟨(some 2),none,(.alloc 122 [(.bool false),(.str ⟨#[]⟩),.nil])⟩]) (.seq (.dreg [[],[0],[],[2],[3,2],[1,0,4,3,2],[5,1,0,4,3,2]] [⟨some 3,none,.faddr 0 (.t 1)⟩,⟨some 4,none,.load false 1 (.t 3)⟩,⟨some 5,none,.faddr 1 (.t 1)⟩,⟨some 6,none,.load true 2 (.t 5)⟩,⟨some 7,none,.call 187 [(.t 6)]⟩,⟨(some 8),none,(.build [(.bool false),(.str ⟨#[]⟩),.nil] [(0,(1,(.t 4))),(1,(2,(.t 7)))])⟩,⟨none,none,(.store 3 (.t 2) (.t 8))⟩]) .ret))
theorem Nb:codeOf Tryz.prog 159=some ⟨9,Hr,[(.cell 2 true 3)]⟩:=by kernel_rfl
theorem CL:modes 159=⟨[],.own [none,none,some (33,2)],none,false⟩:=by unfold modes; rfl
def Hs:SC:=(.seq (.reg [⟨some 2,none,.boxv 122 3 (.t 0)⟩,⟨some 3,none,.boxv 122 3 (.t 1)⟩,⟨some 4,none,.mv (.c (.bool false))⟩]) (.seq (.reg [⟨some 5,none,.faddr 0 (.t 2)⟩,⟨some 6,none,.load false 1 (.t 5)⟩,⟨some 7,none,.faddr 0 (.t 3)⟩,⟨some 8,none,.load false 1 (.t 7)⟩,⟨some 9,none,.bin .eql true (.t 6) (.t 8)⟩,⟨some 10,none,.mv (.t 9)⟩,⟨(some 11),(some (10,true)),(.faddr 1 (.t 2))⟩,⟨(some 12),(some (10,true)),(.load true 2 (.t 11))⟩,⟨(some 13),(some (10,true)),(.faddr 1 (.t 3))⟩,⟨(some 14),(some (10,true)),(.load true 2 (.t 13))⟩,⟨(some 15),(some (10,true)),(.call 208 [(.t 12),(.t 14)])⟩,⟨some 16,none,.pick (.t 10) (.t 15) (.c (.bool false))⟩,⟨some 4,none,.mv (.t 16)⟩]) .ret))
theorem Nc:codeOf Tryz.prog 217=some ⟨17,Hs,[(.tmp 4)]⟩:=by kernel_rfl
theorem EM:modes 217=⟨[],.asis,none,false⟩:=by unfold modes; rfl
def Ki:SC:=(.seq (.reg [⟨some 2,none,.alloc 60 [.nil]⟩]) (.seq (.reg [⟨some 6,none,.build [.nil] []⟩,⟨some 3,none,.alloc 60 [.nil]⟩,⟨none,none,(.store 1 (.t 3) (.t 6))⟩]) (.seq (.seq (.reg [⟨some 7,none,.mv (.t 0)⟩,⟨some 8,none,.len false (.t 7)⟩,⟨some 9,none,.mv (.c (.int .i64 0))⟩]) (.block 0 (.loop [0,0,1,1,0,0,0,1,1,1,0,0,0,0,0,0,0,0,0,0,0,0,0,0,0,0,0,0,0] (.seq (.reg [⟨some 10,none,.bin .lss false (.t 9) (.t 8)⟩]) (.seq (.cond (.t 10) .skip (.exit 0)) (.seq (.block 1 (.seq (.reg [⟨some 11,none,.iaddr 3 (.t 7) (.t 9)⟩,⟨some 12,none,.load true 3 (.t 11)⟩,⟨(some 5),none,(.alloc 122 [(.bool false),(.str ⟨#[]⟩),.nil])⟩,⟨none,none,(.store 3 (.t 5) (.t 12))⟩]) (.dreg [[],[0],[],[2],[3,2],[1,0,4,3,2],[0,1,2,3,4,5],[6,0,1,2,3,4,5]] [⟨some 13,none,.faddr 0 (.t 3)⟩,⟨some 14,none,.load false 1 (.t 13)⟩,⟨some 15,none,.load true 3 (.t 5)⟩,⟨some 16,none,.call 159 [(.t 15)]⟩,⟨(some 17),none,(.mkrow 122 3 [(.bool false),(.str ⟨#[]⟩),.nil] 1 [(0,(.t 16))])⟩,⟨(some 18),none,(.append 122 3 48 [(.bool false),(.str ⟨#[]⟩),.nil] (.t 14) (.t 17))⟩,⟨some 19,none,.faddr 0 (.t 3)⟩,⟨none,none,(.store 1 (.t 19) (.t 18))⟩]))) (.reg [⟨some 20,none,.bin .add false (.t 9) (.c (.int .i64 1))⟩,⟨some 9,none,.mv (.t 20)⟩]))))))) (.seq (.reg [⟨some 21,none,.faddr 0 (.t 3)⟩,⟨some 22,none,.load false 1 (.t 21)⟩,⟨some 23,none,.call 287 [(.t 22),(.c (.fn 203 []))]⟩]) (.seq (.reg [⟨some 24,none,.faddr 0 (.t 3)⟩,⟨some 25,none,.load false 1 (.t 24)⟩,⟨some 26,none,.call 288 [(.t 25),(.c (.fn 217 []))]⟩,⟨some 27,none,.faddr 0 (.t 3)⟩,⟨none,none,(.store 1 (.t 27) (.t 26))⟩]) (.seq (.reg [⟨some 28,none,.load true 1 (.t 3)⟩,⟨none,none,(.store 1 (.t 2) (.t 28))⟩]) .ret))))))
theorem Qs:codeOf Tryz.prog 222=some ⟨29,Ki,[(.cell 2 true 1)]⟩:=by kernel_rfl
theorem AE:modes 222=⟨[],.own [some (122,3)],none,false⟩:=by unfold modes; rfl
def Mt:SC:=(.seq (.reg [⟨some 2,none,.alloc 60 [.nil]⟩]) (.seq (.reg [⟨(some 7),none,(.mkrow 122 3 [(.bool false),(.str ⟨#[]⟩),.nil] 0 [])⟩,⟨some 3,none,.mv (.t 7)⟩]) (.seq (.seq (.reg [⟨some 4,none,.mv (.c (.int .i64 0))⟩]) (.block 0 (.loop [1,0,1,1,1,0,0,0,0,0,0,0,0,0,0,0,0,0,0,0,0,0,0,0,0,0,0,0,0,0,0,0,0,0,0,0,0,0,0,0,0,0,0,0,0,0,0,0,0,0,0,0,0,0,0,0,0,0,0,0,0,0,0,0,0,0,0,0,0,0,0,0,0,0] (.seq (.seq (.reg [⟨some 8,none,.mv (.t 4)⟩,⟨some 9,none,.mv (.t 0)⟩,⟨some 10,none,.len false (.t 9)⟩,⟨some 11,none,.bin .lss false (.t 8) (.t 10)⟩]) (.cond (.t 11) .skip (.exit 0))) (.seq (.block 1 (.seq (.reg [⟨some 5,none,.mv (.c (.int .i64 0))⟩]) (.seq (.block 2 (.loop [1,0,1,1,1,1,0,0,0,0,0,0,0,0,0,0,0,0,0,0,0,0,0,0,0,0,0,0,0,0,0,0,0,0,0,0,0,0,0,0,0,0,0,0,0,0,0,0,0,0,0,0,0,0,0,0,0,0,0,0,0,0,0,0,0,0,0,0,0,0,0,0,0,0] (.seq (.seq (.dreg [[],[],[1],[0,2,1],[3,0,2,1],[4,3,0,2,1],[4,3,0,2,1],[5,4,3,0,2,1,6],[7,5,4,3,0,2,1,6],[4,3,0,2,1],[4,3,0,2,1],[9,4,3,0,2,1,10],[11,9,4,3,0,2,1,10],[8,7,5,4,3,0,2,1,6,12,11,9,10],[13,8,7,5,4,3,0,2,1,6,12,11,9,10],[4,3,0,2,1,14,13,8,7,5,6,12,11,9,10]] [⟨some 14,none,.mv (.t 5)⟩,⟨some 15,none,.mv (.t 3)⟩,⟨some 16,none,.len false (.t 15)⟩,⟨some 17,none,.bin .lss false (.t 14) (.t 16)⟩,⟨some 18,none,.mv (.t 17)⟩,⟨(some 19),(some (18,true)),(.mv (.t 3))⟩,⟨(some 20),(some (18,true)),(.mv (.t 5))⟩,⟨(some 21),(some (18,true)),(.iaddr 3 (.t 19) (.t 20))⟩,⟨(some 22),(some (18,true)),(.load true 3 (.t 21))⟩,⟨(some 23),(some (18,true)),(.mv (.t 0))⟩,⟨(some 24),(some (18,true)),(.mv (.t 4))⟩,⟨(some 25),(some (18,true)),(.iaddr 3 (.t 23) (.t 24))⟩,⟨(some 26),(some (18,true)),(.load true 3 (.t 25))⟩,⟨(some 27),(some (18,true)),(.call 195 [(.t 22),(.t 26)])⟩,⟨(some 28),(some (18,true)),(.bin .lss false (.t 27) (.c (.int .i64 0)))⟩,⟨some 29,none,.pick (.t 18) (.t 28) (.c (.bool false))⟩]) (.cond (.t 29) .skip (.exit 2))) (.block 3 (.reg [⟨some 30,none,.mv (.t 5)⟩,⟨some 31,none,.bin .add false (.t 30) (.c (.int .i64 1))⟩,⟨some 5,none,.mv (.t 31)⟩]))))) (.seq (.seq (.dreg [[],[],[1],[0,2,1],[3,0,2,1],[4,3,0,2,1],[4,3,0,2,1],[5,4,3,0,2,1,6],[7,5,4,3,0,2,1,6],[4,3,0,2,1],[4,3,0,2,1],[9,4,3,0,2,1,10],[11,9,4,3,0,2,1,10],[8,7,5,4,3,0,2,1,6,12,11,9,10],[13,8,7,5,4,3,0,2,1,6,12,11,9,10],[4,3,0,2,1,14,13,8,7,5,6,12,11,9,10]] [⟨some 32,none,.mv (.t 5)⟩,⟨some 33,none,.mv (.t 3)⟩,⟨some 34,none,.len false (.t 33)⟩,⟨some 35,none,.bin .lss false (.t 32) (.t 34)⟩,⟨some 36,none,.mv (.t 35)⟩,⟨(some 37),(some (36,true)),(.mv (.t 3))⟩,⟨(some 38),(some (36,true)),(.mv (.t 5))⟩,⟨(some 39),(some (36,true)),(.iaddr 3 (.t 37) (.t 38))⟩,⟨(some 40),(some (36,true)),(.load true 3 (.t 39))⟩,⟨(some 41),(some (36,true)),(.mv (.t 0))⟩,⟨(some 42),(some (36,true)),(.mv (.t 4))⟩,⟨(some 43),(some (36,true)),(.iaddr 3 (.t 41) (.t 42))⟩,⟨(some 44),(some (36,true)),(.load true 3 (.t 43))⟩,⟨(some 45),(some (36,true)),(.call 195 [(.t 40),(.t 44)])⟩,⟨(some 46),(some (36,true)),(.bin .eql false (.t 45) (.c (.int .i64 0)))⟩,⟨some 47,none,.pick (.t 36) (.t 46) (.c (.bool false))⟩]) (.cond (.t 47) (.exit 1) .skip)) (.seq (.dreg [[],[],[0,1],[2,0,1],[3,2,0,1],[],[],[5,6],[7,5,6],[8,7,5,6],[9,8,7,5,6],[4,3,2,0,1,10,9,8,7,5,6],[],[12,11,4,3,2,0,1,10,9,8,7,5,6]] [⟨some 48,none,.mv (.t 0)⟩,⟨some 49,none,.mv (.t 4)⟩,⟨some 50,none,.iaddr 3 (.t 48) (.t 49)⟩,⟨some 51,none,.faddr 0 (.t 50)⟩,⟨some 52,none,.load false 1 (.t 51)⟩,⟨some 53,none,.mv (.t 0)⟩,⟨some 54,none,.mv (.t 4)⟩,⟨some 55,none,.iaddr 3 (.t 53) (.t 54)⟩,⟨some 56,none,.faddr 1 (.t 55)⟩,⟨some 57,none,.load true 2 (.t 56)⟩,⟨some 58,none,.call 135 [(.t 57)]⟩,⟨(some 59),none,(.build [(.bool false),(.str ⟨#[]⟩),.nil] [(0,(1,(.t 52))),(1,(2,(.t 58)))])⟩,⟨(some 6),none,(.alloc 122 [(.bool false),(.str ⟨#[]⟩),.nil])⟩,⟨none,none,(.store 3 (.t 6) (.t 59))⟩]) (.dreg [[],[],[],[1,2],[0,3,1,2],[],[5],[4,0,3,1,2,6,5],[],[],[8,9],[7,4,0,3,1,2,6,5,10,8,9],[11,7,4,0,3,1,2,6,5,10,8,9]] [⟨(some 60),none,(.mkrow 122 3 [(.bool false),(.str ⟨#[]⟩),.nil] 0 [])⟩,⟨some 61,none,.mv (.t 3)⟩,⟨some 62,none,.mv (.t 5)⟩,⟨some 63,none,.slice false 3 (.t 61) none (some (.t 62))⟩,⟨(some 64),none,(.append 122 3 48 [(.bool false),(.str ⟨#[]⟩),.nil] (.t 60) (.t 63))⟩,⟨some 65,none,.load true 3 (.t 6)⟩,⟨(some 66),none,(.mkrow 122 3 [(.bool false),(.str ⟨#[]⟩),.nil] 1 [(0,(.t 65))])⟩,⟨(some 67),none,(.append 122 3 48 [(.bool false),(.str ⟨#[]⟩),.nil] (.t 64) (.t 66))⟩,⟨some 68,none,.mv (.t 3)⟩,⟨some 69,none,.mv (.t 5)⟩,⟨some 70,none,.slice false 3 (.t 68) (some (.t 69)) none⟩,⟨(some 71),none,(.append 122 3 48 [(.bool false),(.str ⟨#[]⟩),.nil] (.t 67) (.t 70))⟩,⟨some 3,none,.mv (.t 71)⟩])))))) (.reg [⟨some 12,none,.mv (.t 4)⟩,⟨some 13,none,.bin .add false (.t 12) (.c (.int .i64 1))⟩,⟨some 4,none,.mv (.t 13)⟩])))))) (.seq (.reg [⟨some 72,none,.mv (.t 3)⟩,⟨some 73,none,.build [.nil] [(0,(1,(.t 72)))]⟩,⟨none,none,(.store 1 (.t 2) (.t 73))⟩]) .ret))))
theorem Td:codeOf Tryz.prog 218=some ⟨74,Mt,[(.cell 2 true 1)]⟩:=by kernel_rfl
theorem AF:modes 218=⟨[],.frl [10],none,false⟩:=by unfold modes; rfl
theorem Mu (x:Lt) (hn:x.atom.nodes≤1099511627776):E 159 [x.sv] []=some (x.osv,x.obs):=by
 have h:=RU x.atom hn
 refine Af Nb CL (of_decide_eq_true rfl) ?_
 simp (disch:=omega) only [Hr,go_sem,Ab,h,Gz,Tm.osv,Tm.obs]
theorem Lt.QeS (x y:Lt):dec (x=y)=(bif SP x.pos y.pos then dec (x.atom=y.atom) else false):=by
 obtain ⟨p,a⟩:=x
 obtain ⟨q,b⟩:=y
 have e:((⟨p,a⟩:Lt)=⟨q,b⟩) ↔ (p=q∧a=b):=by rw [Lt.mk.injEq]
 rw [Gw e]
 cases p <;> cases q
 ·show _=dec (a=b)
  exact Gw (and_iff_right rfl)
 ·exact Aj fun h=>by cases h.1
 ·exact Aj fun h=>by cases h.1
 ·show _=dec (a=b)
  exact Gw (and_iff_right rfl)
theorem Mv (x y:Lt) (hnx:x.atom.nodes≤1099511627776) (hny:y.atom.nodes≤1099511627776):E 217 [x.sv,y.sv] []=some (.bool (dec (x=y)),[]):=by
 have h:=Em x.atom y.atom hnx hny
 have b1:(false == true)=false:=rfl
 have b2:(true == false)=false:=rfl
 rw [Lt.QeS]
 cases hp:x.pos <;> cases hq:y.pos
 all_goals
  refine Af Nc EM (of_decide_eq_true rfl) ?_
  simp (disch:=omega) only [Hs,go_sem,Ab,h,hp,hq,b1,b2,SP,AB]
def Lt.fine (x:Lt):Prop:=x.atom.cok=true∧x.atom.nodes≤1099511627776
theorem AN:modes 287=⟨[true],.asis,some HV,false⟩:=by unfold modes; rfl
theorem Qek (t:TypeId) (l:List Lt) (hl:l.length≤1099511627776) (hc:∀ x∈l,x.fine):E 287 [.ref 0,.fn 203 []] [.row t 3 (l.map Lt.o)]=some (.tup [],[.row t 3 ((N8 l).map Lt.o)]):=by
 rw [FH (g:=HV) (congrArg FM.ext AN)]
 unfold HV
 simp only
 rw [An ⟨by first | trivial | rfl,by first | trivial | rfl,by simpa using hl,l,rfl,fun x hx y hy=>NS x y (hc x hx).1 (hc y hy).1 (hc x hx).2 (hc y hy).2⟩,cond_true,QF]
theorem Qbs:E 287 [.nil,.fn 203 []] []=some (.tup [],[]):=by
 rw [FH (g:=HV) (congrArg FM.ext AN)]
 unfold HV
 simp only
 rw [An (by first | trivial | rfl),cond_true]
theorem AG:modes 288=⟨[true],.asis,some DU,false⟩:=by unfold modes; rfl
theorem Zp (t:TypeId) (l:List Lt) (hl:l.length≤1099511627776) (hc:∀ x∈l,x.fine):E 288 [.ref 0,.fn 217 []] [.row t 3 (l.map Lt.o)]=some (.ref 1,[.gone,.row t 3 ((Hk l).map Lt.o)]):=by
 rw [FH (g:=DU) (congrArg FM.ext AG)]
 unfold DU
 simp only
 rw [An ⟨by first | trivial | rfl,by first | trivial | rfl,by simpa using hl,l,rfl,fun x hx y hy=>E_told (Mv x y (hc x hx).2 (hc y hy).2)⟩,cond_true,QF]
theorem VP:E 288 [.nil,.fn 217 []] []=some (.nil,[]):=by
 rw [FH (g:=DU) (congrArg FM.ext AG)]
 unfold DU
 simp only
 rw [An (by first | trivial | rfl),cond_true]
noncomputable def mkC (l:List Lt):Cl:=⟨Hk (N8 l)⟩
theorem Qel:(mkC []).lits=[]:=by
 have e0:N8 []=[]:=List.mergeSort_nil
 unfold mkC
 rw [e0]; rfl
theorem JH (l:List Lt):Du (mkC l).lits:=Vo (PN l)
theorem NV (l:List Lt) (z:Lt):z∈(mkC l).lits ↔ z∈l:=by
 show z∈Hk (N8 l) ↔ _
 rw [Qbf]
 exact (GP l).mem_iff
theorem Qaw (l:List Lt):(mkC l).lits.length≤l.length:=by
 show (Hk (N8 l)).length≤_
 rw [OH]
 have:=Qah (Hj (N8 l)) (N8 l).length
 rw [(GP l).length_eq] at this
 exact Nat.le_trans (by rw [(GP l).length_eq]; exact zI _) this
theorem JI (l:List Lt) (hl:l.length≤1048576) (hf:∀ x∈l,x.fine):E 222 [.arr (l.map Lt.d)] []=some ((mkC l).osv,(mkC l).obs):=by
 have h10:((1:Int)=0)=False:=by simp
 have hsn:=Qbs
 have hcn:=VP
 have hs1:=Qek 122 l (by omega) hf
 have hs2:=Zp 122 (N8 l) (by rw [(GP l).length_eq]; omega) (fun x hx=>hf x ((GP l).mem_iff.1 hx))
 refine Af Qs AE (of_decide_eq_true rfl) ?_
 simp (disch:=omega) only [Ki,go_sem,Ab]
 refine go_loop (α:=Int) (fun a=>⟨slots 29 0 [(2,.ptr 0 0),(3,.ptr 1 0),(7,.arr (l.map Lt.d)),(8,.int .i64 l.length),(9,.int .i64 a)],(if a=0 then [.box 60 [.nil],.box 60 [.nil]] else [.box 60 [.nil],.box 60 [.ref 2],.row 122 3 ((l.take a.toNat).map Lt.o)])⟩) (fun a=>∃ k:Nat,a=k∧k≤(l).length) (fun a=>(l).length-(a).toNat) 0 ⟨0,rfl,zH _⟩ (by simp (disch:=omega) only [go_sem,Ab,eq_self,if_true]) ?_
 rintro i ⟨k,hi,hk⟩
 have hni:i.toNat=k:=by omega
 have hni1:(i+1).toNat=k+1:=by omega
 rcases zE k (l).length with hlt | hge
 ·have hg:=get_at Lt.d hlt
  rw [Lt.d_eq] at hg
  have hc:=Mu l[k] (hf _ (zD hlt)).2
  have hs:=Fh Lt.o hlt
  rw [Lt.o_eq] at hs
  rcases zY k with h0 | h0
  ·subst h0
   obtain rfl:i=0:=hi
   rw [yB,zT,z7] at hs
   simp (disch:=omega) only [go_sem,Ab,hni,hg,hc,CL,eq_self,if_true]
   refine ⟨1,⟨1,rfl,hlt⟩,by omega,?_⟩
   simp (disch:=omega) only [go_sem,Ab,h10,if_false,hs]
  ·have hi0:(i=0)=False:=by simp; omega
   have hi1:(i+1=0)=False:=by simp; omega
   have htl:(l.take k).length=k:=by rw [yF]; omega
   simp (disch:=omega) only [go_sem,Ab,hni,hg,hc,CL,hi0,if_false,htl]
   refine ⟨i+1,⟨k+1,by omega,hlt⟩,by omega,?_⟩
   simp (disch:=omega) only [go_sem,Ab,hni1,hi1,if_false,hs]
 ·obtain rfl:k=l.length:=by omega
  have ht:l.take l.length=l:=yO
  rcases zY l.length with h0 | h0
  ·have hx:l=[]:=zJ h0
   obtain rfl:i=0:=by omega
   have hm:(mkC l).lits=[]:=by rw [hx]; exact Qel
   simp (disch:=omega) only [go_sem,Ab,hni,eq_self,if_true,hsn,hcn,hm,zT,AN,AG]
  ·have hi0:(i=0)=False:=by simp; omega
   have hm:(Hk (N8 l))=(mkC l).lits:=rfl
   simp (disch:=omega) only [go_sem,Ab,hni,hi0,if_false,ht,hs1,hs2,hm,AN,AG]
noncomputable def Dd:List Lt→Lt→Nat
 | [],_=>0
 | y :: r,x=>if y.cmp x < 0 then Dd r x+1 else 0
noncomputable def HN:List Lt→Lt→List Lt
 | [],x=>[x]
 | y :: r,x=>if y.cmp x < 0 then y :: HN r x else if y.cmp x=0 then y :: r else x :: y :: r
theorem Qax (x:Lt):∀ xs:List Lt,Dd xs x≤xs.length
 | []=>zI _
 | y :: r=>by
  rw [Dd]
  have:=Qax x r
  split <;> simp <;> omega
theorem Qbt {xs:List Lt} {x:Lt} {k:Nat} (h:k+Dd (xs.drop k) x=Dd xs x) (hk:k<xs.length):(xs[k].cmp x<0∧k+1+Dd (xs.drop (k+1)) x=Dd xs x)∨(¬ xs[k].cmp x<0∧k=Dd xs x):=by
 rw [zB hk,Dd] at h
 by_cases hq:xs[k].cmp x<0
 ·rw [if_pos hq] at h; exact .inl ⟨hq,by omega⟩
 ·rw [if_neg hq] at h; exact .inr ⟨hq,by omega⟩
theorem RW {x:Lt}:∀ {xs:List Lt} (hlt:Dd xs x<xs.length),xs[Dd xs x].cmp x=0→HN xs x=xs
 | [],hlt,_=>by simp at hlt
 | y :: r,hlt,h=>by
  rw [HN]
  by_cases hq:y.cmp x<0
  ·have e:Dd (y :: r) x=Dd r x+1:=by rw [Dd,if_pos hq]
   rw [if_pos hq]
   simp only [e,zG,zW] at hlt h
   rw [RW (by omega) h]
  ·have e:Dd (y :: r) x=0:=by rw [Dd,if_neg hq]
   simp only [e,zZ] at h
   rw [if_neg hq,if_pos h]
theorem RY {x:Lt}:∀ {xs:List Lt},(∀ hlt:Dd xs x<xs.length,xs[Dd xs x].cmp x≠0)→HN xs x=xs.take (Dd xs x)++[x]++xs.drop (Dd xs x)
 | [],_=>rfl
 | y :: r,h=>by
  rw [HN]
  by_cases hq:y.cmp x<0
  ·have e:Dd (y :: r) x=Dd r x+1:=by rw [Dd,if_pos hq]
   rw [if_pos hq,e,yT,yS,zX,zX]
   rw [RY fun hlt=>?_]
   have:=h (by rw [e]; simpa using hlt)
   simp only [e,zW] at this
   exact this
  ·have e:Dd (y :: r) x=0:=by rw [Dd,if_neg hq]
   have:=h (by rw [e]; simp)
   simp only [e,zZ] at this
   rw [if_neg hq,if_neg this,e]
   rfl
theorem NW (x z:Lt):∀ xs:List Lt,z∈HN xs x ↔ z=x∨z∈xs
 | []=>by simp [HN]
 | y :: r=>by
  rw [HN]
  split
  ·rw [zO,NW x z r,zO]
   constructor
   ·rintro (h | h | h) <;> simp [h]
   ·rintro (h | h | h) <;> simp [h]
  ·split
   ·rename_i h0
    have e:y=x:=(Lt.cmp_ord y x x).zero.1 h0
    subst e
    simp
   ·simp
theorem PV (x:Lt):∀ {xs:List Lt},Du xs→Du (HN xs x)
 | [],_=>List.pairwise_singleton _ _
 | y :: r,h=>by
  obtain ⟨h1,h2⟩:=zR.1 h
  rw [HN]
  split
  ·rename_i hq
   refine zR.2 ⟨fun z hz=>?_,PV x h2⟩
   rcases (NW x z r).1 hz with rfl | hz
   ·exact hq
   ·exact h1 z hz
  ·split
   ·exact h
   ·rename_i hq h0
    have ha:=(Lt.cmp_ord y x x).anti
    have hxy:x.cmp y<0:=by omega
    refine zR.2 ⟨fun z hz=>?_,h⟩
    rcases zO.1 hz with rfl | hz
    ·exact hxy
    ·exact (Lt.cmp_ord x y z).trans hxy (h1 z hz)
theorem X1 (x:Lt):∀ xs:List Lt,(HN xs x).length≤xs.length+1
 | []=>zI _
 | y :: r=>by
  rw [HN]
  have:=X1 x r
  split
  ·simpa using this
  ·split <;> simp
noncomputable def KW (out l:List Lt):List Lt:=l.foldl HN out
theorem Uj (z:Lt):∀ (l out:List Lt),z∈KW out l ↔ z∈out∨z∈l
 | [],out=>by simp [KW]
 | x :: l,out=>by
  show z∈KW (HN out x) l ↔ _
  rw [Uj z l,NW,zO]
  constructor
  ·rintro ((h | h) | h) <;> simp [h]
  ·rintro (h | h | h) <;> simp [h]
theorem NX:∀ (l:List Lt) {out:List Lt},Du out→Du (KW out l)
 | [],_,h=>h
 | x :: l,_,h=>NX l (PV x h)
theorem Qbu (l:List Lt):KW [] l=(mkC l).lits:=J9 (NX l xI) (JH l) fun z=>by
 rw [Uj,NV]; simp
theorem Lt.ot_take (xs:List Lt) (k:Nat):((xs.map Lt.d).take k).map (fun x=>x.map D.ot)=(xs.take k).map fun b=>b.d.map D.ot:=by
 rw [←List.map_take,yG]; rfl
theorem Lt.ot_drop (xs:List Lt) (k:Nat):((xs.map Lt.d).drop k).map (fun x=>x.map D.ot)=(xs.drop k).map fun b=>b.d.map D.ot:=by
 rw [←List.map_drop,yG]; rfl
theorem Lt.al3 (xs:List Lt):((xs.map fun b=>b.d.map D.ot).all fun l=>l.length == 3)=true:=by
 rw [y6,zM]
 intro x _
 show ((x.d.map D.ot).length == 3)=true
 rw [Lt.d_eq]; rfl
theorem Lt.QfD (xs:List Lt):((xs.map Lt.d).all fun l=>l.length == 3)=true:=by
 rw [y6,zM]
 intro x _
 show (x.d.length == 3)=true
 rw [Lt.d_eq]; rfl
theorem Lt.dfu:∀ xs:List Lt,OT.AO (xs.map fun b=>b.d.map D.ot)=true
 | []=>rfl
 | x :: xs=>by rw [zK,Lt.d_eq]; simp [OT.AO,OT.C6,OT.full,D.ot,Lt.dfu xs]
theorem Lt.der:∀ xs:List Lt,OT.erss (xs.map fun b=>b.d.map D.ot)=xs.map Lt.d
 | []=>rfl
 | x :: xs=>by rw [zK,zK,Lt.d_eq]; simp [OT.erss,OT.ers,OT.er,D.ot,Lt.der xs]
theorem KX (l:List Lt) (hl:l.length≤1048576) (hf:∀ x∈l,x.fine):E 218 [.arr (l.map Lt.d)] []=some ((mkC l).sv,[]):=by
 have hsv:(mkC l).sv=.agg [.arr ((KW [] l).map Lt.d)]:=by rw [Qbu]
 rw [hsv]
 refine Af Td AF (of_decide_eq_true rfl) ?_
 simp (disch:=omega) only [Mt,go_sem,Ab]
 refine go_loop (α:=Int × List Lt) (fun a=>⟨slots 74 0 [(0,.arr (l.map Lt.d)),(2,.ptr 0 0),(3,.arr (a.2.map Lt.d)),(4,.int .i64 a.1)],[.box 60 [.nil]]⟩) (fun a=>∃ k:Nat,a.1=k∧k≤l.length∧KW a.2 (l.drop k)=KW [] l∧a.2.length≤k∧∀ y∈a.2,y.fine) (fun a=>l.length-a.1.toNat) (0,[]) ⟨0,rfl,zH _,by rw [zF],zI _,fun y hy=>by cases hy⟩ (by simp (disch:=omega) only [go_sem,Ab]) ?_
 rintro ⟨i,out⟩ ⟨k,hi,hk,hR,hol,hof⟩
 dsimp only at hi hR hol hof
 have hni:i.toNat=k:=by omega
 rcases zE k l.length with hlt | hge
 ·have hg:=get_at Lt.d hlt
  rw [Lt.d_eq] at hg
  have hxf:=hf l[k] (zD hlt)
  have hxn:∀ out2:List Lt,HN out l[k]=out2→KW out2 (l.drop (k+1))=KW [] l:=fun out2 h=>by
   rw [zB hlt] at hR
   rw [←h]
   exact hR
  simp (disch:=omega) only [go_sem,Ab,hni,hg]
  refine go_loop (α:=Int) (fun a=>⟨slots 74 0 [(0,.arr (l.map Lt.d)),(2,.ptr 0 0),(3,.arr (out.map Lt.d)),(4,.int .i64 i),(5,.int .i64 a)],[.box 60 [.nil]]⟩) (fun a=>∃ m:Nat,a=m∧m≤out.length∧m+Dd (out.drop m) l[k]=Dd out l[k]) (fun a=>out.length-a.toNat) 0 ⟨0,rfl,zH _,by rw [zF,yE]⟩ (by simp (disch:=omega) only [go_sem,Ab]) ?_
  rintro j ⟨m,hj,hm,hR2⟩
  have hnj:j.toNat=m:=by omega
  have ho:=Qav l[k].atom hxf.2
  have e1:=Lt.ot_take out (Dd out l[k])
  have e2:=Lt.ot_drop out (Dd out l[k])
  have e3:=Lt.al3 (out.take (Dd out l[k]))
  have e4:=Lt.al3 (out.drop (Dd out l[k]))
  have e5:=Lt.QfD out
  have l1:=Qax l[k] out
  have e6:(out.map Lt.d).take out.length=out.map Lt.d:=yK (by simp)
  have e7:(out.take (Dd out l[k])).length=Dd out l[k]:=by rw [yF]; omega
  have e8:(out.drop (Dd out l[k])).length=out.length-Dd out l[k]:=List.length_drop
  have hfu:=Lt.dfu (HN out l[k])
  have her:=Lt.der (HN out l[k])
  have hpl:=X1 l[k] out
  have hpf:∀ y∈HN out l[k],y.fine:=fun y hy=>by
   rcases (NW l[k] y out).1 hy with rfl | hy
   ·exact hxf
   ·exact hof y hy
  rcases zE m out.length with hltm | hgem
  ·have hgm:=get_at Lt.d hltm
   rw [Lt.d_eq] at hgm
   have hof2:=hof out[m] (zD hltm)
   have hc:=NR out[m] l[k] hof2.1 hxf.1 hof2.2 hxf.2
   rcases Qbt hR2 hltm with ⟨q,hR'⟩ | ⟨q,hm'⟩
   ·simp (disch:=omega) only [go_sem,Ab,hni,hg,hnj,hgm,hc,B7,q]
    exact ⟨j+1,⟨m+1,by omega,hltm,hR'⟩,by omega,by first | trivial | rfl⟩
   ·subst hm'
    by_cases h0:out[Dd out l[k]].cmp l[k]=0
    ·have hp:=RW hltm h0
     rw [h0] at hc
     simp (disch:=omega) only [go_sem,Ab,hni,hg,hnj,hgm,hc,B7,q,h0]
     exact ⟨(i+1,out),⟨k+1,by dsimp only; omega,hlt,hxn _ hp,by dsimp only; omega,hof⟩,by dsimp only; omega,by first | trivial | rfl⟩
    ·have hp:=RY (fun _=>h0)
     have hx2:(out.take (Dd out l[k])).map (fun b=>b.d.map D.ot)++[[OT.bool l[k].pos,.str l[k].atom.name,.sh (l[k].atom.args.map Tm.d)]]++(out.drop (Dd out l[k])).map (fun b=>b.d.map D.ot)=(HN out l[k]).map fun b=>b.d.map D.ot:=by
      rw [hp]
      simp only [z6,zK,List.append_assoc,zX,z7]
      rw [Lt.d_eq]; rfl
     simp (disch:=omega) only [go_sem,Ab,hni,hg,hnj,hgm,hc,B7,q,h0,e1,e2,e3,e4,e5,e6,e7,e8,hx2,hfu,her,ho,zS,zU,Fg]
     exact ⟨(i+1,HN out l[k]),⟨k+1,by dsimp only; omega,hlt,hxn _ rfl,by dsimp only; omega,hpf⟩,by dsimp only; omega,by first | trivial | rfl⟩
  ·obtain rfl:m=out.length:=by omega
   have hk':out.length=Dd out l[k]:=by rw [←hR2,zC (zI _)]; simp [Dd]
   have hp:=RY (x:=l[k]) (xs:=out) (fun hlt=>by omega)
   have hx2:(out.take (Dd out l[k])).map (fun b=>b.d.map D.ot)++[[OT.bool l[k].pos,.str l[k].atom.name,.sh (l[k].atom.args.map Tm.d)]]++(out.drop (Dd out l[k])).map (fun b=>b.d.map D.ot)=(HN out l[k]).map fun b=>b.d.map D.ot:=by
    rw [hp]
    simp only [z6,zK,List.append_assoc,zX,z7]
    rw [Lt.d_eq]; rfl
   rw [hk'] at hnj
   simp (disch:=omega) only [go_sem,Ab,hni,hg,hnj,e1,e2,e3,e4,e5,e6,e7,e8,hx2,hfu,her,ho,zS,zU,Fg]
   exact ⟨(i+1,HN out l[k]),⟨k+1,by dsimp only; omega,hlt,hxn _ rfl,by dsimp only; omega,hpf⟩,by dsimp only; omega,by first | trivial | rfl⟩
 ·rw [zC hge] at hR
  have hR:out=KW [] l:=hR
  rw [←hR]
  simp (disch:=omega) only [go_sem,Ab,hni]
theorem RZ:∀ x y:List UInt8,Op.bytesLess x y=true→Op.bytesLess y x=false
 | [],[],h=>by simp [Op.bytesLess] at h
 | [],_ :: _,_=>rfl
 | _ :: _,[],h=>by simp [Op.bytesLess] at h
 | a :: x,b :: y,h=>by
  simp only [Op.bytesLess,z8,decide_eq_true_eq,zA,beq_iff_eq] at h
  simp only [Op.bytesLess,Bool.or_eq_false_iff,decide_eq_false_iff_not]
  rcases h with h | ⟨rfl,h⟩
  ·have h2:¬ b<a:=by intro h3; exact absurd (UInt8.lt_trans h h3) (UInt8.lt_irrefl _)
   have h3:(b == a)=false:=by
    rw [beq_eq_false_iff_ne]; rintro rfl; exact UInt8.lt_irrefl _ h
   exact ⟨h2,by rw [h3]; rfl⟩
  ·exact ⟨UInt8.lt_irrefl _,by rw [RZ x y h]; simp⟩
theorem Sa:∀ x y:List UInt8,Op.bytesLess x y=false→Op.bytesLess y x=false→x=y
 | [],[],_,_=>rfl
 | [],_ :: _,h,_=>by simp [Op.bytesLess] at h
 | _ :: _,[],_,h=>by simp [Op.bytesLess] at h
 | a :: x,b :: y,h,k=>by
  simp only [Op.bytesLess,Bool.or_eq_false_iff,decide_eq_false_iff_not] at h k
  have hab:a=b:=by
   have h1:=h.1; have h2:=k.1
   rw [UInt8.lt_iff_toNat_lt] at h1 h2
   exact UInt8.toNat_inj.1 (by omega)
  subst hab
  have h1:Op.bytesLess x y=false:=by simpa using h.2
  have h2:Op.bytesLess y x=false:=by simpa using k.2
  rw [Sa x y h1 h2]
theorem X2 {a b:ByteArray} (h:strLt a b=true):strLt b a=false:=RZ _ _ h
theorem PW {a b:ByteArray} (h:strLt a b=false) (h':strLt b a=false):a=b:=O7 (Sa _ _ h h')
theorem Sc:∀ x y z:List UInt8,Op.bytesLess x y=true→Op.bytesLess y z=true→Op.bytesLess x z=true
 | _,_,[],_,h=>by simp [Op.bytesLess] at h
 | [],[],_ :: _,h,_=>by simp [Op.bytesLess] at h
 | [],_ :: _,_ :: _,_,_=>rfl
 | _ :: _,[],_ :: _,h,_=>by simp [Op.bytesLess] at h
 | a :: x,b :: y,c :: z,h,k=>by
  simp only [Op.bytesLess,z8,decide_eq_true_eq,zA,beq_iff_eq] at h k ⊢
  rcases h with h | ⟨rfl,h⟩
  ·rcases k with k | ⟨rfl,k⟩
   ·exact .inl (UInt8.lt_trans h k)
   ·exact .inl h
  ·rcases k with k | ⟨rfl,k⟩
   ·exact .inl k
   ·exact .inr ⟨rfl,Sc x y z h k⟩
theorem X3 {a b c:ByteArray} (h:strLt a b=true) (k:strLt b c=true):strLt a c=true:=Sc _ _ _ h k
noncomputable def QfE (x:Bd):Bool:=AY x.var&&(x.term.valid&&!dec (x.term.name=x.var))
noncomputable def QfF (xs:List Bd) (k:Nat):Bool:=match xs[k]? with
 | none=>true
 | some x=>QfE x&&(match k with
  | 0=>true
  | j+1=>match xs[j]? with
   | none=>true
   | some y=>strLt y.var x.var)
noncomputable def Qfz (xs:List Bd):Nat→Bool
 | 0=>true
 | k+1=>Qfz xs k&&QfF xs k
noncomputable def Sb.ok (x:Sb):Bool:=decide (x.binds.length≤12)&&Qfz x.binds x.binds.length
def Qc9:List Bd→ByteArray→Nat
 | [],_=>0
 | x :: xs,n=>if strLt x.var n then Qc9 xs n+1 else 0
noncomputable def Qem (xs:List Bd) (n:ByteArray):Bool:=match xs[Qc9 xs n]? with
 | none=>false
 | some b=>dec (b.var=n)
theorem Qen {xs:List Bd} {n:ByteArray} (h:Qem xs n=true):Qc9 xs n<xs.length:=by
 rcases zE (Qc9 xs n) xs.length with h1 | h1
 ·exact h1
 ·unfold Qem at h; rw [List.getElem?_eq_none h1] at h; cases h
noncomputable def Sb.look (x:Sb) (n:ByteArray):Option Tm:=if h:Qem x.binds n=true then some (x.binds[Qc9 x.binds n]'(Qen h)).term else none
mutual
noncomputable def Tm.ap (f:ByteArray→Option Tm):Tm→Tm
 | .mk name args=>if AY name then (f name).getD (.mk name []) else .mk name (Tm.apL f args)
noncomputable def Tm.apL (f:ByteArray→Option Tm):List Tm→List Tm
 | []=>[]
 | x :: xs=>Tm.ap f x :: Tm.apL f xs
end
theorem Tm.Pa {x:Tm} (h:x.names=true) (hv:AY x.name=true):x.args=[]:=by
 rw [Tm.Hm,if_pos hv] at h
 exact zJ (by simpa using h)
theorem Tm.Jc {x:Tm} (h:x.names=true) {y:Tm} (hy:y∈x.args):y.names=true:=by
 rw [Tm.Hm] at h
 split at h
 ·have:x.args=[]:=zJ (by simpa using h)
  rw [this] at hy; cases hy
 ·rw [zA,Tm.EP,zM] at h
  exact h.2 y hy
noncomputable def Tm.expr (x:Tm):Bool:=x.valid || x.atom
theorem Tm.Zq {x:Tm} (h:x.expr=true):x.small=true:=by
 unfold Tm.expr Tm.atom Tm.valid at h
 cases hs:x.small with
 | true=>rfl
 | false =>
  rw [hs] at h
  split at h <;> simp at h
theorem Tm.Sd {x:Tm} (h:x.expr=true):x.nodes≤30:=by
 have:=Tm.Zq h
 unfold Tm.small at this
 rw [zA,decide_eq_true_eq] at this
 exact this.1
theorem Tm.Se {x:Tm} (h:x.expr=true):x.names=true∨(x.eqn=true∧Tm.Gj x.args=true):=by
 unfold Tm.expr Tm.valid at h
 cases hn:x.names with
 | true=>exact .inl rfl
 | false =>
  rw [hn,yC,xG] at h
  unfold Tm.atom at h
  split at h
  ·rename_i he
   rw [zA] at h
   exact .inr ⟨he,h.2⟩
  ·unfold Tm.valid at h; rw [hn,yC,yC] at h; cases h
theorem Tm.QcA {x:Tm} (h:x.expr=true) {y:Tm} (hy:y∈x.args):y.names=true:=by
 rcases Tm.Se h with h1 | ⟨h1,h2⟩
 ·exact Tm.Jc h1 hy
 ·rw [Tm.EP,zM] at h2; exact h2 y hy
theorem Tm.Sf:∀ xs:List Tm,(∀ x∈xs,x.nodes≤1+x.bulk)→Tm.nodeS xs≤xs.length+Tm.sumB xs
 | [],_=>by simp [Tm.nodeS]
 | x :: xs,h=>by
  have h1:=h x (by simp)
  have h2:=Tm.Sf xs fun y hy=>h y (by simp [hy])
  rw [Tm.nodeS,Tm.sumB]; simp only [zG]; omega
theorem Tm.Sg (x:Tm):x.nodes≤1+x.bulk:=by
 rw [Tm.nodes_eq,Tm.bulk_eq]
 have:=Tm.Sf x.args fun y hy=>Tm.Sg y
 omega
termination_by SizeOf.sizeOf x
decreasing_by exact Tm.lt_of_mem hy
theorem Uk {s:ByteArray} (h:AY s=true):s.size≤6:=by
 unfold AY inB at h
 simp at h
 omega
theorem Ul {s:ByteArray} (h:E0 s=true):s.size≤6:=by
 unfold E0 inB at h
 simp at h
 omega
theorem Tm.Nd:∀ xs:List Tm,(∀ x∈xs,x.bulk+1≤8*x.nodes)→xs.length+Tm.sumB xs≤8*Tm.nodeS xs
 | [],_=>by simp [Tm.nodeS,Tm.sumB]
 | x :: xs,h=>by
  have h1:=h x (by simp)
  have h2:=Tm.Nd xs fun y hy=>h y (by simp [hy])
  rw [Tm.nodeS,Tm.sumB]; simp only [zG]; omega
theorem Tm.Sh (x:Tm) (h:x.names=true):x.bulk+1≤8*x.nodes:=by
 have h1:=Tm.Nd x.args fun y hy=>Tm.Sh y (Tm.Jc h hy)
 have h2:x.name.size≤6:=by
  rw [Tm.Hm] at h
  split at h
  ·rename_i hv; exact Uk hv
  ·rw [zA,zA] at h; exact Ul h.1.1
 rw [Tm.nodes_eq,Tm.bulk_eq]
 omega
termination_by SizeOf.sizeOf x
decreasing_by exact Tm.lt_of_mem hy
noncomputable def QeT (s:Sb) (x:Tm):Bool:=s.ok&&(x.expr&&(x.ap s.look).small)
noncomputable def LY (s:Sb) (x:Tm):Tm:=if QeT s x then x.ap s.look else .mk ⟨#[]⟩ []
theorem Tm.Um {x:Tm} (h:x.atom=true):x.expr=true:=by unfold Tm.expr; rw [h,y5]
theorem Tm.Cm {x:Tm} (h:x.atom=true):x.nodes≤30:=Tm.Sd (Tm.Um h)
theorem Qbv {s:ByteArray} (h:E0 s=true):AY s=false:=by
 unfold E0 inB at h
 rw [zA,zA,zA,decide_eq_true_eq,decide_eq_true_eq] at h
 have hs:0<s.size:=by omega
 have h1:=Hp h.1.1 hs
 unfold KI at h1
 simp at h1
 have h2:=h1.1
 have hu:RD (Kd s 0)=false:=by
  unfold Vi at h2
  unfold RD
  simp at h2 ⊢
  omega
 rw [yL]
 intro hv
 unfold AY at hv
 rw [zA] at hv
 have h1:=Hp hv.1 hs
 unfold Ke at h1
 rw [hu] at h1
 simp at h1
theorem QcB {l:List Lt} (hl:l.length≤1048576) (hf:∀ x∈l,x.fine):(mkC l).tame:=by
 have:=Qaw l
 exact ⟨by omega,fun y hy=>(hf y ((NV l y).1 hy)).2⟩
theorem Tm.Jd {x:Tm} (h:x.atom=true):(AY x.name=true→x.args=[])∧∀ y∈x.args,y.names=true:=by
 unfold Tm.atom at h
 cases he:x.eqn with
 | true =>
  rw [he,if_pos rfl,zA,zA] at h
  have h2:=h.2
  rw [Tm.EP,zM] at h2
  refine ⟨fun hv=>?_,h2⟩
  have hn:=Aq.1 he
  have hnv0:AY ⟨#[61]⟩=false:=by kernel_rfl
  rw [hn,hnv0] at hv
  cases hv
 | false =>
  rw [he,if_neg (by simp),zA] at h
  have hnm:x.names=true:=by have h3:=h.2; unfold Tm.valid at h3; rw [zA] at h3; exact h3.2
  exact ⟨fun hv=>Tm.Pa hnm hv,fun y hy=>Tm.Jc hnm hy⟩
mutual
noncomputable def Tm.vs:Tm→List ByteArray
 | .mk name args=>bif AY name then [name] else Tm.vsL args
noncomputable def Tm.vsL:List Tm→List ByteArray
 | []=>[]
 | x :: xs=>Tm.vs x++Tm.vsL xs
end
theorem Tm.Qay (x:Tm):x.vs=bif AY x.name then [x.name] else Tm.vsL x.args:=by
 obtain ⟨n,a⟩:=x
 rw [Tm.vs]; rfl
theorem Tm.vsL_mem {v:ByteArray}:∀ {xs:List Tm},v∈Tm.vsL xs ↔ ∃ x∈xs,v∈x.vs
 | []=>by simp [Tm.vsL]
 | x :: xs=>by rw [Tm.vsL,yA,Tm.vsL_mem (xs:=xs)]; simp
theorem Tm.Qaz:∀ xs:List Tm,(∀ x∈xs,x.vs.length≤x.nodes)→(Tm.vsL xs).length≤Tm.nodeS xs
 | [],_=>by simp [Tm.vsL]
 | x :: xs,h=>by
  have h1:=h x (by simp)
  have h2:=Tm.Qaz xs fun y hy=>h y (by simp [hy])
  rw [Tm.vsL,Tm.nodeS,zS]; omega
theorem Tm.vs_len (x:Tm):x.vs.length≤x.nodes:=by
 have h:=Tm.Qaz x.args fun y hy=>Tm.vs_len y
 rw [Tm.Qay,Tm.nodes_eq]
 cases AY x.name with
 | true=>simp
 | false=>simp only [cond_false]; omega
termination_by SizeOf.sizeOf x
decreasing_by exact Tm.lt_of_mem hy
noncomputable def IB (l:List ByteArray) (n:ByteArray):List ByteArray:=bif dec (n∈l) then l else l++[n]
theorem QcC (l:List ByteArray) (n:ByteArray):(IB l n).length≤l.length+1:=by
 unfold IB
 cases dec (n∈l) <;> simp
theorem QcD {l:List ByteArray} {n m:ByteArray}:m∈IB l n ↔ m∈l∨m=n:=by
 unfold IB
 by_cases h:n∈l
 ·rw [An h,cond_true]
  exact ⟨.inl,fun h'=>h'.elim id fun e=>e▸h⟩
 ·rw [Aj h,cond_false]
  simp
theorem Zr {l:List ByteArray} {n:ByteArray} (h:l.Nodup):(IB l n).Nodup:=by
 unfold IB
 by_cases k:n∈l
 ·rw [An k]; exact h
 ·rw [Aj k,cond_false,List.nodup_append]
  exact ⟨h,by simp,fun a ha b hb e=>by simp at hb; subst hb; subst e; exact k ha⟩
noncomputable def BA (l ns:List ByteArray):List ByteArray:=ns.foldl IB l
theorem E2:∀ (ns l:List ByteArray),(BA l ns).length≤l.length+ns.length
 | [],l=>by simp [BA]
 | n :: ns,l=>by
  have h:=E2 ns (IB l n)
  have h2:=QcC l n
  simp only [BA,zP,zG] at h ⊢
  omega
theorem Si:∀ {ns l:List ByteArray} {m:ByteArray},m∈BA l ns ↔ m∈l∨m∈ns
 | [],l,m=>by simp [BA]
 | n :: ns,l,m=>by
  have h:=Si (ns:=ns) (l:=IB l n) (m:=m)
  simp only [BA,zP] at h ⊢
  rw [h,QcD]
  simp only [zO]
  exact or_assoc
theorem JJ:∀ {ns l:List ByteArray},l.Nodup→(BA l ns).Nodup
 | [],l,h=>h
 | n :: ns,l,h=>JJ (ns:=ns) (Zr h)
theorem Je (l a b:List ByteArray):BA l (a++b)=BA (BA l a) b:=yY
def D8:SC:=(.seq (.reg [⟨some 4,none,.mv (.c (.int .i64 0))⟩]) (.seq (.seq (.reg [⟨some 6,none,.mv (.t 0)⟩,⟨some 7,none,.len false (.t 6)⟩,⟨some 8,none,.mv (.c (.int .i64 0))⟩]) (.block 0 (.loop [1,1,0,0,0,0,0,1,1,0,0,0,0,0,0,0,0,0,0] (.seq (.reg [⟨some 9,none,.bin .lss false (.t 8) (.t 7)⟩]) (.seq (.cond (.t 9) .skip (.exit 0)) (.seq (.block 1 (.seq (.reg [⟨some 10,none,.mv (.t 8)⟩,⟨some 5,none,.mv (.t 10)⟩]) (.seq (.reg [⟨some 11,none,.mv (.t 1)⟩,⟨some 12,none,.mv (.t 0)⟩,⟨some 13,none,.mv (.t 5)⟩,⟨some 14,none,.iaddr 1 (.t 12) (.t 13)⟩,⟨some 15,none,.load false 1 (.t 14)⟩,⟨some 16,none,.bin .eql false (.t 11) (.t 15)⟩]) (.cond (.t 16) (.seq (.reg [⟨some 17,none,.mv (.t 5)⟩,⟨some 4,none,.mv (.t 17)⟩]) .ret) .skip)))) (.reg [⟨some 18,none,.bin .add false (.t 8) (.c (.int .i64 1))⟩,⟨some 8,none,.mv (.t 18)⟩]))))))) (.seq (.reg [⟨some 4,none,.mv (.c (.int .i64 (-(0+1))))⟩]) .ret)))
theorem G0:codeOf Tryz.prog 259=some ⟨19,D8,[(.tmp 4)]⟩:=by kernel_rfl
theorem D9:modes 259=⟨[],.asis,none,false⟩:=by unfold modes; rfl
def Dc:SC:=(.seq (.reg [⟨some 4,none,.mv (.c (.bool false))⟩]) (.seq (.reg [⟨some 5,none,.mv (.t 0)⟩,⟨some 6,none,.mv (.t 1)⟩,⟨some 7,none,.call 259 [(.t 5),(.t 6)]⟩,⟨some 8,none,.bin .geq false (.t 7) (.c (.int .i64 0))⟩,⟨some 4,none,.mv (.t 8)⟩]) .ret))
theorem F1:codeOf Tryz.prog 185=some ⟨9,Dc,[(.tmp 4)]⟩:=by kernel_rfl
theorem AQ:modes 185=⟨[],.asis,none,false⟩:=by unfold modes; rfl
theorem QcE (xs:List ByteArray) (n:ByteArray) (hl:xs.length≤1099511627776):E 259 [.arr (xs.map fun s=>[D.str s]),.str n] []=some (.int .i64 (DI (fun s=>dec (n=s)) xs 0),[]):=by
 refine Af G0 D9 (of_decide_eq_true rfl) ?_
 simp (disch:=omega) only [D8,go_sem,Ab]
 refine go_loop (α:=Int) (fun a=>⟨slots 19 0 [(0,.arr (xs.map fun s=>[D.str s])),(1,.str n),(7,.int .i64 xs.length),(8,.int .i64 a)],[]⟩) (fun a=>∃ k:Nat,a=k∧k≤(xs).length∧DI (fun s=>dec (n=s)) (xs.drop k) a=DI (fun s=>dec (n=s)) xs 0) (fun a=>(xs).length-(a).toNat) 0 ⟨0,rfl,zH _,by rw [zF]⟩ (by simp (disch:=omega) only [go_sem,Ab]) ?_
 rintro i ⟨k,hi,hk,hR⟩
 have hni:i.toNat=k:=by omega
 have hni1:(i+1).toNat=k+1:=by omega
 rcases zE k (xs).length with hlt | hge
 ·have hg:=get_at (fun s=>[D.str s]) hlt
  rw [zB hlt,DI] at hR
  cases hp:dec (n=xs[k]) with
  | true =>
   rw [hp] at hR
   simp (disch:=omega) only [go_sem,Ab,hni,hg,hp]
   simpa using hR
  | false =>
   rw [hp] at hR
   simp (disch:=omega) only [go_sem,Ab,hni,hg,hp]
   exact ⟨i+1,⟨k+1,by omega,hlt,by simpa using hR⟩,by omega,by first | trivial | rfl⟩
 ·rw [zC hge,DI] at hR
  simp (disch:=omega) only [go_sem,Ab,hni]
  exact hR
theorem KY (xs:List ByteArray) (n:ByteArray) (hl:xs.length≤1099511627776):E 185 [.arr (xs.map fun s=>[D.str s]),.str n] []=some (.bool (dec (n∈xs)),[]):=by
 have h:=QcE xs n hl
 have e:dec (n∈xs)=dec (0≤DI (fun s=>dec (n=s)) xs 0):=by
  rw [IY]
  by_cases hm:n∈xs
  ·rw [An hm]
   exact (yP.2 ⟨n,hm,An rfl⟩).symm
  ·rw [Aj hm]
   refine Eq.symm (yL.2 fun h=>?_)
   obtain ⟨x,h1,h2⟩:=yP.1 h
   have e:=Aq.1 h2
   subst e
   exact hm h1
 rw [e]
 refine Af F1 AQ (of_decide_eq_true rfl) ?_
 simp (disch:=omega) only [Dc,go_sem,Ab,h,D9]
theorem Jf:∀ (ns l:List ByteArray),l.length≤(BA l ns).length
 | [],l=>by simp [BA]
 | n :: ns,l=>by
  have h:=Jf ns (IB l n)
  have h2:l.length≤(IB l n).length:=by unfold IB; cases dec (n∈l) <;> simp
  simp only [BA,zP] at h ⊢
  omega
def Ec:SC:=(.seq (.reg [⟨some 3,none,.boxv 33 2 (.t 1)⟩,⟨some 4,none,.mv (.c .nil)⟩]) (.seq (.seq (.reg [⟨some 7,none,.faddr 1 (.t 3)⟩,⟨some 8,none,.load false 1 (.t 7)⟩,⟨some 9,none,.len false (.t 8)⟩,⟨some 10,none,.bin .eql false (.t 9) (.c (.int .i64 0))⟩,⟨some 11,none,.mv (.t 10)⟩,⟨(some 12),(some (11,true)),(.load true 2 (.t 3))⟩,⟨(some 13),(some (11,true)),(.call 209 [(.t 12)])⟩,⟨some 14,none,.pick (.t 11) (.t 13) (.c (.bool false))⟩]) (.cond (.t 14) (.seq (.seq (.reg [⟨some 15,none,.mv (.t 0)⟩,⟨some 16,none,.faddr 0 (.t 3)⟩,⟨some 17,none,.load false 1 (.t 16)⟩,⟨some 18,none,.call 185 [(.t 15),(.t 17)]⟩,⟨some 19,none,.un .not (.t 18)⟩]) (.cond (.t 19) (.reg [⟨some 20,none,.mv (.t 0)⟩,⟨some 21,none,.faddr 0 (.t 3)⟩,⟨some 22,none,.load false 1 (.t 21)⟩,⟨(some 23),none,(.mkrow 9 1 [(.str ⟨#[]⟩)] 1 [(0,(.t 22))])⟩,⟨(some 24),none,(.append 9 1 16 [(.str ⟨#[]⟩)] (.t 20) (.t 23))⟩,⟨some 0,none,.mv (.t 24)⟩]) .skip)) (.seq (.reg [⟨some 25,none,.mv (.t 0)⟩,⟨some 4,none,.mv (.t 25)⟩]) .ret)) .skip)) (.seq (.seq (.reg [⟨some 26,none,.faddr 1 (.t 3)⟩,⟨some 27,none,.load false 1 (.t 26)⟩,⟨some 28,none,.len false (.t 27)⟩,⟨some 29,none,.mv (.c (.int .i64 0))⟩]) (.block 0 (.loop [1,0,0,0,0,0,0,0,0,0,0,0,0,0,0,0,0,0,0,0,0,0,0,0,0,0,0,1,1,1,0,0,0,0,0,0,0,0] (.seq (.reg [⟨some 30,none,.bin .lss false (.t 29) (.t 28)⟩]) (.seq (.cond (.t 30) .skip (.exit 0)) (.seq (.block 1 (.seq (.reg [⟨some 31,none,.iaddr 2 (.t 27) (.t 29)⟩,⟨some 32,none,.load true 2 (.t 31)⟩,⟨(some 6),none,(.alloc 33 [(.str ⟨#[]⟩),.nil])⟩,⟨none,none,(.store 2 (.t 6) (.t 32))⟩]) (.reg [⟨some 33,none,.mv (.t 0)⟩,⟨some 34,none,.load true 2 (.t 6)⟩,⟨some 35,none,.call 193 [(.t 33),(.t 34)]⟩,⟨some 0,none,.mv (.t 35)⟩]))) (.reg [⟨some 36,none,.bin .add false (.t 29) (.c (.int .i64 1))⟩,⟨some 29,none,.mv (.t 36)⟩]))))))) (.seq (.reg [⟨some 37,none,.mv (.t 0)⟩,⟨some 4,none,.mv (.t 37)⟩]) .ret))))
theorem Fj:codeOf Tryz.prog 193=some ⟨38,Ec,[(.tmp 4)]⟩:=by kernel_rfl
theorem Cu:modes 193=⟨[true],.asis,none,false⟩:=by unfold modes; rfl
abbrev QcF (x:Tm):Prop:=∀ l:List ByteArray,l.length+x.nodes≤1048576→E 193 [.ref 0,x.sv] [.row 9 1 (l.map fun s=>[OT.str s])]=some ((bif dec (l.length<(BA l x.vs).length) then .ref 1 else .ref 0),(bif dec (l.length<(BA l x.vs).length) then [.gone,.row 9 1 ((BA l x.vs).map fun s=>[OT.str s])] else [.row 9 1 ((BA l x.vs).map fun s=>[OT.str s])]))
theorem Sj (x:Tm) (hva:AY x.name=true→x.args=[]) (hc:x.cok=true) (ih:∀ y∈x.args,QcF y):QcF x:=by
 intro l hn
 have hl:=Tm.length_le x.args
 have hne:=Tm.nodes_eq x
 have hv:=LR x hc
 have hvs:=Tm.Qay x
 rcases zY x.args.length with h0 | h0
 ·have hx0:x.args=[]:=zJ h0
  have hz:((x.args.length:Int)=0)=True:=by rw [hx0]; simp
  cases hvv:AY x.name with
  | true =>
   rw [hvv] at hv hvs
   have h1:=KY l x.name (by omega)
   rw [hvs]
   cases hm:dec (x.name∈l) with
   | true =>
    have e:BA l [x.name]=l:=by simp only [BA,zP,xA,IB,hm,cond_true]
    rw [hm] at h1
    simp only [cond_true,e]
    refine Af Fj Cu (of_decide_eq_true rfl) ?_
    simp (disch:=omega) only [Ec,go_sem,Ab,hz,hv,h1,Cp,AQ]
   | false =>
    have e:BA l [x.name]=l++[x.name]:=by simp only [BA,zP,xA,IB,hm,cond_false]
    have hg:l.length<(l++[x.name]).length:=by simp
    rw [hm] at h1
    simp only [cond_true,e,An hg]
    refine Af Fj Cu (of_decide_eq_true rfl) ?_
    simp (disch:=omega) only [Ec,go_sem,Ab,hz,hv,h1,Cp,AQ]
    simp only [z6,zK,zT]
  | false =>
   rw [hvv] at hv hvs
   have e:BA l x.vs=l:=by rw [hvs,hx0]; simp only [cond_false,Tm.vsL]; rfl
   rw [e]
   refine Af Fj Cu (of_decide_eq_true rfl) ?_
   simp (disch:=omega) only [Ec,go_sem,Ab,hz,hv,Cp]
   refine go_loop (α:=Int) (fun a=>⟨slots 38 0 [(0,.ref 0),(27,.arr (x.args.map Tm.d)),(28,.int .i64 x.args.length),(29,.int .i64 a)],[.row 9 1 (l.map fun s=>[OT.str s])]⟩) (fun a=>∃ k:Nat,a=k∧k≤(x.args).length) (fun a=>(x.args).length-(a).toNat) 0 ⟨0,rfl,zH _⟩ (by simp (disch:=omega) only [go_sem,Ab]) ?_
   rintro i ⟨k,hi,hk⟩
   have hni:i.toNat=k:=by omega
   have hni1:(i+1).toNat=k+1:=by omega
   rcases zE k (x.args).length with hlt | hge
   ·omega
   ·simp (disch:=omega) only [go_sem,Ab,hni]
 ·have hz:((x.args.length:Int)=0)=False:=eq_false (by omega)
  have hvv:AY x.name=false:=by
   cases h:AY x.name with
   | false=>rfl
   | true=>rw [hva h] at h0; simp at h0
  rw [hvv] at hvs
  simp only [cond_false] at hvs
  rw [hvs]
  refine Af Fj Cu (of_decide_eq_true rfl) ?_
  simp (disch:=omega) only [Ec,go_sem,Ab,hz]
  refine go_loop (α:=Int × (List ByteArray)) (fun a=>⟨slots 38 0 [(0,(bif dec (l.length<(a.2).length) then .ref 1 else .ref 0)),(27,.arr (x.args.map Tm.d)),(28,.int .i64 x.args.length),(29,.int .i64 (a.1))],(bif dec (l.length<(a.2).length) then [.gone,.row 9 1 ((a.2).map fun s=>[OT.str s])] else [.row 9 1 ((a.2).map fun s=>[OT.str s])])⟩) (fun a=>∃ k:Nat,a.1=k∧k≤(x.args).length∧BA (a.2) (Tm.vsL (x.args.drop k))=BA l (Tm.vsL x.args)∧(a.2).length+Tm.nodeS (x.args.drop k)≤1048576∧l.length≤(a.2).length) (fun a=>(x.args).length-(a.1).toNat) (0,l) ⟨0,rfl,zH _,by rw [zF],by rw [zF]; dsimp only; omega,zI _⟩ (by simp (disch:=omega) only [go_sem,Ab]) ?_
  rintro ⟨i,acc⟩ ⟨k,hi,hk,hR⟩
  dsimp only at hi hR
  have hni:i.toNat=k:=by omega
  have hni1:(i+1).toNat=k+1:=by omega
  rcases zE k (x.args).length with hlt | hge
  ·have hg:=get_at Tm.d hlt
   rw [Tm.d_eq] at hg
   obtain ⟨hR1,hR2,hR3⟩:=hR
   rw [zB hlt,Tm.vsL,Je] at hR1
   rw [zB hlt,Tm.nodeS] at hR2
   have hc:=ih x.args[k] (zD hlt) acc (by omega)
   have hlen:=E2 x.args[k].vs acc
   have hgr:=Jf x.args[k].vs acc
   have hvl:=Tm.vs_len x.args[k]
   obtain ⟨acc2,ha2⟩:∃ a,a=BA acc x.args[k].vs:=⟨_,rfl⟩
   rw [←ha2] at hc hlen hgr hR1
   rcases zE l.length acc.length with q1 | q1 <;> rcases zE acc.length acc2.length with q2 | q2
   all_goals
    first
     |rw [An q2] at hc
     |rw [Aj (yV.2 q2)] at hc
    simp only [cond_true,cond_false] at hc
    simp (disch:=omega) only [go_sem,Ab,hni,hg,hc,Cu]
    refine ⟨(i+1,acc2),⟨k+1,by dsimp only; omega,hlt,hR1,by dsimp only; omega,by dsimp only; omega⟩,by dsimp only; omega,?_⟩
    first | done | simp (disch:=omega) only [go_sem,Ab]
  ·rw [zC hge,Tm.vsL] at hR
   obtain ⟨hR1,hR2,hR3⟩:=hR
   have hR1:acc=BA l (Tm.vsL x.args):=hR1
   rw [←hR1]
   rcases zE l.length acc.length with q1 | q1
   ·simp (disch:=omega) only [go_sem,Ab,hni]
   ·simp (disch:=omega) only [go_sem,Ab,hni]
theorem Un (x:Tm) (hx:x.names=true) (hc:x.cok=true):QcF x :=
 Sj x (fun h=>Tm.Pa hx h) hc fun y hy=>Un y (Tm.Jc hx hy) (by rw [Tm.MR,zA] at hc; exact Tm.Hh hc.2 hy)
termination_by SizeOf.sizeOf x
decreasing_by exact Tm.lt_of_mem hy
noncomputable def JK (l:List ByteArray):List ByteArray:=(srt (l.map (·.toList))).map fun x=>⟨x.toArray⟩
theorem Pb (l:List ByteArray):(JK l).Perm l:=by
 unfold JK
 have h:(srt (l.map (·.toList))).Perm (l.map (·.toList)):=List.mergeSort_perm _ _
 have h2:=h.map fun x:List UInt8=>(⟨x.toArray⟩:ByteArray)
 rw [yG] at h2
 have e:((fun x:List UInt8=>(⟨x.toArray⟩:ByteArray)) ∘ fun x:ByteArray=>x.toList)=id:=by
  funext x
  exact EH x
 rw [e,List.map_id] at h2
 exact h2
theorem Bm:modes 119=⟨[true],.asis,some sortStr,false⟩:=by unfold modes; rfl
theorem VQ (l:List ByteArray) (hl:l.length≤1099511627776):E 119 [.ref 0] [.row 9 1 (l.map fun s=>[OT.str s])]=some (.tup [],[.row 9 1 ((JK l).map fun s=>[OT.str s])]):=by
 rw [FH (g:=sortStr) (congrArg FM.ext Bm)]
 unfold sortStr
 simp only
 rw [An ⟨by first | trivial | rfl,fun e he=>by obtain ⟨s,_,rfl⟩:=List.mem_map.1 he; exact ⟨s,rfl⟩,by simpa using hl⟩,cond_true]
 have e1:(l.map fun s=>[OT.str s]).map (fun e=>(KJ e).toList)=l.map (·.toList):=by rw [yG]; rfl
 rw [e1]
 unfold JK
 rw [yG]
 rfl
noncomputable def Tm.vars (x:Tm):List ByteArray:=JK (BA [] x.vs)
def FL:SC:=(.seq (.reg [⟨some 1,none,.boxv 33 2 (.t 0)⟩,⟨some 2,none,.mv (.c .nil)⟩]) (.seq (.reg [⟨(some 4),none,(.mkrow 9 1 [(.str ⟨#[]⟩)] 0 [])⟩,⟨some 5,none,.load true 2 (.t 1)⟩,⟨some 6,none,.call 193 [(.t 4),(.t 5)]⟩,⟨some 3,none,.mv (.t 6)⟩]) (.seq (.reg [⟨some 7,none,.mv (.t 3)⟩,⟨some 8,none,.call 119 [(.t 7)]⟩]) (.seq (.reg [⟨some 9,none,.mv (.t 3)⟩,⟨some 2,none,.mv (.t 9)⟩]) .ret))))
theorem Jg:codeOf Tryz.prog 186=some ⟨10,FL,[(.tmp 2)]⟩:=by kernel_rfl
theorem FN:modes 186=⟨[],.asis,none,false⟩:=by unfold modes; rfl
theorem VR (x:Tm) (hcol:QcF x) (hn:x.nodes≤1048576):E 186 [x.sv] []=some (.ref 0,[.row 9 1 (x.vars.map fun s=>[OT.str s])]):=by
 have h1:=hcol [] (by simpa using hn)
 have hl:=E2 x.vs []
 have hv:=Tm.vs_len x
 rw [zQ,yE] at hl
 have h2:=VQ (BA [] x.vs) (by omega)
 rw [zT,zQ] at h1
 unfold Tm.vars
 rcases zE 0 (BA [] x.vs).length with q | q
 ·rw [An q] at h1
  simp only [cond_true] at h1
  refine Af Jg FN (of_decide_eq_true rfl) ?_
  simp (disch:=omega) only [FL,go_sem,Ab,h1,h2,Cu,Bm]
 ·rw [Aj (by omega)] at h1
  simp only [cond_false] at h1
  refine Af Jg FN (of_decide_eq_true rfl) ?_
  simp (disch:=omega) only [FL,go_sem,Ab,h1,h2,Cu,Bm]
theorem Sk (x:Tm) (h:x.atom=true):QcF x :=
 Sj x (Tm.Jd h).1 (Tm.IZ h) fun y hy=>Un y ((Tm.Jd h).2 y hy) (Tm.OW y ((Tm.Jd h).2 y hy))
noncomputable def Lt.vsL:List Lt→List ByteArray
 | []=>[]
 | x :: xs=>x.atom.vs++Lt.vsL xs
theorem Cl.Dx {x:Cl} (h:x.ok=true):x.lits.length≤8:=by
 unfold Cl.ok at h
 rw [zA,decide_eq_true_eq] at h
 exact h.1
theorem Cl.JL {x:Cl} (h:x.ok=true) {k:Nat} (hk:k<x.lits.length):x.lits[k].atom.atom=true:=by
 unfold Cl.ok at h
 rw [zA,decide_eq_true_eq] at h
 exact OY h.2 hk hk
theorem Cl.Ci {x:Cl} (h:x.ok=true):∀ y∈x.lits,y.atom.atom=true:=fun y hy=>by
 obtain ⟨k,hk,rfl⟩:=yH hy
 exact Cl.JL h hk
theorem Cl.vs_len {c:Cl} (hc:c.ok=true):(Lt.vsL c.lits).length≤240:=by
 have hl:=Cl.Dx hc
 have key:∀ xs:List Lt,(∀ x∈xs,x.atom.nodes≤30)→(Lt.vsL xs).length≤30*xs.length:=by
  intro xs
  induction xs with
  | nil=>intro _; exact zI _
  | cons x xs ih =>
   intro h
   have h1:=h x (by simp)
   have h2:=ih fun y hy=>h y (by simp [hy])
   have h3:=Tm.vs_len x.atom
   rw [Lt.vsL,zS,zG]; omega
 have:=key c.lits fun x hx=>by
  obtain ⟨k,hk,rfl⟩:=yH hx
  exact Tm.Cm (Cl.JL hc hk)
 omega
def KZ:SC:=(.seq (.reg [⟨some 1,none,.boxv 60 1 (.t 0)⟩,⟨some 2,none,.mv (.c .nil)⟩]) (.seq (.reg [⟨(some 6),none,(.mkrow 9 1 [(.str ⟨#[]⟩)] 0 [])⟩,⟨some 3,none,.mv (.t 6)⟩]) (.seq (.seq (.reg [⟨some 7,none,.faddr 0 (.t 1)⟩,⟨some 8,none,.load false 1 (.t 7)⟩,⟨some 9,none,.len false (.t 8)⟩,⟨some 10,none,.mv (.c (.int .i64 0))⟩]) (.block 0 (.loop [0,0,0,1,0,0,0,0,1,1,1,0,0,0,0,0,0,0,0,0] (.seq (.reg [⟨some 11,none,.bin .lss false (.t 10) (.t 9)⟩]) (.seq (.cond (.t 11) .skip (.exit 0)) (.seq (.block 1 (.seq (.reg [⟨some 12,none,.iaddr 3 (.t 8) (.t 10)⟩,⟨some 13,none,.load true 3 (.t 12)⟩,⟨(some 5),none,(.alloc 122 [(.bool false),(.str ⟨#[]⟩),.nil])⟩,⟨none,none,(.store 3 (.t 5) (.t 13))⟩]) (.reg [⟨some 14,none,.mv (.t 3)⟩,⟨some 15,none,.faddr 1 (.t 5)⟩,⟨some 16,none,.load true 2 (.t 15)⟩,⟨some 17,none,.call 193 [(.t 14),(.t 16)]⟩,⟨some 3,none,.mv (.t 17)⟩]))) (.reg [⟨some 18,none,.bin .add false (.t 10) (.c (.int .i64 1))⟩,⟨some 10,none,.mv (.t 18)⟩]))))))) (.seq (.reg [⟨some 19,none,.mv (.t 3)⟩,⟨some 2,none,.mv (.t 19)⟩]) .ret))))
theorem Sl:codeOf Tryz.prog 204=some ⟨20,KZ,[(.tmp 2)]⟩:=by kernel_rfl
theorem Ed:modes 204=⟨[],.asis,none,false⟩:=by unfold modes; rfl
theorem Uo (c:Cl) (hc:c.ok=true):E 204 [c.sv] []=some (.ref 0,[.row 9 1 ((BA [] (Lt.vsL c.lits)).map fun s=>[OT.str s])]):=by
 have hl:=Cl.Dx hc
 refine Af Sl Ed (of_decide_eq_true rfl) ?_
 simp (disch:=omega) only [KZ,go_sem,Ab]
 refine go_loop (α:=Int × (List ByteArray)) (fun a=>⟨slots 20 0 [(3,.ref 0),(8,.arr (c.lits.map Lt.d)),(9,.int .i64 c.lits.length),(10,.int .i64 (a.1))],[.row 9 1 ((a.2).map fun s=>[OT.str s])]⟩) (fun a=>∃ k:Nat,a.1=k∧k≤(c.lits).length∧BA (a.2) (Lt.vsL (c.lits.drop k))=BA [] (Lt.vsL c.lits)∧(a.2).length≤30*k) (fun a=>(c.lits).length-(a.1).toNat) (0,[]) ⟨0,rfl,zH _,by rw [zF],zI _⟩ (by simp (disch:=omega) only [go_sem,Ab]) ?_
 rintro ⟨i,acc⟩ ⟨k,hi,hk,hR⟩
 dsimp only at hi hR
 have hni:i.toNat=k:=by omega
 have hni1:(i+1).toNat=k+1:=by omega
 rcases zE k (c.lits).length with hlt | hge
 ·have hg:=get_at Lt.d hlt
  rw [Lt.d_eq] at hg
  obtain ⟨hR1,hR2⟩:=hR
  rw [zB hlt,Lt.vsL,Je] at hR1
  have hnn:=Tm.Cm (Cl.JL hc hlt)
  have hcl:=Sk c.lits[k].atom (Cl.JL hc hlt) acc (by omega)
  have has:c.lits[k].atom.sv=.agg [.str c.lits[k].atom.name,.arr (c.lits[k].atom.args.map Tm.d)]:=rfl
  have hlen:=E2 c.lits[k].atom.vs acc
  have hvl:=Tm.vs_len c.lits[k].atom
  obtain ⟨acc2,ha2⟩:∃ a,a=BA acc c.lits[k].atom.vs:=⟨_,rfl⟩
  rw [←ha2] at hcl hlen hR1
  rcases zE acc.length acc2.length with q2 | q2
  all_goals
   first
    |rw [An q2] at hcl
    |rw [Aj (yV.2 q2)] at hcl
   simp only [cond_true,cond_false] at hcl
   simp (disch:=omega) only [go_sem,Ab,hni,hg,has,hcl,Cu]
   refine ⟨(i+1,acc2),⟨k+1,by dsimp only; omega,hlt,hR1,by dsimp only; omega⟩,by dsimp only; omega,?_⟩
   first | trivial | rfl | exact ⟨rfl,rfl⟩
 ·rw [zC hge,Lt.vsL] at hR
  obtain ⟨hR1,hR2⟩:=hR
  have hR1:acc=_:=hR1
  rw [←hR1]
  simp (disch:=omega) only [go_sem,Ab,hni]
abbrev SEnv:=ByteArray→Option ByteArray
def Gn (e:SEnv):MF
 | .str s=>match e s with
  | some n=>some (false,[.str n])
  | none=>none
 | .int _=>none
theorem LS (e:SEnv) (s:ByteArray):Gn e (.str s)=match e s with | some n=>some (false,[.str n]) | none=>none:=rfl
noncomputable def Qbw (e:SEnv) (s n:ByteArray):SEnv:=fun q=>bif dec (q=s) then some n else e q
theorem Qbx (e:SEnv) (s n:ByteArray):Qj (Gn e) (.str s) (false,[.str n])=Gn (Qbw e s n):=by
 funext k
 cases k with
 | int i=>rw [J0 (fun h=>by cases h)]; rfl
 | str q =>
  rw [N0,LS,LS]
  unfold Qbw
  cases dec (q=s) <;> rfl
theorem Zs:Gn (fun _=>none)=nomap:=by
 funext k
 cases k <;> rfl
mutual
noncomputable def Tm.rn (e:SEnv):Tm→Tm
 | .mk n args=>.mk (bif args.isEmpty then (e n).getD n else n) (Tm.rnL e args)
noncomputable def Tm.rnL (e:SEnv):List Tm→List Tm
 | []=>[]
 | x :: xs=>Tm.rn e x :: Tm.rnL e xs
end
theorem Tm.Qa0 (e:SEnv):∀ xs:List Tm,Tm.rnL e xs=xs.map (Tm.rn e)
 | []=>by rw [Tm.rnL]; rfl
 | x :: xs=>by rw [Tm.rnL,Tm.Qa0 e xs]; rfl
theorem Tm.Sm (e:SEnv) (x:Tm):x.rn e=.mk (bif x.args.isEmpty then (e x.name).getD x.name else x.name) (x.args.map (Tm.rn e)):=by
 obtain ⟨n,args⟩:=x
 rw [Tm.rn,Tm.Qa0]; rfl
theorem Tm.X4 (e:SEnv) (x:Tm):(x.rn e).nodes=x.nodes:=by
 have key:∀ xs:List Tm,(∀ y∈xs,(y.rn e).nodes=y.nodes)→Tm.nodeS (xs.map (Tm.rn e))=Tm.nodeS xs:=by
  intro xs
  induction xs with
  | nil=>intro _; rfl
  | cons y ys ih =>
   intro h
   rw [zK,Tm.nodeS,Tm.nodeS,h y (by simp),ih fun z hz=>h z (by simp [hz])]
 rw [Tm.Sm,Tm.nodes_eq,Tm.nodes_eq]
 show 1+Tm.nodeS (x.args.map (Tm.rn e))=_
 rw [key x.args fun y hy=>Tm.X4 e y]
termination_by SizeOf.sizeOf x
decreasing_by exact Tm.lt_of_mem hy
theorem Zt {n:Int} (h0:0≤n) (h:n<10):GF n=⟨#[UInt8.ofNat (48+n.toNat)]⟩:=by
 obtain ⟨u,rfl⟩:∃ u:Nat,n=u:=⟨n.toNat,by omega⟩
 unfold GF
 rw [Lib.itoa_nonneg,Lib.decDigits,dif_pos (by omega)]
 rfl
theorem QcG {n:Int} (h:10≤n):GF n=GF (n.tdiv 10)++⟨#[UInt8.ofNat (48+(n.tmod 10).toNat)]⟩:=by
 obtain ⟨u,rfl⟩:∃ u:Nat,n=u:=⟨n.toNat,by omega⟩
 have e1:(u:Int).tdiv 10=((u / 10:Nat):Int):=by rw [Int.tdiv_eq_ediv_of_nonneg (by omega)]; rfl
 have e2:((u:Int).tmod 10).toNat=u % 10:=by rw [Int.tmod_eq_emod_of_nonneg (by omega)]; omega
 rw [e1,e2]
 unfold GF
 rw [Lib.itoa_nonneg,Lib.itoa_nonneg,Lib.decDigits,dif_neg (by omega)]
 have key:∀ (x:List UInt8) (y:UInt8),(⟨(x++[y]).toArray⟩:ByteArray)=⟨x.toArray⟩++⟨#[y]⟩:=fun x y=>by
  have e:∀ a b:ByteArray,a.data=b.data→a=b:=fun a b h=>by cases a; cases b; cases h; rfl
  apply e
  simp
 exact key _ _
def pre (p:ByteArray) (n:Int):ByteArray:=p++GF n
theorem Fk:modes 189=⟨[],.asis,some (LX Ub),false⟩:=by unfold modes; rfl
theorem QcH (n:Int) (h0:0≤n) (h1:n≤1099511627776):E 189 [.int .i64 n] []=some (.str (GF n),[]) :=
 Ud (g:=Ub) (congrArg FM.ext Fk) (by simp only [Ub,An (⟨h0,h1⟩:0≤n∧n≤1099511627776),cond_true])
noncomputable def Cl.ns (c:Cl):List ByteArray:=BA [] (Lt.vsL c.lits)
def Te:ByteArray:=⟨#[88]⟩
theorem Cl.Sn {c:Cl} (h:c.ok=true):c.ns.length≤240:=by
 have h1:=E2 (Lt.vsL c.lits) []
 have h2:=Cl.vs_len h
 unfold Cl.ns
 simp only [zQ] at h1
 omega
theorem Cl.ns_nodup (c:Cl):c.ns.Nodup:=JJ List.nodup_nil
theorem Lt.vsL_mem {v:ByteArray}:∀ {xs:List Lt},v∈Lt.vsL xs ↔ ∃ x∈xs,v∈x.atom.vs
 | []=>by simp [Lt.vsL]
 | x :: xs=>by rw [Lt.vsL,yA,Lt.vsL_mem (xs:=xs)]; simp
theorem Cl.QeU {c:Cl} {v:ByteArray}:v∈c.ns ↔ ∃ x∈c.lits,v∈x.atom.vs:=by
 unfold Cl.ns
 rw [Si,Lt.vsL_mem]
 simp
noncomputable def Ht (p:ByteArray) (l:List ByteArray):SEnv:=l.zipIdx.foldl (fun e x=>Qbw e x.1 (pre p (x.2:Nat))) fun _=>none
theorem Pc (p:ByteArray) {l:List ByteArray} {k:Nat} (h:k<l.length):Ht p (l.take (k+1))=Qbw (Ht p (l.take k)) l[k] (pre p (k:Nat)):=by
 unfold Ht
 rw [←List.take_append_getElem h,List.zipIdx_append,yY]
 have e:(l.take k).length=k:=by rw [yF]; omega
 simp only [List.zipIdx_cons,List.zipIdx_nil,zP,xA,e,yE]
theorem Qa1 (p:ByteArray) {l:List ByteArray} (hn:l.Nodup):∀ (n k:Nat) (hk:k<l.length),n≤l.length→k<n→Ht p (l.take n) l[k]=some (pre p (k:Nat))
 | 0,k,hk,_,h=>absurd h (by omega)
 | n+1,k,hk,hl,h=>by
  rw [Pc p (by omega:n<l.length)]
  unfold Qbw
  by_cases e:k=n
  ·subst e
   rw [An rfl,cond_true]
  ·have hne:l[k]≠l[n]:=fun he=>e ((List.getElem_inj hn).1 he)
   rw [Aj hne,cond_false]
   exact Qa1 p hn n k hk (by omega) (by omega)
theorem X5 (p:ByteArray) {l:List ByteArray} (hn:l.Nodup) {k:Nat} (hk:k<l.length):Ht p l l[k]=some (pre p (k:Nat)):=by
 have h:=Qa1 p hn l.length k hk (zI _) hk
 rw [yO] at h
 exact h
theorem X6 (p:ByteArray) {l:List ByteArray} {q:ByteArray} (hq:q ∉ l):∀ n,n≤l.length→Ht p (l.take n) q=none
 | 0,_=>by rw [yB]; rfl
 | n+1,h=>by
  rw [Pc p (by omega:n<l.length)]
  unfold Qbw
  rw [Aj (show ¬ q=l[n] from fun e=>hq (by rw [e]; exact zD _)),cond_false]
  exact X6 p hq n (by omega)
theorem Pd (p:ByteArray) {l:List ByteArray} {q:ByteArray} (hq:q ∉ l):Ht p l q=none:=by
 have h:=X6 p hq l.length (zI _)
 rw [yO] at h
 exact h
def VS (e:SEnv):Prop:=∀ s n,e s=some n→AY s=true∧AY n=true
theorem QcI:∀ i:_root_.Fin 300,AY (pre Te (i.val:Nat))=true:=by decide +kernel
theorem Qby {p:ByteArray} (hp:∀ i:_root_.Fin 300,AY (pre p (i.val:Nat))=true) {l:List ByteArray} (hn:l.Nodup) (hl:l.length≤240) (hv:∀ s∈l,AY s=true):VS (Ht p l):=fun s n h=>by
 by_cases hs:s∈l
 ·obtain ⟨k,hk,rfl⟩:=yH hs
  rw [X5 p hn hk] at h
  obtain rfl:=Option.some.inj h
  exact ⟨hv _ hs,hp ⟨k,by omega⟩⟩
 ·rw [Pd p hs] at h
  cases h
theorem Tm.QcJ {v:ByteArray}:∀ x:Tm,v∈x.vs→AY v=true
 | .mk n a=>fun h=>by
  rw [Tm.vs] at h
  cases hv:AY n with
  | true =>
   rw [hv,cond_true,yW] at h
   subst h; exact hv
  | false =>
   rw [hv,cond_false,Tm.vsL_mem] at h
   obtain ⟨y,hy,h⟩:=h
   exact Tm.QcJ y h
termination_by x=>SizeOf.sizeOf x
decreasing_by exact Tm.lt_of_mem (x:=.mk n a) hy
theorem Cl.QcK {c:Cl} {s:ByteArray} (h:s∈c.ns):AY s=true:=by
 obtain ⟨x,_,h⟩:=Cl.QeU.1 h
 exact Tm.QcJ _ h
theorem Tm.QcL (e:SEnv) (x:Tm):(x.rn e).name=(bif x.args.isEmpty then (e x.name).getD x.name else x.name)∧(x.rn e).args=x.args.map (Tm.rn e):=by
 rw [Tm.Sm]; exact ⟨rfl,rfl⟩
theorem Up {e:SEnv} {xs:List Tm} (h:∀ y∈xs,(y.rn e).names=true):Tm.Gj (xs.map (Tm.rn e))=true:=by
 rw [Tm.EP,zM]
 intro z hz
 obtain ⟨y,hy,rfl⟩:=List.mem_map.1 hz
 exact h y hy
theorem Tm.Qa2 {e:SEnv} (he:VS e) (x:Tm) (hv:AY x.name=false):(x.rn e).name=x.name:=by
 rw [(Tm.QcL e x).1]
 cases hx:e x.name with
 | none=>cases x.args.isEmpty <;> rfl
 | some n =>
  have:=(he _ _ hx).1
  rw [hv] at this; cases this
theorem Tm.So {e:SEnv} (he:VS e) (x:Tm) (h:x.names=true):(x.rn e).names=true:=by
 have h1:=Tm.QcL e x
 rw [Tm.Hm] at h ⊢
 rw [h1.2,zL]
 cases hv:AY x.name with
 | true =>
  rw [hv,if_pos rfl] at h
  have h0:x.args=[]:=zJ (by simpa using h)
  have hn:AY (x.rn e).name=true:=by
   rw [h1.1,h0]
   show AY ((e x.name).getD x.name)=true
   cases hx:e x.name with
   | none=>exact hv
   | some n=>exact (he _ _ hx).2
  rw [hn,if_pos rfl]
  exact h
 | false =>
  rw [hv,if_neg (by simp)] at h
  rw [Tm.Qa2 he x hv,hv,if_neg (by simp)]
  rw [zA] at h ⊢
  refine ⟨h.1,Up fun y hy=>Tm.So he y ?_⟩
  have h2:=h.2
  rw [Tm.EP,zM] at h2
  exact h2 y hy
termination_by SizeOf.sizeOf x
decreasing_by exact Tm.lt_of_mem hy
theorem Tm.Qa3 (e:SEnv) (x:Tm):(x.rn e).deep=x.deep:=by
 have key:∀ xs:List Tm,(∀ y∈xs,(y.rn e).deep=y.deep)→Tm.EZ (xs.map (Tm.rn e))=Tm.EZ xs:=by
  intro xs
  induction xs with
  | nil=>intro _; rfl
  | cons y ys ih =>
   intro h
   rw [zK,Tm.EZ,Tm.EZ,h y (by simp),ih fun z hz=>h z (by simp [hz])]
 rw [Tm.Sm,Tm.NM,Tm.NM]
 show Tm.EZ (x.args.map (Tm.rn e))+1=_
 rw [key x.args fun y hy=>Tm.Qa3 e y]
termination_by SizeOf.sizeOf x
decreasing_by exact Tm.lt_of_mem hy
theorem Tm.X7 (e:SEnv) (x:Tm):(x.rn e).small=x.small:=by
 unfold Tm.small
 rw [Tm.X4,Tm.Qa3]
theorem Tm.Qeo {e:SEnv} (he:VS e) (x:Tm) (h:x.atom=true):(x.rn e).atom=true:=by
 have hv:AY x.name=false:=by
  unfold Tm.atom at h
  split at h
  ·rename_i hq
   have:x.name=⟨#[61]⟩:=Aq.1 hq
   rw [this]; decide +kernel
  ·rw [zA] at h
   exact Qbv h.1
 have hn:=Tm.Qa2 he x hv
 have hq:(x.rn e).eqn=x.eqn:=by unfold Tm.eqn; rw [hn]
 unfold Tm.atom at h ⊢
 rw [hq,hn,Tm.X7,(Tm.QcL e x).2,zL]
 split at h
 ·rename_i hb
  rw [if_pos hb]
  rw [zA] at h ⊢
  refine ⟨h.1,Up fun y hy=>Tm.So he y ?_⟩
  have h2:=h.2
  rw [Tm.EP,zM] at h2
  exact h2 y hy
 ·rename_i hb
  rw [if_neg hb]
  rw [zA] at h ⊢
  refine ⟨h.1,?_⟩
  have h2:=h.2
  unfold Tm.valid at h2 ⊢
  rw [zA] at h2 ⊢
  exact ⟨by rw [Tm.X7]; exact h2.1,Tm.So he x h2.2⟩
noncomputable def Lt.rn (e:SEnv) (x:Lt):Lt:=⟨x.pos,x.atom.rn e⟩
noncomputable def Cl.rn (e:SEnv) (c:Cl):Cl:=mkC (c.lits.map (Lt.rn e))
theorem Dk {x:Lt} (h:x.atom.atom=true):x.fine:=⟨Tm.IZ h,by have:=Tm.Cm h; omega⟩
theorem Pe {xs:List Lt}:∀ {k:Nat},GH xs k=true→k≤xs.length→∀ (j:Nat) (h:j+1<k) (hl:j+1<xs.length),(xs[j]'(by omega)).cmp xs[j+1]<0
 | 0,_,_,j,h,_=>absurd h (by omega)
 | k+1,hk,hle,j,h,hl=>by
  rw [GH,zA] at hk
  rcases zE (j+1) k with h1 | h1
  ·exact Pe hk.1 (by omega) j h1 hl
  ·obtain rfl:k=j+1:=by omega
   have h2:=hk.2
   rw [El hl,zA,decide_eq_true_eq] at h2
   exact h2.2
theorem X8 {xs:List Lt} (h:GH xs xs.length=true):Du xs:=by
 unfold Du
 rw [yX]
 intro i j hi hj hij
 obtain ⟨d,rfl⟩:∃ d,j=i+1+d:=⟨j-(i+1),by omega⟩
 clear hij
 induction d with
 | zero=>exact Pe h (zI _) i hj hj
 | succ d ih =>
  have h1:=ih (by omega)
  have h2:=Pe h (zI _) (i+1+d) hj hj
  exact (Lt.cmp_ord _ _ _).trans h1 h2
theorem X9 {xs:List Lt} (h2:∀ x∈xs,x.atom.atom=true) (h3:Du xs):GH xs xs.length=true:=by
 have key:∀ k,k≤xs.length→GH xs k=true:=by
  intro k
  induction k with
  | zero=>intro _; rfl
  | succ k ih =>
   intro hk
   rw [GH,ih (by omega),yQ]
   cases k with
   | zero=>rw [GR (by omega)]; exact h2 _ (zD _)
   | succ k =>
    rw [El (by omega),h2 _ (zD _),yQ,decide_eq_true_eq]
    exact yX.1 h3 k (k+1) (by omega) (by omega) (by omega)
 exact key _ (zI _)
theorem Cl.Qbz {c:Cl} (h:c.ok=true):Du c.lits:=by
 unfold Cl.ok at h
 rw [zA] at h
 exact X8 h.2
theorem Cl.QcM {l:List Lt} (h1:l.length≤8) (h2:∀ x∈l,x.atom.atom=true) (h3:Du l):(Cl.mk l).ok=true:=by
 unfold Cl.ok
 rw [zA,decide_eq_true_eq]
 exact ⟨h1,X9 h2 h3⟩
theorem QcN {l:List Lt} (h1:l.length≤8) (h2:∀ x∈l,x.atom.atom=true):(mkC l).ok=true :=
 Cl.QcM (Nat.le_trans (Qaw l) h1) (fun x hx=>h2 x ((NV l x).1 hx)) (JH l)
theorem QcO {l:List Lt} (h:Du l):mkC l=⟨l⟩:=by
 have:(mkC l).lits=l:=J9 (JH l) h fun z=>NV l z
 exact congrArg Cl.mk this
theorem Lt.Sp {e:SEnv} (he:VS e) {l:List Lt} (h:∀ x∈l,x.atom.atom=true):∀ x∈l.map (Lt.rn e),x.atom.atom=true:=fun z hz=>by
 obtain ⟨x,hx,rfl⟩:=List.mem_map.1 hz
 exact Tm.Qeo he _ (h x hx)
theorem Cl.QcP {e:SEnv} (he:VS e) {c:Cl} (h:c.ok=true):(c.rn e).ok=true :=
 QcN (by rw [zL]; exact Cl.Dx h) (Lt.Sp he (Cl.Ci h))
theorem Cl.xE {c:Cl} (h:c.ok=true):VS (Ht Te c.ns):=Qby QcI c.ns_nodup (Cl.Sn h) fun s=>Cl.QcK
def Sq (l:List ByteArray):Prop:=∀ (i:Nat) (h:i<l.length),l[i]=pre Te (i:Nat)
noncomputable def Cl.norm (c:Cl):Bool:=dec (Sq c.ns)
noncomputable def nz:Nat→Cl→Cl
 | 0,c=>c
 | n+1,c=>bif c.norm then c else nz n (c.rn (Ht Te c.ns))
theorem Qa4:∀ (n:Nat) {c:Cl},c.ok=true→(nz n c).ok=true
 | 0,c,h=>h
 | n+1,c,h=>by
  rw [nz]
  cases c.norm with
  | true=>exact h
  | false=>exact Qa4 n (Cl.QcP (Cl.xE h) h)
def QfG (x y:Bd):Bool:=!strLt y.var x.var
noncomputable def QeV (u:Sb) (b:Bd):Option Bd:=bif dec ((b.term.ap u.look).name=b.var) then none else some ⟨b.var,b.term.ap u.look⟩
noncomputable def Qf0 (s u:Sb):List Bd:=s.binds.filterMap (QeV u)
noncomputable def Qf1 (s u:Sb):List Bd:=u.binds.filter fun b=>!Qem s.binds b.var
noncomputable def QeW (s u:Sb):List Bd:=Qf0 s u++Qf1 s u
noncomputable def Qf2 (s u:Sb):Sb:=⟨(QeW s u).mergeSort QfG⟩
mutual
def Tm.wt:Tm→Nat
 | .mk name args=>1+Tm.wtS args
def Tm.wtS:List Tm→Nat
 | []=>0
 | x :: xs=>Tm.wt x+Tm.wtS xs
end
theorem Tm.wt_eq (x:Tm):x.wt=1+Tm.wtS x.args:=by
 obtain ⟨name,args⟩:=x
 rw [Tm.wt]; rfl
mutual
noncomputable def Tm.mk1:Tm→Int→Tm × Int
 | .mk name args,k=>((Tm.mk (EO k) ((Tm.mkS args (k+1)).1)),(Tm.mkS args (k+1)).2)
noncomputable def Tm.mkS:List Tm→Int→List Tm × Int
 | [],k=>([],k)
 | x :: xs,k=>((Tm.mk1 x k).1 :: (Tm.mkS xs (Tm.mk1 x k).2).1,(Tm.mkS xs (Tm.mk1 x k).2).2)
end
theorem Tm.mk1_eq (x:Tm) (k:Int):x.mk1 k=((Tm.mk (EO k) ((Tm.mkS x.args (k+1)).1)),(Tm.mkS x.args (k+1)).2):=by
 obtain ⟨name,args⟩:=x
 rw [Tm.mk1]; rfl
theorem Tm.mk1_d (x:Tm) (k:Int):Tm.d (x.mk1 k).1=[.str (EO k),.arr ((Tm.mkS x.args (k+1)).1.map Tm.d)]:=by
 rw [Tm.mk1_eq,Tm.d_eq]
 try rfl
theorem Tm.mk1_o (x:Tm) (k:Int):Tm.o (x.mk1 k).1=[.str (EO k),.ow ((Tm.mkS x.args (k+1)).1.map Tm.o)]:=by
 rw [Tm.mk1_eq,Tm.o_eq]
 try rfl
theorem Tm.mkS_end_of:∀ (xs:List Tm) (k:Int),(∀ x∈xs,∀ k,(x.mk1 k).2=k+x.wt)→(Tm.mkS xs k).2=k+Tm.wtS xs
 | [],k,_=>by simp [Tm.mkS,Tm.wtS]
 | x :: xs,k,h=>by
  rw [Tm.mkS,Tm.wtS]
  have h1:=h x (by simp) k
  have h2:=Tm.mkS_end_of xs (x.mk1 k).2 fun y hy=>h y (by simp [hy])
  dsimp only
  omega
theorem Tm.mk1_end (x:Tm) (k:Int):(x.mk1 k).2=k+x.wt:=by
 rw [Tm.mk1_eq,Tm.wt_eq]
 have h:=fun k=>Tm.mkS_end_of x.args k fun y hy k=>Tm.mk1_end y k
 simp only [h]
 omega
termination_by SizeOf.sizeOf x
decreasing_by exact Tm.lt_of_mem hy
theorem Tm.mkS_end (xs:List Tm) (k:Int):(Tm.mkS xs k).2=k+Tm.wtS xs:=Tm.mkS_end_of xs k fun x _ k=>Tm.mk1_end x k
theorem Tm.wtS_of:∀ xs:List Tm,(∀ x∈xs,x.wt≤5*(1+x.bulk))→Tm.wtS xs≤5*(xs.length+Tm.sumB xs)
 | [],_=>by simp [Tm.wtS]
 | x :: xs,h=>by
  have h1:=h x (by simp)
  have h2:=Tm.wtS_of xs fun y hy=>h y (by simp [hy])
  rw [Tm.wtS,Tm.sumB]; simp only [zG]; omega
theorem Tm.wt_bulk (x:Tm):x.wt≤5*(1+x.bulk):=by
 rw [Tm.wt_eq,Tm.bulk_eq]
 have h:=Tm.wtS_of x.args fun y hy=>Tm.wt_bulk y
 omega
termination_by SizeOf.sizeOf x
decreasing_by exact Tm.lt_of_mem hy
theorem Tm.wtS_bulk (xs:List Tm):Tm.wtS xs≤5*(xs.length+Tm.sumB xs):=Tm.wtS_of xs fun x _=>Tm.wt_bulk x
theorem Tm.length_wt:∀ xs:List Tm,xs.length≤Tm.wtS xs
 | []=>zI _
 | x :: xs=>by
  have:=Tm.length_wt xs
  have:=Tm.wt_eq x
  rw [Tm.wtS]; simp only [zG]; omega
def Jh:SC:=(.seq (.reg [⟨some 4,none,.mv (.c (.int .i64 0))⟩]) (.seq (.seq (.reg [⟨some 5,none,.mv (.c (.int .i64 0))⟩]) (.block 0 (.loop [1,1,0,0,0,1,0,0,0,0,0,0,0,0,0,0,0,0,0,0,0,0,0,0,0,0,0,0] (.seq (.seq (.reg [⟨some 6,none,.mv (.t 5)⟩,⟨some 7,none,.mv (.t 0)⟩,⟨some 8,none,.len false (.t 7)⟩,⟨some 9,none,.bin .lss false (.t 6) (.t 8)⟩]) (.cond (.t 9) .skip (.exit 0))) (.seq (.block 1 (.seq (.reg [⟨some 12,none,.mv (.t 0)⟩,⟨some 13,none,.mv (.t 5)⟩,⟨some 14,none,.mv (.t 1)⟩,⟨some 15,none,.call 63 [(.t 14)]⟩,⟨some 16,none,.iaddr 2 (.t 12) (.t 13)⟩,⟨some 17,none,.faddr 0 (.t 16)⟩,⟨none,none,(.store 1 (.t 17) (.t 15))⟩]) (.seq (.reg [⟨some 18,none,.mv (.t 1)⟩,⟨some 19,none,.bin .add false (.t 18) (.c (.int .i64 1))⟩,⟨some 1,none,.mv (.t 19)⟩]) (.reg [⟨some 20,none,.mv (.t 0)⟩,⟨some 21,none,.mv (.t 5)⟩,⟨some 22,none,.iaddr 2 (.t 20) (.t 21)⟩,⟨some 23,none,.faddr 1 (.t 22)⟩,⟨some 24,none,.load false 1 (.t 23)⟩,⟨some 25,none,.mv (.t 1)⟩,⟨some 26,none,.call 72 [(.t 24),(.t 25)]⟩,⟨some 1,none,.mv (.t 26)⟩])))) (.reg [⟨some 10,none,.mv (.t 5)⟩,⟨some 11,none,.bin .add false (.t 10) (.c (.int .i64 1))⟩,⟨some 5,none,.mv (.t 11)⟩])))))) (.seq (.reg [⟨some 27,none,.mv (.t 1)⟩,⟨some 4,none,.mv (.t 27)⟩]) .ret)))
theorem Pf:codeOf Tryz.prog 72=some ⟨28,Jh,[(.tmp 4)]⟩:=by kernel_rfl
theorem Dl:modes 72=⟨[true],.asis,none,true⟩:=by unfold modes; rfl
abbrev Ie (xs:List Tm):Prop:=∀ (k:Int) (ob:List Ob),1≤k→k+Tm.wtS xs≤1099511627776→toTree ob=[.tree (xs.map Tm.o) []]→E 72 [.ref 0,.int .i64 k] ob=some (.int .i64 (Tm.mkS xs k).2,[.tree ((Tm.mkS xs k).1.map Tm.o) []])
theorem La (xs:List Tm) (ih:∀ x∈xs,Ie x.args):Ie xs:=by
 intro k0 ob h1 h2 hob
 have hlen:ob.length=1:=by rw [←F7,hob]; rfl
 have hL:=Tm.length_wt xs
 refine Af Pf Dl (of_decide_eq_true rfl) ?_
 simp (disch:=omega) only [Jh,go_sem,Ab,hob,hlen]
 refine go_loop (α:=Int × (Int) × (List Tm)) (fun a=>⟨slots 28 0 [(0,.ref 0),(1,.int .i64 (a.2.1)),(5,.int .i64 (a.1))],[.tree (((a.2.2)++xs.drop (a.1).toNat).map Tm.o) []]⟩) (fun a=>∃ k:Nat,a.1=k∧k≤(xs).length∧(a.2.2).length=k∧1≤(a.2.1)∧(a.2.1)+Tm.wtS (xs.drop k)=k0+Tm.wtS xs∧Tm.mkS xs k0=((a.2.2)++(Tm.mkS (xs.drop k) (a.2.1)).1,(Tm.mkS (xs.drop k) (a.2.1)).2)) (fun a=>(xs).length-(a.1).toNat) (0,k0,[]) ⟨0,rfl,zH _,rfl,h1,by rw [zF],by simp⟩ (by simp (disch:=omega) only [go_sem,Ab,zU]) ?_
 rintro ⟨i,kk,dn⟩ ⟨k,hi,hk,hR⟩
 dsimp only at hi hR
 have hni:i.toNat=k:=by omega
 have hni1:(i+1).toNat=k+1:=by omega
 rcases zE k (xs).length with hlt | hge
 ·obtain ⟨hd,hk1,hkn,hm⟩:=hR
  have hdr:xs.drop k=xs[k] :: xs.drop (k+1):=zB hlt
  have hel:(dn++xs.drop k).length=xs.length:=by simp; omega
  have hg:(xB Tm.o (dn++xs.drop k))[k]?=some [.str xs[k].name,.ow (xs[k].args.map Tm.o)]:=by
   rw [←Tm.o_eq,hdr,yM,yD (by omega),hd,Nat.sub_self]; rfl
  rw [hdr,Tm.wtS] at hkn
  rw [hdr,Tm.mkS] at hm
  have hn1:=Tm.wt_eq xs[k]
  have e1:=Tm.mkS_end xs[k].args ((kk+1))
  have t0:=FI (k:=kk) (by omega) (by omega)
  have c58:=ih xs[k] (zD hlt) ((kk+1)) [.tree (xs[k].args.map Tm.o) []] (by omega) (by omega) rfl
  have hs:=HX Tm.o dn (xs.drop (k+1)) xs[k] (xs[k].mk1 kk).1 hd
  rw [Tm.mk1_o,← hdr] at hs
  have hgs:∀ a,((xB Tm.o (dn++xs.drop k)).set k a)[k]?=some a:=fun a=>yN (by rw [zL,hel]; exact hlt)
  have he:=Tm.mk1_end xs[k] kk
  have three:∀ z:Int,dec ((3:Int)=0)=false:=fun _=>Aj (by omega)
  simp (disch:=omega) only [go_sem,Ab,hni,hel,hg,t0,c58,Dl,C1,hgs,y7,List.set_set,hs,three 0]
  refine ⟨(i+1,(xs[k].mk1 kk).2,dn++[(xs[k].mk1 kk).1]),⟨k+1,by dsimp only; omega,hlt,by dsimp only; simp [hd],by dsimp only; omega,by dsimp only; omega,by rw [hm]; simp⟩,by dsimp only; omega,?_⟩
  dsimp only
  rw [hni1,Tm.mk1_eq]
  refine ⟨⟨?_,rfl⟩,rfl⟩
  first | rfl | omega
 ·obtain ⟨hd,hk1,hkn,hm⟩:=hR
  have hdr:xs.drop k=[]:=zC hge
  rw [hdr,Tm.mkS] at hm
  rw [hm]
  simp (disch:=omega) only [go_sem,Ab,hni,hdr,yI]
theorem NY (x:Tm):Ie x.args:=La x.args fun y hy=>NY y
termination_by SizeOf.sizeOf x
decreasing_by exact Tm.lt_of_mem hy
theorem Lb (xs:List Tm):Ie xs:=La xs fun y _=>NY y
def Lt.wt (x:Lt):Nat:=2+Tm.wtS x.atom.args
theorem Lt.wt_eq (x:Lt):x.wt=2+Tm.wtS x.atom.args:=rfl
noncomputable def Lt.mk1 (x:Lt) (k:Int):Lt × Int:=((Lt.mk (dec (k.tmod 3=0)) (Tm.mk (EO (k+1)) ((Tm.mkS x.atom.args (k+1+1)).1))),(Tm.mkS x.atom.args (k+1+1)).2)
theorem Lt.mk1_eq (x:Lt) (k:Int):x.mk1 k=((Lt.mk (dec (k.tmod 3=0)) (Tm.mk (EO (k+1)) ((Tm.mkS x.atom.args (k+1+1)).1))),(Tm.mkS x.atom.args (k+1+1)).2):=rfl
def Lt.wtS:List Lt→Nat
 | []=>0
 | x :: xs=>Lt.wt x+Lt.wtS xs
noncomputable def Lt.mkS:List Lt→Int→List Lt × Int
 | [],k=>([],k)
 | x :: xs,k=>((Lt.mk1 x k).1 :: (Lt.mkS xs (Lt.mk1 x k).2).1,(Lt.mkS xs (Lt.mk1 x k).2).2)
theorem Lt.mk1_d (x:Lt) (k:Int):Lt.d (x.mk1 k).1=[.bool (dec (k.tmod 3=0)),.str (EO (k+1)),.arr ((Tm.mkS x.atom.args (k+1+1)).1.map Tm.d)]:=by
 rw [Lt.mk1_eq,Lt.d_eq]
 try rfl
theorem Lt.mk1_o (x:Lt) (k:Int):Lt.o (x.mk1 k).1=[.bool (dec (k.tmod 3=0)),.str (EO (k+1)),.ow ((Tm.mkS x.atom.args (k+1+1)).1.map Tm.o)]:=by
 rw [Lt.mk1_eq,Lt.o_eq]
 try rfl
theorem Lt.mk1_end (x:Lt) (k:Int):(x.mk1 k).2=k+x.wt:=by
 rw [Lt.mk1_eq,Lt.wt_eq]
 first
  |omega
  |(simp only [Tm.mkS_end]; done)
  |(simp only [Tm.mkS_end]; omega)
  |simp
theorem Lt.mkS_end:∀ (xs:List Lt) (k:Int),(Lt.mkS xs k).2=k+Lt.wtS xs
 | [],k=>by simp [Lt.mkS,Lt.wtS]
 | x :: xs,k=>by
  rw [Lt.mkS,Lt.wtS]
  have h1:=Lt.mk1_end x k
  have h2:=Lt.mkS_end xs (x.mk1 k).2
  dsimp only
  omega
theorem Lt.wt_bulk (x:Lt):x.wt≤5*(1+x.bulk):=by
 rw [Lt.wt_eq,Lt.bulk_eq]
 have h0:=Tm.wtS_bulk x.atom.args
 have q1:=Tm.bulk_eq x.atom
 omega
theorem Lt.wtS_bulk:∀ xs:List Lt,Lt.wtS xs≤5*(xs.length+Lt.sumB xs)
 | []=>by simp [Lt.wtS]
 | x :: xs=>by
  have h1:=Lt.wt_bulk x
  have h2:=Lt.wtS_bulk xs
  rw [Lt.wtS,Lt.sumB]; simp only [zG]; omega
theorem Lt.length_wt:∀ xs:List Lt,xs.length≤Lt.wtS xs
 | []=>zI _
 | x :: xs=>by
  have:=Lt.length_wt xs
  have:=Lt.wt_eq x
  rw [Lt.wtS]; simp only [zG]; omega
def G5:SC:=(.seq (.reg [⟨some 4,none,.mv (.c (.int .i64 0))⟩]) (.seq (.seq (.reg [⟨some 5,none,.mv (.c (.int .i64 0))⟩]) (.block 0 (.loop [1,1,0,0,0,1,0,0,0,0,0,0,0,0,0,0,0,0,0,0,0,0,0,0,0,0,0,0,0,0,0,0,0,0,0,0,0,0,0] (.seq (.seq (.reg [⟨some 6,none,.mv (.t 5)⟩,⟨some 7,none,.mv (.t 0)⟩,⟨some 8,none,.len false (.t 7)⟩,⟨some 9,none,.bin .lss false (.t 6) (.t 8)⟩]) (.cond (.t 9) .skip (.exit 0))) (.seq (.block 1 (.seq (.reg [⟨some 12,none,.mv (.t 0)⟩,⟨some 13,none,.mv (.t 5)⟩,⟨some 14,none,.mv (.t 1)⟩,⟨some 15,none,.bin .rem false (.t 14) (.c (.int .i64 3))⟩,⟨some 16,none,.bin .eql false (.t 15) (.c (.int .i64 0))⟩,⟨some 17,none,.iaddr 3 (.t 12) (.t 13)⟩,⟨some 18,none,.faddr 0 (.t 17)⟩,⟨none,none,(.store 1 (.t 18) (.t 16))⟩]) (.seq (.reg [⟨some 19,none,.mv (.t 1)⟩,⟨some 20,none,.bin .add false (.t 19) (.c (.int .i64 1))⟩,⟨some 1,none,.mv (.t 20)⟩]) (.seq (.reg [⟨some 21,none,.mv (.t 0)⟩,⟨some 22,none,.mv (.t 5)⟩,⟨some 23,none,.mv (.t 1)⟩,⟨some 24,none,.call 63 [(.t 23)]⟩,⟨some 25,none,.iaddr 3 (.t 21) (.t 22)⟩,⟨some 26,none,.faddr 1 (.t 25)⟩,⟨some 27,none,.faddr 0 (.t 26)⟩,⟨none,none,(.store 1 (.t 27) (.t 24))⟩]) (.seq (.reg [⟨some 28,none,.mv (.t 1)⟩,⟨some 29,none,.bin .add false (.t 28) (.c (.int .i64 1))⟩,⟨some 1,none,.mv (.t 29)⟩]) (.reg [⟨some 30,none,.mv (.t 0)⟩,⟨some 31,none,.mv (.t 5)⟩,⟨some 32,none,.iaddr 3 (.t 30) (.t 31)⟩,⟨some 33,none,.faddr 1 (.t 32)⟩,⟨some 34,none,.faddr 1 (.t 33)⟩,⟨some 35,none,.load false 1 (.t 34)⟩,⟨some 36,none,.mv (.t 1)⟩,⟨some 37,none,.call 72 [(.t 35),(.t 36)]⟩,⟨some 1,none,.mv (.t 37)⟩])))))) (.reg [⟨some 10,none,.mv (.t 5)⟩,⟨some 11,none,.bin .add false (.t 10) (.c (.int .i64 1))⟩,⟨some 5,none,.mv (.t 11)⟩])))))) (.seq (.reg [⟨some 38,none,.mv (.t 1)⟩,⟨some 4,none,.mv (.t 38)⟩]) .ret)))
theorem LZ:codeOf Tryz.prog 83=some ⟨39,G5,[(.tmp 4)]⟩:=by kernel_rfl
theorem G6:modes 83=⟨[true],.asis,none,true⟩:=by unfold modes; rfl
abbrev Lc (xs:List Lt):Prop:=∀ (k:Int) (ob:List Ob),1≤k→k+Lt.wtS xs≤1099511627776→toTree ob=[.tree (xs.map Lt.o) []]→E 83 [.ref 0,.int .i64 k] ob=some (.int .i64 (Lt.mkS xs k).2,[.tree ((Lt.mkS xs k).1.map Lt.o) []])
theorem NZ (xs:List Lt):Lc xs:=by
 intro k0 ob h1 h2 hob
 have hlen:ob.length=1:=by rw [←F7,hob]; rfl
 have hL:=Lt.length_wt xs
 refine Af LZ G6 (of_decide_eq_true rfl) ?_
 simp (disch:=omega) only [G5,go_sem,Ab,hob,hlen]
 refine go_loop (α:=Int × (Int) × (List Lt)) (fun a=>⟨slots 39 0 [(0,.ref 0),(1,.int .i64 (a.2.1)),(5,.int .i64 (a.1))],[.tree (((a.2.2)++xs.drop (a.1).toNat).map Lt.o) []]⟩) (fun a=>∃ k:Nat,a.1=k∧k≤(xs).length∧(a.2.2).length=k∧1≤(a.2.1)∧(a.2.1)+Lt.wtS (xs.drop k)=k0+Lt.wtS xs∧Lt.mkS xs k0=((a.2.2)++(Lt.mkS (xs.drop k) (a.2.1)).1,(Lt.mkS (xs.drop k) (a.2.1)).2)) (fun a=>(xs).length-(a.1).toNat) (0,k0,[]) ⟨0,rfl,zH _,rfl,h1,by rw [zF],by simp⟩ (by simp (disch:=omega) only [go_sem,Ab,zU]) ?_
 rintro ⟨i,kk,dn⟩ ⟨k,hi,hk,hR⟩
 dsimp only at hi hR
 have hni:i.toNat=k:=by omega
 have hni1:(i+1).toNat=k+1:=by omega
 rcases zE k (xs).length with hlt | hge
 ·obtain ⟨hd,hk1,hkn,hm⟩:=hR
  have hdr:xs.drop k=xs[k] :: xs.drop (k+1):=zB hlt
  have hel:(dn++xs.drop k).length=xs.length:=by simp; omega
  have hg:(xB Lt.o (dn++xs.drop k))[k]?=some [.bool xs[k].pos,.str xs[k].atom.name,.ow (xs[k].atom.args.map Tm.o)]:=by
   rw [←Lt.o_eq,hdr,yM,yD (by omega),hd,Nat.sub_self]; rfl
  rw [hdr,Lt.wtS] at hkn
  rw [hdr,Lt.mkS] at hm
  have hn1:=Lt.wt_eq xs[k]
  have e2:=Tm.mkS_end xs[k].atom.args ((kk+1+1))
  have t0:=FI (k:=(kk+1)) (by omega) (by omega)
  have c64:=Lb xs[k].atom.args ((kk+1+1)) [.tree (xs[k].atom.args.map Tm.o) []] (by omega) (by omega) rfl
  have hs:=HX Lt.o dn (xs.drop (k+1)) xs[k] (xs[k].mk1 kk).1 hd
  rw [Lt.mk1_o,← hdr] at hs
  have hgs:∀ a,((xB Lt.o (dn++xs.drop k)).set k a)[k]?=some a:=fun a=>yN (by rw [zL,hel]; exact hlt)
  have he:=Lt.mk1_end xs[k] kk
  have three:∀ z:Int,dec ((3:Int)=0)=false:=fun _=>Aj (by omega)
  simp (disch:=omega) only [go_sem,Ab,hni,hel,hg,t0,c64,Dl,C1,hgs,y7,List.set_set,hs,three 0]
  refine ⟨(i+1,(xs[k].mk1 kk).2,dn++[(xs[k].mk1 kk).1]),⟨k+1,by dsimp only; omega,hlt,by dsimp only; simp [hd],by dsimp only; omega,by dsimp only; omega,by rw [hm]; simp⟩,by dsimp only; omega,?_⟩
  dsimp only
  rw [hni1,Lt.mk1_eq]
  refine ⟨⟨?_,rfl⟩,rfl⟩
  first | rfl | omega
 ·obtain ⟨hd,hk1,hkn,hm⟩:=hR
  have hdr:xs.drop k=[]:=zC hge
  rw [hdr,Lt.mkS] at hm
  rw [hm]
  simp (disch:=omega) only [go_sem,Ab,hni,hdr,yI]
theorem Sr (xs:List Lt):Lc xs:=NZ xs
mutual
def Fm.wt:Fm→Nat
 | .mk op atom var parts=>3+Tm.wtS atom.args+Fm.wtS parts
def Fm.wtS:List Fm→Nat
 | []=>0
 | x :: xs=>Fm.wt x+Fm.wtS xs
end
theorem Fm.wt_eq (x:Fm):x.wt=3+Tm.wtS x.atom.args+Fm.wtS x.parts:=by
 obtain ⟨op,atom,var,parts⟩:=x
 rw [Fm.wt]; rfl
mutual
noncomputable def Fm.mk1:Fm→Int→Fm × Int
 | .mk op atom var parts,k=>((Fm.mk (k) (Tm.mk (EO (k+1)) ((Tm.mkS atom.args (k+1+1)).1)) (EO (Tm.mkS atom.args (k+1+1)).2) ((Fm.mkS parts ((Tm.mkS atom.args (k+1+1)).2+1)).1)),(Fm.mkS parts ((Tm.mkS atom.args (k+1+1)).2+1)).2)
noncomputable def Fm.mkS:List Fm→Int→List Fm × Int
 | [],k=>([],k)
 | x :: xs,k=>((Fm.mk1 x k).1 :: (Fm.mkS xs (Fm.mk1 x k).2).1,(Fm.mkS xs (Fm.mk1 x k).2).2)
end
theorem Fm.mk1_eq (x:Fm) (k:Int):x.mk1 k=((Fm.mk (k) (Tm.mk (EO (k+1)) ((Tm.mkS x.atom.args (k+1+1)).1)) (EO (Tm.mkS x.atom.args (k+1+1)).2) ((Fm.mkS x.parts ((Tm.mkS x.atom.args (k+1+1)).2+1)).1)),(Fm.mkS x.parts ((Tm.mkS x.atom.args (k+1+1)).2+1)).2):=by
 obtain ⟨op,atom,var,parts⟩:=x
 rw [Fm.mk1]; rfl
theorem Fm.mk1_o (x:Fm) (k:Int):Fm.o (x.mk1 k).1=[.int k,.str (EO (k+1)),.ow ((Tm.mkS x.atom.args (k+1+1)).1.map Tm.o),.str (EO (Tm.mkS x.atom.args (k+1+1)).2),.ow ((Fm.mkS x.parts ((Tm.mkS x.atom.args (k+1+1)).2+1)).1.map Fm.o)]:=by
 rw [Fm.mk1_eq,Fm.o_eq]
 try rfl
theorem Fm.mkS_end_of:∀ (xs:List Fm) (k:Int),(∀ x∈xs,∀ k,(x.mk1 k).2=k+x.wt)→(Fm.mkS xs k).2=k+Fm.wtS xs
 | [],k,_=>by simp [Fm.mkS,Fm.wtS]
 | x :: xs,k,h=>by
  rw [Fm.mkS,Fm.wtS]
  have h1:=h x (by simp) k
  have h2:=Fm.mkS_end_of xs (x.mk1 k).2 fun y hy=>h y (by simp [hy])
  dsimp only
  omega
theorem Fm.mk1_end (x:Fm) (k:Int):(x.mk1 k).2=k+x.wt:=by
 rw [Fm.mk1_eq,Fm.wt_eq]
 have h:=fun k=>Fm.mkS_end_of x.parts k fun y hy k=>Fm.mk1_end y k
 simp only [h,Tm.mkS_end]
 omega
termination_by SizeOf.sizeOf x
decreasing_by exact Fm.lt_of_mem hy
theorem Fm.mkS_end (xs:List Fm) (k:Int):(Fm.mkS xs k).2=k+Fm.wtS xs:=Fm.mkS_end_of xs k fun x _ k=>Fm.mk1_end x k
theorem Fm.wtS_of:∀ xs:List Fm,(∀ x∈xs,x.wt≤5*(1+x.bulk))→Fm.wtS xs≤5*(xs.length+Fm.sumB xs)
 | [],_=>by simp [Fm.wtS]
 | x :: xs,h=>by
  have h1:=h x (by simp)
  have h2:=Fm.wtS_of xs fun y hy=>h y (by simp [hy])
  rw [Fm.wtS,Fm.sumB]; simp only [zG]; omega
theorem Fm.wt_bulk (x:Fm):x.wt≤5*(1+x.bulk):=by
 rw [Fm.wt_eq,Fm.bulk_eq]
 have h:=Fm.wtS_of x.parts fun y hy=>Fm.wt_bulk y
 have h0:=Tm.wtS_bulk x.atom.args
 have q1:=Tm.bulk_eq x.atom
 omega
termination_by SizeOf.sizeOf x
decreasing_by exact Fm.lt_of_mem hy
theorem Fm.wtS_bulk (xs:List Fm):Fm.wtS xs≤5*(xs.length+Fm.sumB xs):=Fm.wtS_of xs fun x _=>Fm.wt_bulk x
theorem Fm.length_wt:∀ xs:List Fm,xs.length≤Fm.wtS xs
 | []=>zI _
 | x :: xs=>by
  have:=Fm.length_wt xs
  have:=Fm.wt_eq x
  rw [Fm.wtS]; simp only [zG]; omega
def G7:SC:=(.seq (.reg [⟨some 4,none,.mv (.c (.int .i64 0))⟩]) (.seq (.seq (.reg [⟨some 5,none,.mv (.c (.int .i64 0))⟩]) (.block 0 (.loop [1,1,0,0,0,1,0,0,0,0,0,0,0,0,0,0,0,0,0,0,0,0,0,0,0,0,0,0,0,0,0,0,0,0,0,0,0,0,0,0,0,0,0,0,0,0,0,0,0,0,0,0] (.seq (.seq (.reg [⟨some 6,none,.mv (.t 5)⟩,⟨some 7,none,.mv (.t 0)⟩,⟨some 8,none,.len false (.t 7)⟩,⟨some 9,none,.bin .lss false (.t 6) (.t 8)⟩]) (.cond (.t 9) .skip (.exit 0))) (.seq (.block 1 (.seq (.reg [⟨some 12,none,.mv (.t 0)⟩,⟨some 13,none,.mv (.t 5)⟩,⟨some 14,none,.mv (.t 1)⟩,⟨some 15,none,.iaddr 5 (.t 12) (.t 13)⟩,⟨some 16,none,.faddr 0 (.t 15)⟩,⟨none,none,(.store 1 (.t 16) (.t 14))⟩]) (.seq (.reg [⟨some 17,none,.mv (.t 1)⟩,⟨some 18,none,.bin .add false (.t 17) (.c (.int .i64 1))⟩,⟨some 1,none,.mv (.t 18)⟩]) (.seq (.reg [⟨some 19,none,.mv (.t 0)⟩,⟨some 20,none,.mv (.t 5)⟩,⟨some 21,none,.mv (.t 1)⟩,⟨some 22,none,.call 63 [(.t 21)]⟩,⟨some 23,none,.iaddr 5 (.t 19) (.t 20)⟩,⟨some 24,none,.faddr 1 (.t 23)⟩,⟨some 25,none,.faddr 0 (.t 24)⟩,⟨none,none,(.store 1 (.t 25) (.t 22))⟩]) (.seq (.reg [⟨some 26,none,.mv (.t 1)⟩,⟨some 27,none,.bin .add false (.t 26) (.c (.int .i64 1))⟩,⟨some 1,none,.mv (.t 27)⟩]) (.seq (.reg [⟨some 28,none,.mv (.t 0)⟩,⟨some 29,none,.mv (.t 5)⟩,⟨some 30,none,.iaddr 5 (.t 28) (.t 29)⟩,⟨some 31,none,.faddr 1 (.t 30)⟩,⟨some 32,none,.faddr 1 (.t 31)⟩,⟨some 33,none,.load false 1 (.t 32)⟩,⟨some 34,none,.mv (.t 1)⟩,⟨some 35,none,.call 72 [(.t 33),(.t 34)]⟩,⟨some 1,none,.mv (.t 35)⟩]) (.seq (.reg [⟨some 36,none,.mv (.t 0)⟩,⟨some 37,none,.mv (.t 5)⟩,⟨some 38,none,.mv (.t 1)⟩,⟨some 39,none,.call 63 [(.t 38)]⟩,⟨some 40,none,.iaddr 5 (.t 36) (.t 37)⟩,⟨some 41,none,.faddr 3 (.t 40)⟩,⟨none,none,(.store 1 (.t 41) (.t 39))⟩]) (.seq (.reg [⟨some 42,none,.mv (.t 1)⟩,⟨some 43,none,.bin .add false (.t 42) (.c (.int .i64 1))⟩,⟨some 1,none,.mv (.t 43)⟩]) (.reg [⟨some 44,none,.mv (.t 0)⟩,⟨some 45,none,.mv (.t 5)⟩,⟨some 46,none,.iaddr 5 (.t 44) (.t 45)⟩,⟨some 47,none,.faddr 4 (.t 46)⟩,⟨some 48,none,.load false 1 (.t 47)⟩,⟨some 49,none,.mv (.t 1)⟩,⟨some 50,none,.call 46 [(.t 48),(.t 49)]⟩,⟨some 1,none,.mv (.t 50)⟩]))))))))) (.reg [⟨some 10,none,.mv (.t 5)⟩,⟨some 11,none,.bin .add false (.t 10) (.c (.int .i64 1))⟩,⟨some 5,none,.mv (.t 11)⟩])))))) (.seq (.reg [⟨some 51,none,.mv (.t 1)⟩,⟨some 4,none,.mv (.t 51)⟩]) .ret)))
theorem Ma:codeOf Tryz.prog 46=some ⟨52,G7,[(.tmp 4)]⟩:=by kernel_rfl
theorem Eu:modes 46=⟨[true],.asis,none,true⟩:=by unfold modes; rfl
abbrev Fl (xs:List Fm):Prop:=∀ (k:Int) (ob:List Ob),1≤k→k+Fm.wtS xs≤1099511627776→toTree ob=[.tree (xs.map Fm.o) []]→E 46 [.ref 0,.int .i64 k] ob=some (.int .i64 (Fm.mkS xs k).2,[.tree ((Fm.mkS xs k).1.map Fm.o) []])
theorem If (xs:List Fm) (ih:∀ x∈xs,Fl x.parts):Fl xs:=by
 intro k0 ob h1 h2 hob
 have hlen:ob.length=1:=by rw [←F7,hob]; rfl
 have hL:=Fm.length_wt xs
 refine Af Ma Eu (of_decide_eq_true rfl) ?_
 simp (disch:=omega) only [G7,go_sem,Ab,hob,hlen]
 refine go_loop (α:=Int × (Int) × (List Fm)) (fun a=>⟨slots 52 0 [(0,.ref 0),(1,.int .i64 (a.2.1)),(5,.int .i64 (a.1))],[.tree (((a.2.2)++xs.drop (a.1).toNat).map Fm.o) []]⟩) (fun a=>∃ k:Nat,a.1=k∧k≤(xs).length∧(a.2.2).length=k∧1≤(a.2.1)∧(a.2.1)+Fm.wtS (xs.drop k)=k0+Fm.wtS xs∧Fm.mkS xs k0=((a.2.2)++(Fm.mkS (xs.drop k) (a.2.1)).1,(Fm.mkS (xs.drop k) (a.2.1)).2)) (fun a=>(xs).length-(a.1).toNat) (0,k0,[]) ⟨0,rfl,zH _,rfl,h1,by rw [zF],by simp⟩ (by simp (disch:=omega) only [go_sem,Ab,zU]) ?_
 rintro ⟨i,kk,dn⟩ ⟨k,hi,hk,hR⟩
 dsimp only at hi hR
 have hni:i.toNat=k:=by omega
 have hni1:(i+1).toNat=k+1:=by omega
 rcases zE k (xs).length with hlt | hge
 ·obtain ⟨hd,hk1,hkn,hm⟩:=hR
  have hdr:xs.drop k=xs[k] :: xs.drop (k+1):=zB hlt
  have hel:(dn++xs.drop k).length=xs.length:=by simp; omega
  have hg:(xB Fm.o (dn++xs.drop k))[k]?=some [.int xs[k].op,.str xs[k].atom.name,.ow (xs[k].atom.args.map Tm.o),.str xs[k].var,.ow (xs[k].parts.map Fm.o)]:=by
   rw [←Fm.o_eq,hdr,yM,yD (by omega),hd,Nat.sub_self]; rfl
  rw [hdr,Fm.wtS] at hkn
  rw [hdr,Fm.mkS] at hm
  have hn1:=Fm.wt_eq xs[k]
  have e2:=Tm.mkS_end xs[k].atom.args ((kk+1+1))
  have e4:=Fm.mkS_end xs[k].parts (((Tm.mkS xs[k].atom.args (kk+1+1)).2+1))
  have t0:=FI (k:=(kk+1)) (by omega) (by omega)
  have c64:=Lb xs[k].atom.args ((kk+1+1)) [.tree (xs[k].atom.args.map Tm.o) []] (by omega) (by omega) rfl
  have t187:=FI (k:=(Tm.mkS xs[k].atom.args (kk+1+1)).2) (by omega) (by omega)
  have c284:=ih xs[k] (zD hlt) (((Tm.mkS xs[k].atom.args (kk+1+1)).2+1)) [.tree (xs[k].parts.map Fm.o) []] (by omega) (by omega) rfl
  have hs:=HX Fm.o dn (xs.drop (k+1)) xs[k] (xs[k].mk1 kk).1 hd
  rw [Fm.mk1_o,← hdr] at hs
  have hgs:∀ a,((xB Fm.o (dn++xs.drop k)).set k a)[k]?=some a:=fun a=>yN (by rw [zL,hel]; exact hlt)
  have he:=Fm.mk1_end xs[k] kk
  have three:∀ z:Int,dec ((3:Int)=0)=false:=fun _=>Aj (by omega)
  simp (disch:=omega) only [go_sem,Ab,hni,hel,hg,t0,c64,Dl,t187,c284,Eu,C1,hgs,y7,List.set_set,hs,three 0]
  refine ⟨(i+1,(xs[k].mk1 kk).2,dn++[(xs[k].mk1 kk).1]),⟨k+1,by dsimp only; omega,hlt,by dsimp only; simp [hd],by dsimp only; omega,by dsimp only; omega,by rw [hm]; simp⟩,by dsimp only; omega,?_⟩
  dsimp only
  rw [hni1,Fm.mk1_eq]
  refine ⟨⟨?_,rfl⟩,rfl⟩
  first | rfl | omega
 ·obtain ⟨hd,hk1,hkn,hm⟩:=hR
  have hdr:xs.drop k=[]:=zC hge
  rw [hdr,Fm.mkS] at hm
  rw [hm]
  simp (disch:=omega) only [go_sem,Ab,hni,hdr,yI]
theorem Kj (x:Fm):Fl x.parts:=If x.parts fun y hy=>Kj y
termination_by SizeOf.sizeOf x
decreasing_by exact Fm.lt_of_mem hy
theorem Ss (xs:List Fm):Fl xs:=If xs fun y _=>Kj y
def Ji:SC:=(.seq (.reg [⟨some 4,none,.mv (.c (.int .i64 0))⟩]) (.seq (.seq (.reg [⟨some 5,none,.mv (.c (.int .i64 0))⟩]) (.block 0 (.loop [1,1,0,0,0,1,0,0,0,0,0,0,0,0,0,0,0,0,0,0,0,0,0,0,0,0,0,0,0,0,0,0] (.seq (.seq (.reg [⟨some 6,none,.mv (.t 5)⟩,⟨some 7,none,.mv (.t 0)⟩,⟨some 8,none,.len false (.t 7)⟩,⟨some 9,none,.bin .lss false (.t 6) (.t 8)⟩]) (.cond (.t 9) .skip (.exit 0))) (.seq (.block 1 (.seq (.seq (.dreg [[],[],[0,1],[2,0,1],[3,2,0,1],[],[5],[4,3,2,0,1,6,5]] [⟨some 12,none,.mv (.t 0)⟩,⟨some 13,none,.mv (.t 5)⟩,⟨some 14,none,.iaddr 2 (.t 12) (.t 13)⟩,⟨some 15,none,.faddr 0 (.t 14)⟩,⟨some 16,none,.load false 1 (.t 15)⟩,⟨some 17,none,.mv (.t 1)⟩,⟨some 18,none,.call 63 [(.t 17)]⟩,⟨some 19,none,.bin .neq false (.t 16) (.t 18)⟩]) (.cond (.t 19) (.seq (.reg [⟨some 4,none,.mv (.c (.int .i64 (-(0+1))))⟩]) .ret) .skip)) (.seq (.reg [⟨some 20,none,.mv (.t 1)⟩,⟨some 21,none,.bin .add false (.t 20) (.c (.int .i64 1))⟩,⟨some 1,none,.mv (.t 21)⟩]) (.seq (.reg [⟨some 22,none,.mv (.t 0)⟩,⟨some 23,none,.mv (.t 5)⟩,⟨some 24,none,.iaddr 2 (.t 22) (.t 23)⟩,⟨some 25,none,.faddr 1 (.t 24)⟩,⟨some 26,none,.load false 1 (.t 25)⟩,⟨some 27,none,.mv (.t 1)⟩,⟨some 28,none,.call 74 [(.t 26),(.t 27)]⟩,⟨some 1,none,.mv (.t 28)⟩]) (.seq (.reg [⟨some 29,none,.mv (.t 1)⟩,⟨some 30,none,.bin .lss false (.t 29) (.c (.int .i64 0))⟩]) (.cond (.t 30) (.seq (.reg [⟨some 4,none,.mv (.c (.int .i64 (-(0+1))))⟩]) .ret) .skip)))))) (.reg [⟨some 10,none,.mv (.t 5)⟩,⟨some 11,none,.bin .add false (.t 10) (.c (.int .i64 1))⟩,⟨some 5,none,.mv (.t 11)⟩])))))) (.seq (.reg [⟨some 31,none,.mv (.t 1)⟩,⟨some 4,none,.mv (.t 31)⟩]) .ret)))
theorem Pg:codeOf Tryz.prog 74=some ⟨32,Ji,[(.tmp 4)]⟩:=by kernel_rfl
theorem FO:modes 74=⟨[],.asis,none,false⟩:=by unfold modes; rfl
theorem Tm.mkS_len:∀ (xs:List Tm) (k:Int),(Tm.mkS xs k).1.length=xs.length
 | [],k=>by rw [Tm.mkS]
 | x :: xs,k=>by rw [Tm.mkS]; simp only [zG]; rw [Tm.mkS_len xs]
abbrev Ig (xs:List Tm):Prop:=∀ k:Int,1≤k→k+Tm.wtS xs≤1099511627776→E 74 [.arr ((Tm.mkS xs k).1.map Tm.d),.int .i64 k] []=some (.int .i64 (Tm.mkS xs k).2,[])
theorem Ld (xs:List Tm) (ih:∀ x∈xs,Ig x.args):Ig xs:=by
 intro k0 h1 h2
 obtain ⟨ys,hys⟩:∃ ys,ys=(Tm.mkS xs k0).1:=⟨_,rfl⟩
 have hyl:ys.length=xs.length:=by rw [hys,Tm.mkS_len]
 rw [←hys]
 have hL:=Tm.length_wt xs
 refine Af Pg FO (of_decide_eq_true rfl) ?_
 simp (disch:=omega) only [Ji,go_sem,Ab]
 refine go_loop (α:=Int × (Int)) (fun a=>⟨slots 32 0 [(0,.arr (ys.map Tm.d)),(1,.int .i64 (a.2)),(5,.int .i64 (a.1))],[]⟩) (fun a=>∃ k:Nat,a.1=k∧k≤(ys).length∧1≤(a.2)∧(a.2)+Tm.wtS (xs.drop k)=k0+Tm.wtS xs∧ys.drop k=(Tm.mkS (xs.drop k) (a.2)).1∧(Tm.mkS xs k0).2=(Tm.mkS (xs.drop k) (a.2)).2) (fun a=>(ys).length-(a.1).toNat) (0,k0) ⟨0,rfl,zH _,h1,by rw [zF],by rw [zF,zF,hys],by rw [zF]⟩ (by simp (disch:=omega) only [go_sem,Ab]) ?_
 rintro ⟨i,kk⟩ ⟨k,hi,hk,hR⟩
 dsimp only at hi hR
 have hni:i.toNat=k:=by omega
 have hni1:(i+1).toNat=k+1:=by omega
 rcases zE k (ys).length with hlt | hge
 ·obtain ⟨hk1,hkn,hy,hm⟩:=hR
  have hlx:k<xs.length:=by omega
  have hdr:xs.drop k=xs[k] :: xs.drop (k+1):=zB hlx
  have hdy:=zB hlt
  rw [hdr,Tm.wtS] at hkn
  rw [hdr,Tm.mkS] at hm
  rw [hdr,Tm.mkS,hdy] at hy
  dsimp only at hy hm
  obtain ⟨hy1,hy2⟩:=y4 hy
  have hg:=get_at Tm.d hlt
  rw [hy1,Tm.mk1_d] at hg
  have hn1:=Tm.wt_eq xs[k]
  have e1:=Tm.mkS_end xs[k].args ((kk+1))
  have t0:=FI (k:=kk) (by omega) (by omega)
  have c58:=ih xs[k] (zD hlx) ((kk+1)) (by omega) (by omega)
  have he:=Tm.mk1_end xs[k] kk
  simp (disch:=omega) only [go_sem,Ab,hni,hg,C1,CU,t0,c58,FO]
  refine ⟨(i+1,(xs[k].mk1 kk).2),⟨k+1,by dsimp only; omega,hlt,by dsimp only; omega,by dsimp only; omega,hy2,hm⟩,by dsimp only; omega,?_⟩
  dsimp only
  rw [Tm.mk1_eq]
  simp only [and_self,and_true,true_and]
  try omega
 ·obtain ⟨hk1,hkn,hy,hm⟩:=hR
  have hdr:xs.drop k=[]:=zC (by omega)
  rw [hdr,Tm.mkS] at hm
  rw [hm]
  simp (disch:=omega) only [go_sem,Ab,hni]
theorem Oa (x:Tm):Ig x.args:=Ld x.args fun y hy=>Oa y
termination_by SizeOf.sizeOf x
decreasing_by exact Tm.lt_of_mem hy
theorem XA (xs:List Tm):Ig xs:=Ld xs fun y _=>Oa y
def G8:SC:=(.seq (.reg [⟨some 4,none,.mv (.c (.int .i64 0))⟩]) (.seq (.seq (.reg [⟨some 5,none,.mv (.c (.int .i64 0))⟩]) (.block 0 (.loop [1,1,0,0,0,1,0,0,0,0,0,0,0,0,0,0,0,0,0,0,0,0,0,0,0,0,0,0,0,0,0,0,0,0,0,0,0,0,0,0,0,0,0,0,0] (.seq (.seq (.reg [⟨some 6,none,.mv (.t 5)⟩,⟨some 7,none,.mv (.t 0)⟩,⟨some 8,none,.len false (.t 7)⟩,⟨some 9,none,.bin .lss false (.t 6) (.t 8)⟩]) (.cond (.t 9) .skip (.exit 0))) (.seq (.block 1 (.seq (.seq (.reg [⟨some 12,none,.mv (.t 0)⟩,⟨some 13,none,.mv (.t 5)⟩,⟨some 14,none,.iaddr 3 (.t 12) (.t 13)⟩,⟨some 15,none,.faddr 0 (.t 14)⟩,⟨some 16,none,.load false 1 (.t 15)⟩,⟨some 17,none,.mv (.t 1)⟩,⟨some 18,none,.bin .rem false (.t 17) (.c (.int .i64 3))⟩,⟨some 19,none,.bin .eql false (.t 18) (.c (.int .i64 0))⟩,⟨some 20,none,.bin .neq true (.t 16) (.t 19)⟩]) (.cond (.t 20) (.seq (.reg [⟨some 4,none,.mv (.c (.int .i64 (-(0+1))))⟩]) .ret) .skip)) (.seq (.reg [⟨some 21,none,.mv (.t 1)⟩,⟨some 22,none,.bin .add false (.t 21) (.c (.int .i64 1))⟩,⟨some 1,none,.mv (.t 22)⟩]) (.seq (.seq (.dreg [[],[],[0,1],[2,0,1],[3,2,0,1],[4,3,2,0,1],[],[6],[5,4,3,2,0,1,7,6]] [⟨some 23,none,.mv (.t 0)⟩,⟨some 24,none,.mv (.t 5)⟩,⟨some 25,none,.iaddr 3 (.t 23) (.t 24)⟩,⟨some 26,none,.faddr 1 (.t 25)⟩,⟨some 27,none,.faddr 0 (.t 26)⟩,⟨some 28,none,.load false 1 (.t 27)⟩,⟨some 29,none,.mv (.t 1)⟩,⟨some 30,none,.call 63 [(.t 29)]⟩,⟨some 31,none,.bin .neq false (.t 28) (.t 30)⟩]) (.cond (.t 31) (.seq (.reg [⟨some 4,none,.mv (.c (.int .i64 (-(0+1))))⟩]) .ret) .skip)) (.seq (.reg [⟨some 32,none,.mv (.t 1)⟩,⟨some 33,none,.bin .add false (.t 32) (.c (.int .i64 1))⟩,⟨some 1,none,.mv (.t 33)⟩]) (.seq (.reg [⟨some 34,none,.mv (.t 0)⟩,⟨some 35,none,.mv (.t 5)⟩,⟨some 36,none,.iaddr 3 (.t 34) (.t 35)⟩,⟨some 37,none,.faddr 1 (.t 36)⟩,⟨some 38,none,.faddr 1 (.t 37)⟩,⟨some 39,none,.load false 1 (.t 38)⟩,⟨some 40,none,.mv (.t 1)⟩,⟨some 41,none,.call 74 [(.t 39),(.t 40)]⟩,⟨some 1,none,.mv (.t 41)⟩]) (.seq (.reg [⟨some 42,none,.mv (.t 1)⟩,⟨some 43,none,.bin .lss false (.t 42) (.c (.int .i64 0))⟩]) (.cond (.t 43) (.seq (.reg [⟨some 4,none,.mv (.c (.int .i64 (-(0+1))))⟩]) .ret) .skip)))))))) (.reg [⟨some 10,none,.mv (.t 5)⟩,⟨some 11,none,.bin .add false (.t 10) (.c (.int .i64 1))⟩,⟨some 5,none,.mv (.t 11)⟩])))))) (.seq (.reg [⟨some 44,none,.mv (.t 1)⟩,⟨some 4,none,.mv (.t 44)⟩]) .ret)))
theorem Mb:codeOf Tryz.prog 84=some ⟨45,G8,[(.tmp 4)]⟩:=by kernel_rfl
theorem G9:modes 84=⟨[],.asis,none,false⟩:=by unfold modes; rfl
theorem Lt.mkS_len:∀ (xs:List Lt) (k:Int),(Lt.mkS xs k).1.length=xs.length
 | [],k=>by rw [Lt.mkS]
 | x :: xs,k=>by rw [Lt.mkS]; simp only [zG]; rw [Lt.mkS_len xs]
abbrev Le (xs:List Lt):Prop:=∀ k:Int,1≤k→k+Lt.wtS xs≤1099511627776→E 84 [.arr ((Lt.mkS xs k).1.map Lt.d),.int .i64 k] []=some (.int .i64 (Lt.mkS xs k).2,[])
theorem Oc (xs:List Lt):Le xs:=by
 intro k0 h1 h2
 obtain ⟨ys,hys⟩:∃ ys,ys=(Lt.mkS xs k0).1:=⟨_,rfl⟩
 have hyl:ys.length=xs.length:=by rw [hys,Lt.mkS_len]
 rw [←hys]
 have hL:=Lt.length_wt xs
 refine Af Mb G9 (of_decide_eq_true rfl) ?_
 simp (disch:=omega) only [G8,go_sem,Ab]
 refine go_loop (α:=Int × (Int)) (fun a=>⟨slots 45 0 [(0,.arr (ys.map Lt.d)),(1,.int .i64 (a.2)),(5,.int .i64 (a.1))],[]⟩) (fun a=>∃ k:Nat,a.1=k∧k≤(ys).length∧1≤(a.2)∧(a.2)+Lt.wtS (xs.drop k)=k0+Lt.wtS xs∧ys.drop k=(Lt.mkS (xs.drop k) (a.2)).1∧(Lt.mkS xs k0).2=(Lt.mkS (xs.drop k) (a.2)).2) (fun a=>(ys).length-(a.1).toNat) (0,k0) ⟨0,rfl,zH _,h1,by rw [zF],by rw [zF,zF,hys],by rw [zF]⟩ (by simp (disch:=omega) only [go_sem,Ab]) ?_
 rintro ⟨i,kk⟩ ⟨k,hi,hk,hR⟩
 dsimp only at hi hR
 have hni:i.toNat=k:=by omega
 have hni1:(i+1).toNat=k+1:=by omega
 rcases zE k (ys).length with hlt | hge
 ·obtain ⟨hk1,hkn,hy,hm⟩:=hR
  have hlx:k<xs.length:=by omega
  have hdr:xs.drop k=xs[k] :: xs.drop (k+1):=zB hlx
  have hdy:=zB hlt
  rw [hdr,Lt.wtS] at hkn
  rw [hdr,Lt.mkS] at hm
  rw [hdr,Lt.mkS,hdy] at hy
  dsimp only at hy hm
  obtain ⟨hy1,hy2⟩:=y4 hy
  have hg:=get_at Lt.d hlt
  rw [hy1,Lt.mk1_d] at hg
  have hn1:=Lt.wt_eq xs[k]
  have e2:=Tm.mkS_end xs[k].atom.args ((kk+1+1))
  have t0:=FI (k:=(kk+1)) (by omega) (by omega)
  have c64:=XA xs[k].atom.args ((kk+1+1)) (by omega) (by omega)
  have he:=Lt.mk1_end xs[k] kk
  simp (disch:=omega) only [go_sem,Ab,hni,hg,C1,CU,t0,c64,FO]
  refine ⟨(i+1,(xs[k].mk1 kk).2),⟨k+1,by dsimp only; omega,hlt,by dsimp only; omega,by dsimp only; omega,hy2,hm⟩,by dsimp only; omega,?_⟩
  dsimp only
  rw [Lt.mk1_eq]
  simp only [and_self,and_true,true_and]
  try omega
 ·obtain ⟨hk1,hkn,hy,hm⟩:=hR
  have hdr:xs.drop k=[]:=zC (by omega)
  rw [hdr,Lt.mkS] at hm
  rw [hm]
  simp (disch:=omega) only [go_sem,Ab,hni]
theorem Su (xs:List Lt):Le xs:=Oc xs
theorem VT {o:Ob} {es:List (List OT)} (h:toTree [o]=[.tree es []]):(∃ a b,o=.row a b es)∨o=.tree es []:=by
 cases o with
 | row a b e=>obtain ⟨h1,h2⟩:=y4 h; cases h1; exact .inl ⟨a,b,rfl⟩
 | tree e hs=>obtain ⟨h1,h2⟩:=y4 h; cases h1; exact .inr rfl
 | _=>simp [toTree] at h
noncomputable def Tm.mkr (x:Tm) (k:Int):Tm × Int:=((Tm.mk (x.name) ((Tm.mkS x.args k).1)),(Tm.mkS x.args k).2)
def Kk:SC:=(.seq (.reg [⟨some 2,none,.boxv 33 2 (.t 0)⟩,⟨some 4,none,.mv (.c (.int .i64 0))⟩]) (.seq (.reg [⟨some 5,none,.faddr 1 (.t 2)⟩,⟨some 6,none,.load false 1 (.t 5)⟩,⟨some 7,none,.mv (.t 1)⟩,⟨some 8,none,.call 72 [(.t 6),(.t 7)]⟩,⟨some 1,none,.mv (.t 8)⟩]) (.seq (.reg [⟨some 9,none,.mv (.t 1)⟩,⟨some 4,none,.mv (.t 9)⟩]) .ret)))
theorem Qt:codeOf Tryz.prog 62=some ⟨10,Kk,[(.tmp 4)]⟩:=by kernel_rfl
theorem Kl:modes 62=⟨[true],.asis,none,false⟩:=by unfold modes; rfl
theorem Zu (x:Tm) (k:Int) (o0:Ob) (h1:1≤k) (h2:k+(Tm.wtS x.args:Nat)≤1099511627776) (t0:toTree [o0]=[.tree (x.args.map Tm.o) []]):E 62 [.agg [.str x.name,.ref 0],.int .i64 k] [o0]=some (.int .i64 (x.mkr k).2,[.tree ((Tm.mkS x.args k).1.map Tm.o) []]):=by
 have e0:=Tm.mkS_end x.args k
 rw [Tm.mkr]
 dsimp only
 have c0:=Lb x.args k [o0] (by omega) (by omega) t0
 rcases VT t0 with ⟨a0,b0,rfl⟩ | rfl <;>
  (
  refine Af Qt Kl (of_decide_eq_true rfl) ?_
  simp (disch:=omega) only [Kk,go_sem,Ab,c0,Dl])
noncomputable def Fm.mkr (x:Fm) (k:Int):Fm × Int:=((Fm.mk (x.op) (Tm.mk (x.atom.name) ((Tm.mkS x.atom.args k).1)) (x.var) ((Fm.mkS x.parts (Tm.mkS x.atom.args k).2).1)),(Fm.mkS x.parts (Tm.mkS x.atom.args k).2).2)
def Hu:SC:=(.seq (.reg [⟨some 2,none,.boxv 36 5 (.t 0)⟩,⟨some 4,none,.mv (.c (.int .i64 0))⟩]) (.seq (.reg [⟨some 5,none,.faddr 1 (.t 2)⟩,⟨some 6,none,.load true 2 (.t 5)⟩,⟨some 7,none,.mv (.t 1)⟩,⟨some 8,none,.call 62 [(.t 6),(.t 7)]⟩,⟨some 1,none,.mv (.t 8)⟩]) (.seq (.reg [⟨some 9,none,.faddr 4 (.t 2)⟩,⟨some 10,none,.load false 1 (.t 9)⟩,⟨some 11,none,.mv (.t 1)⟩,⟨some 12,none,.call 46 [(.t 10),(.t 11)]⟩,⟨some 1,none,.mv (.t 12)⟩]) (.seq (.reg [⟨some 13,none,.mv (.t 1)⟩,⟨some 4,none,.mv (.t 13)⟩]) .ret))))
theorem Nf:codeOf Tryz.prog 17=some ⟨14,Hu,[(.tmp 4)]⟩:=by kernel_rfl
theorem CM:modes 17=⟨[true],.asis,none,false⟩:=by unfold modes; rfl
theorem Tf (x:Fm) (k:Int) (o0 o1:Ob) (h1:1≤k) (h2:k+(Tm.wtS x.atom.args+Fm.wtS x.parts:Nat)≤1099511627776) (t0:toTree [o0]=[.tree (x.atom.args.map Tm.o) []]) (t1:toTree [o1]=[.tree (x.parts.map Fm.o) []]):E 17 [.agg [.int .i64 x.op,.str x.atom.name,.ref 0,.str x.var,.ref 1],.int .i64 k] [o0,o1]=some (.int .i64 (x.mkr k).2,[.tree ((Tm.mkS x.atom.args k).1.map Tm.o) [],.tree ((Fm.mkS x.parts (Tm.mkS x.atom.args k).2).1.map Fm.o) []]):=by
 have e0:=Tm.mkS_end x.atom.args k
 have e1:=Fm.mkS_end x.parts (Tm.mkS x.atom.args k).2
 rw [Fm.mkr]
 dsimp only
 have c0:=Zu x.atom k o0 (by omega) (by omega) t0
 rw [Tm.mkr] at c0
 dsimp only at c0
 have c1:=Ss x.parts (Tm.mkS x.atom.args k).2 [o1] (by omega) (by omega) t1
 rcases VT t0 with ⟨a0,b0,rfl⟩ | rfl <;>
 rcases VT t1 with ⟨a1,b1,rfl⟩ | rfl <;>
  (
  refine Af Nf CM (of_decide_eq_true rfl) ?_
  simp (disch:=omega) only [Hu,go_sem,Ab,c0,Kl,c1,Eu])
def Mw:SC:=(.seq (.reg [⟨some 2,none,.boxv 24 2 (.t 0)⟩,⟨some 4,none,.mv (.c (.int .i64 0))⟩]) (.seq (.reg [⟨some 5,none,.mv (.t 1)⟩,⟨some 6,none,.faddr 0 (.t 2)⟩,⟨some 7,none,.load false 1 (.t 6)⟩,⟨some 8,none,.len true (.t 7)⟩,⟨some 9,none,.bin .sub false (.t 5) (.t 8)⟩,⟨some 1,none,.mv (.t 9)⟩]) (.seq (.seq (.reg [⟨some 10,none,.mv (.t 1)⟩,⟨some 11,none,.bin .lss false (.t 10) (.c (.int .i64 0))⟩]) (.cond (.t 11) (.seq (.reg [⟨some 4,none,.mv (.c (.int .i64 (-(0+1))))⟩]) .ret) .skip)) (.seq (.reg [⟨some 12,none,.faddr 1 (.t 2)⟩,⟨some 13,none,.load false 1 (.t 12)⟩,⟨some 14,none,.mv (.t 1)⟩,⟨some 15,none,.call 107 [(.t 13),(.t 14)]⟩,⟨some 1,none,.mv (.t 15)⟩]) (.seq (.seq (.reg [⟨some 16,none,.mv (.t 1)⟩,⟨some 17,none,.bin .lss false (.t 16) (.c (.int .i64 0))⟩]) (.cond (.t 17) (.seq (.reg [⟨some 4,none,.mv (.c (.int .i64 (-(0+1))))⟩]) .ret) .skip)) (.seq (.reg [⟨some 18,none,.mv (.t 1)⟩,⟨some 4,none,.mv (.t 18)⟩]) .ret))))))
theorem Tg:codeOf Tryz.prog 47=some ⟨19,Mw,[(.tmp 4)]⟩:=by kernel_rfl
theorem FW:modes 47=⟨[],.asis,none,false⟩:=by unfold modes; rfl
def Lf:SC:=(.seq (.reg [⟨some 4,none,.mv (.c (.int .i64 0))⟩]) (.seq (.reg [⟨some 6,none,.mv (.t 1)⟩,⟨some 7,none,.mv (.t 0)⟩,⟨some 8,none,.len false (.t 7)⟩,⟨some 9,none,.bin .sub false (.t 6) (.t 8)⟩,⟨some 1,none,.mv (.t 9)⟩]) (.seq (.seq (.reg [⟨some 10,none,.mv (.t 1)⟩,⟨some 11,none,.bin .lss false (.t 10) (.c (.int .i64 0))⟩]) (.cond (.t 11) (.seq (.reg [⟨some 4,none,.mv (.c (.int .i64 (-(0+1))))⟩]) .ret) .skip)) (.seq (.seq (.reg [⟨some 5,none,.mv (.c (.int .i64 0))⟩]) (.block 0 (.loop [1,1,0,0,0,1,0,0,0,0,0,0,0,0,0,0,0,0,0,0,0,0,0,0,0,0,0] (.seq (.seq (.reg [⟨some 12,none,.mv (.t 5)⟩,⟨some 13,none,.mv (.t 0)⟩,⟨some 14,none,.len false (.t 13)⟩,⟨some 15,none,.bin .lss false (.t 12) (.t 14)⟩]) (.cond (.t 15) .skip (.exit 0))) (.seq (.block 1 (.seq (.reg [⟨some 18,none,.mv (.t 0)⟩,⟨some 19,none,.mv (.t 5)⟩,⟨some 20,none,.iaddr 2 (.t 18) (.t 19)⟩,⟨some 21,none,.load true 2 (.t 20)⟩,⟨some 22,none,.mv (.t 1)⟩,⟨some 23,none,.call 47 [(.t 21),(.t 22)]⟩,⟨some 1,none,.mv (.t 23)⟩]) (.seq (.reg [⟨some 24,none,.mv (.t 1)⟩,⟨some 25,none,.bin .lss false (.t 24) (.c (.int .i64 0))⟩]) (.cond (.t 25) (.seq (.reg [⟨some 4,none,.mv (.c (.int .i64 (-(0+1))))⟩]) .ret) .skip)))) (.reg [⟨some 16,none,.mv (.t 5)⟩,⟨some 17,none,.bin .add false (.t 16) (.c (.int .i64 1))⟩,⟨some 5,none,.mv (.t 17)⟩])))))) (.seq (.reg [⟨some 26,none,.mv (.t 1)⟩,⟨some 4,none,.mv (.t 26)⟩]) .ret)))))
theorem Sv:codeOf Tryz.prog 107=some ⟨27,Lf,[(.tmp 4)]⟩:=by kernel_rfl
theorem Hv:modes 107=⟨[],.asis,none,false⟩:=by unfold modes; rfl
abbrev Od (x:Tm):Prop:=D.fits x.d→∀ left:Int,0≤left→left≤1048576→E 47 [x.sv,.int .i64 left] []=some (.int .i64 (szR left x.bulk),[])
abbrev Uq (xs:List Tm):Prop:=D.fit (.arr (xs.map Tm.d))→∀ left:Int,0≤left→left≤1048576→E 107 [.arr (xs.map Tm.d),.int .i64 left] []=some (.int .i64 (szR left (xs.length+Tm.sumB xs:Nat)),[])
theorem VU (xs:List Tm) (h:∀ x∈xs,Od x):Uq xs:=by
 intro hfit left h0 h1
 simp only [D.fit,zL] at hfit
 have q0:=Cg left (xs.length+Tm.sumB xs)
 refine Af Sv Hv (of_decide_eq_true rfl) ?_
 simp (disch:=omega) only [Lf,go_sem,Ab]
 repeat' (refine DV (fun hq=>?_) (fun hq=>?_) <;> (first | replace hq:=Aq.1 hq | replace hq:=DK.1 hq) <;> (try simp (disch:=omega) only [go_sem,Ab]))
 ·omega
 refine go_loop (α:=Int × Int) (fun a=>⟨slots 27 0 [(0,.arr (xs.map Tm.d)),(1,.int .i64 a.2),(5,.int .i64 a.1)],[]⟩) (fun a=>∃ k:Nat,a.1=k∧k≤xs.length∧0≤a.2∧a.2≤1048576∧szR a.2 (Tm.sumB (xs.drop k))=szR left (xs.length+Tm.sumB xs:Nat)) (fun a=>xs.length-a.1.toNat) (0,left-xs.length) ⟨0,rfl,zH _,by omega,by omega,?_⟩ (by simp (disch:=omega) only [go_sem,Ab]) ?_
 ·have q1:=Cg (left-xs.length) (Tm.sumB xs)
  rw [zF]
  dsimp only
  omega
 ·rintro ⟨i,l⟩ ⟨k,hi,hk,hl0,hl1,hs⟩
  dsimp only at hi hl0 hl1 hs
  rcases zE k xs.length with hlt | hge
  ·have hg:=get_at Tm.d hlt
   rw [Tm.d_eq] at hg
   have hd:Tm.sumB (xs.drop k)=xs[k].bulk+Tm.sumB (xs.drop (k+1)):=by rw [zB hlt,Tm.sumB]
   rw [hd] at hs
   have hc:=h xs[k] (zD hlt) (D.OO hfit.2 _ (zD hlt)) l hl0 hl1
   have q1:=Cg l xs[k].bulk
   have q2:=Cg l (xs[k].bulk+Tm.sumB (xs.drop (k+1)))
   have q3:=Cg (l-xs[k].bulk) (Tm.sumB (xs.drop (k+1)))
   have hn:i.toNat=k:=by omega
   simp (disch:=omega) only [go_sem,Ab,hn,hg,hc,FW]
   repeat' (refine DV (fun hq=>?_) (fun hq=>?_) <;> (first | replace hq:=Aq.1 hq | replace hq:=DK.1 hq) <;> (try simp (disch:=omega) only [go_sem,Ab]))
   ·omega
   ·refine ⟨(i+1,l-xs[k].bulk),⟨k+1,by dsimp only; omega,hlt,by dsimp only; omega,by dsimp only; omega,by dsimp only; omega⟩,by dsimp only; omega,?_⟩
    have e:szR l xs[k].bulk=l-xs[k].bulk:=by omega
    simp only [e,and_self]
  ·have hd:xs.drop k=[]:=zC hge
   rw [hd] at hs
   have q1:=Cg l (Tm.sumB [])
   simp only [Tm.sumB] at hs q1
   simp (disch:=omega) only [go_sem,Ab]
   omega
theorem XB (x:Tm) (h_args:Uq x.args):Od x:=by
 intro hfit left h0 h1
 rw [Tm.d_eq] at hfit
 simp only [D.fits,D.fit] at hfit
 replace h_args:=h_args (by simp only [D.fit,zL]; simp only [zL] at hfit; simp only [hfit,and_self])
 have q:=Cg left x.bulk
 have qb:=Tm.bulk_eq x
 have q0:=Cg (left-(x.name.size:Int)) ((x.args.length+Tm.sumB x.args))
 refine Af Tg FW (of_decide_eq_true rfl) ?_
 simp (disch:=omega) only [Mw,go_sem,Ab,h_args,Hv]
 repeat' (refine DV (fun hq=>?_) (fun hq=>?_) <;> (first | replace hq:=Aq.1 hq | replace hq:=DK.1 hq) <;> (try simp (disch:=omega) only [go_sem,Ab,h_args,Hv]))
 all_goals omega
theorem XC (x:Tm):Od x:=XB x (VU x.args fun y hy=>XC y)
termination_by SizeOf.sizeOf x
decreasing_by exact Tm.lt_of_mem hy
def Jj:SC:=(.seq (.reg [⟨some 2,none,.boxv 27 5 (.t 0)⟩,⟨some 4,none,.mv (.c (.int .i64 0))⟩]) (.seq (.reg [⟨some 5,none,.faddr 1 (.t 2)⟩,⟨some 6,none,.load true 2 (.t 5)⟩,⟨some 7,none,.mv (.t 1)⟩,⟨some 8,none,.call 47 [(.t 6),(.t 7)]⟩,⟨some 1,none,.mv (.t 8)⟩]) (.seq (.seq (.reg [⟨some 9,none,.mv (.t 1)⟩,⟨some 10,none,.bin .lss false (.t 9) (.c (.int .i64 0))⟩]) (.cond (.t 10) (.seq (.reg [⟨some 4,none,.mv (.c (.int .i64 (-(0+1))))⟩]) .ret) .skip)) (.seq (.reg [⟨some 11,none,.mv (.t 1)⟩,⟨some 12,none,.faddr 3 (.t 2)⟩,⟨some 13,none,.load false 1 (.t 12)⟩,⟨some 14,none,.len true (.t 13)⟩,⟨some 15,none,.bin .sub false (.t 11) (.t 14)⟩,⟨some 1,none,.mv (.t 15)⟩]) (.seq (.seq (.reg [⟨some 16,none,.mv (.t 1)⟩,⟨some 17,none,.bin .lss false (.t 16) (.c (.int .i64 0))⟩]) (.cond (.t 17) (.seq (.reg [⟨some 4,none,.mv (.c (.int .i64 (-(0+1))))⟩]) .ret) .skip)) (.seq (.reg [⟨some 18,none,.faddr 4 (.t 2)⟩,⟨some 19,none,.load false 1 (.t 18)⟩,⟨some 20,none,.mv (.t 1)⟩,⟨some 21,none,.call 41 [(.t 19),(.t 20)]⟩,⟨some 1,none,.mv (.t 21)⟩]) (.seq (.seq (.reg [⟨some 22,none,.mv (.t 1)⟩,⟨some 23,none,.bin .lss false (.t 22) (.c (.int .i64 0))⟩]) (.cond (.t 23) (.seq (.reg [⟨some 4,none,.mv (.c (.int .i64 (-(0+1))))⟩]) .ret) .skip)) (.seq (.reg [⟨some 24,none,.mv (.t 1)⟩,⟨some 4,none,.mv (.t 24)⟩]) .ret))))))))
theorem Ph:codeOf Tryz.prog 9=some ⟨25,Jj,[(.tmp 4)]⟩:=by kernel_rfl
theorem Cn:modes 9=⟨[],.asis,none,false⟩:=by unfold modes; rfl
def Ih:SC:=(.seq (.reg [⟨some 4,none,.mv (.c (.int .i64 0))⟩]) (.seq (.reg [⟨some 6,none,.mv (.t 1)⟩,⟨some 7,none,.mv (.t 0)⟩,⟨some 8,none,.len false (.t 7)⟩,⟨some 9,none,.bin .sub false (.t 6) (.t 8)⟩,⟨some 1,none,.mv (.t 9)⟩]) (.seq (.seq (.reg [⟨some 10,none,.mv (.t 1)⟩,⟨some 11,none,.bin .lss false (.t 10) (.c (.int .i64 0))⟩]) (.cond (.t 11) (.seq (.reg [⟨some 4,none,.mv (.c (.int .i64 (-(0+1))))⟩]) .ret) .skip)) (.seq (.seq (.reg [⟨some 5,none,.mv (.c (.int .i64 0))⟩]) (.block 0 (.loop [1,1,0,0,0,1,0,0,0,0,0,0,0,0,0,0,0,0,0,0,0,0,0,0,0,0,0] (.seq (.seq (.reg [⟨some 12,none,.mv (.t 5)⟩,⟨some 13,none,.mv (.t 0)⟩,⟨some 14,none,.len false (.t 13)⟩,⟨some 15,none,.bin .lss false (.t 12) (.t 14)⟩]) (.cond (.t 15) .skip (.exit 0))) (.seq (.block 1 (.seq (.reg [⟨some 18,none,.mv (.t 0)⟩,⟨some 19,none,.mv (.t 5)⟩,⟨some 20,none,.iaddr 5 (.t 18) (.t 19)⟩,⟨some 21,none,.load true 5 (.t 20)⟩,⟨some 22,none,.mv (.t 1)⟩,⟨some 23,none,.call 9 [(.t 21),(.t 22)]⟩,⟨some 1,none,.mv (.t 23)⟩]) (.seq (.reg [⟨some 24,none,.mv (.t 1)⟩,⟨some 25,none,.bin .lss false (.t 24) (.c (.int .i64 0))⟩]) (.cond (.t 25) (.seq (.reg [⟨some 4,none,.mv (.c (.int .i64 (-(0+1))))⟩]) .ret) .skip)))) (.reg [⟨some 16,none,.mv (.t 5)⟩,⟨some 17,none,.bin .add false (.t 16) (.c (.int .i64 1))⟩,⟨some 5,none,.mv (.t 17)⟩])))))) (.seq (.reg [⟨some 26,none,.mv (.t 1)⟩,⟨some 4,none,.mv (.t 26)⟩]) .ret)))))
theorem Oe:codeOf Tryz.prog 41=some ⟨27,Ih,[(.tmp 4)]⟩:=by kernel_rfl
theorem Fn:modes 41=⟨[],.asis,none,false⟩:=by unfold modes; rfl
abbrev Lg (x:Fm):Prop:=D.fits x.d→∀ left:Int,0≤left→left≤1048576→E 9 [x.sv,.int .i64 left] []=some (.int .i64 (szR left x.bulk),[])
abbrev Of (xs:List Fm):Prop:=D.fit (.arr (xs.map Fm.d))→∀ left:Int,0≤left→left≤1048576→E 41 [.arr (xs.map Fm.d),.int .i64 left] []=some (.int .i64 (szR left (xs.length+Fm.sumB xs:Nat)),[])
theorem Qu (xs:List Fm) (h:∀ x∈xs,Lg x):Of xs:=by
 intro hfit left h0 h1
 simp only [D.fit,zL] at hfit
 have q0:=Cg left (xs.length+Fm.sumB xs)
 refine Af Oe Fn (of_decide_eq_true rfl) ?_
 simp (disch:=omega) only [Ih,go_sem,Ab]
 repeat' (refine DV (fun hq=>?_) (fun hq=>?_) <;> (first | replace hq:=Aq.1 hq | replace hq:=DK.1 hq) <;> (try simp (disch:=omega) only [go_sem,Ab]))
 ·omega
 refine go_loop (α:=Int × Int) (fun a=>⟨slots 27 0 [(0,.arr (xs.map Fm.d)),(1,.int .i64 a.2),(5,.int .i64 a.1)],[]⟩) (fun a=>∃ k:Nat,a.1=k∧k≤xs.length∧0≤a.2∧a.2≤1048576∧szR a.2 (Fm.sumB (xs.drop k))=szR left (xs.length+Fm.sumB xs:Nat)) (fun a=>xs.length-a.1.toNat) (0,left-xs.length) ⟨0,rfl,zH _,by omega,by omega,?_⟩ (by simp (disch:=omega) only [go_sem,Ab]) ?_
 ·have q1:=Cg (left-xs.length) (Fm.sumB xs)
  rw [zF]
  dsimp only
  omega
 ·rintro ⟨i,l⟩ ⟨k,hi,hk,hl0,hl1,hs⟩
  dsimp only at hi hl0 hl1 hs
  rcases zE k xs.length with hlt | hge
  ·have hg:=get_at Fm.d hlt
   rw [Fm.d_eq] at hg
   have hd:Fm.sumB (xs.drop k)=xs[k].bulk+Fm.sumB (xs.drop (k+1)):=by rw [zB hlt,Fm.sumB]
   rw [hd] at hs
   have hc:=h xs[k] (zD hlt) (D.OO hfit.2 _ (zD hlt)) l hl0 hl1
   have q1:=Cg l xs[k].bulk
   have q2:=Cg l (xs[k].bulk+Fm.sumB (xs.drop (k+1)))
   have q3:=Cg (l-xs[k].bulk) (Fm.sumB (xs.drop (k+1)))
   have hn:i.toNat=k:=by omega
   simp (disch:=omega) only [go_sem,Ab,hn,hg,hc,Cn]
   repeat' (refine DV (fun hq=>?_) (fun hq=>?_) <;> (first | replace hq:=Aq.1 hq | replace hq:=DK.1 hq) <;> (try simp (disch:=omega) only [go_sem,Ab]))
   ·omega
   ·refine ⟨(i+1,l-xs[k].bulk),⟨k+1,by dsimp only; omega,hlt,by dsimp only; omega,by dsimp only; omega,by dsimp only; omega⟩,by dsimp only; omega,?_⟩
    have e:szR l xs[k].bulk=l-xs[k].bulk:=by omega
    simp only [e,and_self]
  ·have hd:xs.drop k=[]:=zC hge
   rw [hd] at hs
   have q1:=Cg l (Fm.sumB [])
   simp only [Fm.sumB] at hs q1
   simp (disch:=omega) only [go_sem,Ab]
   omega
theorem Sw (x:Fm) (h_atom:Od x.atom) (h_parts:Of x.parts):Lg x:=by
 intro hfit left h0 h1
 rw [Fm.d_eq] at hfit
 simp only [D.fits,D.fit] at hfit
 replace h_atom:=h_atom (by rw [Tm.d_eq]; simp only [D.fits,D.fit,hfit,and_self])
 replace h_parts:=h_parts (by simp only [D.fit,zL]; simp only [zL] at hfit; simp only [hfit,and_self])
 have q:=Cg left x.bulk
 have qb:=Fm.bulk_eq x
 have q0:=Cg left (x.atom.bulk)
 have q41:=Cg ((szR left (x.atom.bulk:Nat))-(x.var.size:Int)) ((x.parts.length+Fm.sumB x.parts))
 refine Af Ph Cn (of_decide_eq_true rfl) ?_
 simp (disch:=omega) only [Jj,go_sem,Ab,h_atom,FW,h_parts,Fn]
 repeat' (refine DV (fun hq=>?_) (fun hq=>?_) <;> (first | replace hq:=Aq.1 hq | replace hq:=DK.1 hq) <;> (try simp (disch:=omega) only [go_sem,Ab,h_atom,FW,h_parts,Fn]))
 all_goals omega
theorem PX (x:Fm):Lg x:=Sw x (XC x.atom) (Qu x.parts fun y hy=>PX y)
termination_by SizeOf.sizeOf x
decreasing_by exact Fm.lt_of_mem hy
def My:SC:=(.seq (.reg [⟨some 1,none,.boxv 24 2 (.t 0)⟩,⟨(some 2),none,(.alloc 33 [(.str ⟨#[]⟩),.nil])⟩]) (.seq (.reg [⟨(some 3),none,(.alloc 33 [(.str ⟨#[]⟩),.nil])⟩]) (.seq (.reg [⟨some 4,none,.faddr 0 (.t 1)⟩,⟨some 5,none,.load false 1 (.t 4)⟩,⟨some 6,none,.faddr 0 (.t 3)⟩,⟨none,none,(.store 1 (.t 6) (.t 5))⟩]) (.seq (.reg [⟨some 7,none,.faddr 1 (.t 1)⟩,⟨some 8,none,.load false 1 (.t 7)⟩,⟨some 9,none,.call 115 [(.t 8)]⟩,⟨some 10,none,.faddr 1 (.t 3)⟩,⟨none,none,(.store 1 (.t 10) (.t 9))⟩]) (.seq (.reg [⟨some 11,none,.load true 2 (.t 3)⟩,⟨none,none,(.store 2 (.t 2) (.t 11))⟩]) .ret)))))
theorem Th:codeOf Tryz.prog 52=some ⟨12,My,[(.cell 2 true 2)]⟩:=by kernel_rfl
theorem IC:modes 52=⟨[],.asis,none,false⟩:=by unfold modes; rfl
def Lh:SC:=(.seq (.reg [⟨some 2,none,.mv (.c .nil)⟩]) (.seq (.reg [⟨some 5,none,.mv (.t 0)⟩,⟨some 6,none,.len false (.t 5)⟩,⟨(some 7),none,(.mkslice 33 2 40 [(.str ⟨#[]⟩),.nil] (.t 6))⟩,⟨some 3,none,.mv (.t 7)⟩]) (.seq (.seq (.reg [⟨some 4,none,.mv (.c (.int .i64 0))⟩]) (.block 0 (.loop [1,0,0,1,1,0,0,0,0,0,0,0,0,0,0,0,0,0,0,0,0,0,0] (.seq (.seq (.reg [⟨some 8,none,.mv (.t 4)⟩,⟨some 9,none,.mv (.t 0)⟩,⟨some 10,none,.len false (.t 9)⟩,⟨some 11,none,.bin .lss false (.t 8) (.t 10)⟩]) (.cond (.t 11) .skip (.exit 0))) (.seq (.block 1 (.reg [⟨some 14,none,.mv (.t 3)⟩,⟨some 15,none,.mv (.t 4)⟩,⟨some 16,none,.mv (.t 0)⟩,⟨some 17,none,.mv (.t 4)⟩,⟨some 18,none,.iaddr 2 (.t 16) (.t 17)⟩,⟨some 19,none,.load true 2 (.t 18)⟩,⟨some 20,none,.call 52 [(.t 19)]⟩,⟨some 21,none,.iaddr 2 (.t 14) (.t 15)⟩,⟨none,none,(.store 2 (.t 21) (.t 20))⟩])) (.reg [⟨some 12,none,.mv (.t 4)⟩,⟨some 13,none,.bin .add false (.t 12) (.c (.int .i64 1))⟩,⟨some 4,none,.mv (.t 13)⟩])))))) (.seq (.reg [⟨some 22,none,.mv (.t 3)⟩,⟨some 2,none,.mv (.t 22)⟩]) .ret))))
theorem Sx:codeOf Tryz.prog 115=some ⟨23,Lh,[(.tmp 2)]⟩:=by kernel_rfl
theorem Li:modes 115=⟨[],.asis,none,false⟩:=by unfold modes; rfl
abbrev Og (x:Tm):Prop:=x.bulk≤1048576→E 52 [x.sv] []=some (x.osv,x.obs)
abbrev Ur (xs:List Tm):Prop:=xs.length+Tm.sumB xs≤1048576→E 115 [.arr (xs.map Tm.d)] []=some (.ref 0,[.row 33 2 (xs.map Tm.o)])
theorem VV (xs:List Tm) (h:∀ x∈xs,Og x):Ur xs:=by
 intro hb
 refine Af Sx Li (of_decide_eq_true rfl) ?_
 simp (disch:=omega) only [Lh,go_sem,Ab]
 refine go_loop (α:=Int) (fun i=>⟨slots 23 0 [(0,.arr (xs.map Tm.d)),(3,.ref 0),(4,.int .i64 i)],[.row 33 2 (HY Tm.o [.str ⟨#[]⟩,.ow []] xs i.toNat)]⟩) (fun i=>∃ k:Nat,i=k∧k≤xs.length) (fun i=>xs.length-i.toNat) 0 ⟨0,rfl,zH _⟩ (by simp (disch:=omega) only [go_sem,Ab,MW,zU]) ?_
 ·rintro i ⟨k,rfl,hk⟩
  obtain ⟨i,hi⟩:∃ i:Int,i=(k:Int):=⟨_,rfl⟩
  rw [←hi]
  have hn:i.toNat=k:=by omega
  have hn1:(i+1).toNat=k+1:=by omega
  rcases zE k xs.length with hlt | hge
  ·have hg:=get_at Tm.d hlt
   rw [Tm.d_eq] at hg
   have hz:=OR Tm.o [.str ⟨#[]⟩,.ow []] hlt
   have hle:=Tm.bulk_le xs k hlt
   have hc:=h xs[k] (zD hlt) (by omega)
   have hs:=OS Tm.o [.str ⟨#[]⟩,.ow []] hlt
   rw [Tm.o_eq] at hs
   simp (disch:=omega) only [go_sem,Ab,hn,hg,hc,hz,OP,IC,Tm.osv,Tm.obs]
   refine ⟨i+1,⟨k+1,by omega,hlt⟩,by omega,?_⟩
   simp (disch:=omega) only [go_sem,Ab,hn1,hs]
  ·obtain rfl:k=xs.length:=by omega
   simp (disch:=omega) only [go_sem,Ab,hn,OQ]
theorem XD (x:Tm) (h_args:Ur x.args):Og x:=by
 intro hb
 have qb:=Tm.bulk_eq x
 replace h_args:=h_args (by omega)
 refine Af Th IC (of_decide_eq_true rfl) ?_
 simp (disch:=omega) only [My,go_sem,Ab,h_args,Li]
theorem XE (x:Tm):Og x:=XD x (VV x.args fun y hy=>XE y)
termination_by SizeOf.sizeOf x
decreasing_by exact Tm.lt_of_mem hy
def Jk:SC:=(.seq (.reg [⟨some 1,none,.boxv 27 5 (.t 0)⟩,⟨(some 2),none,(.alloc 36 [(.int .i64 0),(.str ⟨#[]⟩),.nil,(.str ⟨#[]⟩),.nil])⟩]) (.seq (.reg [⟨(some 3),none,(.alloc 36 [(.int .i64 0),(.str ⟨#[]⟩),.nil,(.str ⟨#[]⟩),.nil])⟩]) (.seq (.reg [⟨some 4,none,.faddr 0 (.t 1)⟩,⟨some 5,none,.load false 1 (.t 4)⟩,⟨some 6,none,.faddr 0 (.t 3)⟩,⟨none,none,(.store 1 (.t 6) (.t 5))⟩]) (.seq (.reg [⟨some 7,none,.faddr 1 (.t 1)⟩,⟨some 8,none,.load true 2 (.t 7)⟩,⟨some 9,none,.call 52 [(.t 8)]⟩,⟨some 10,none,.faddr 1 (.t 3)⟩,⟨none,none,(.store 2 (.t 10) (.t 9))⟩]) (.seq (.reg [⟨some 11,none,.faddr 3 (.t 1)⟩,⟨some 12,none,.load false 1 (.t 11)⟩,⟨some 13,none,.faddr 3 (.t 3)⟩,⟨none,none,(.store 1 (.t 13) (.t 12))⟩]) (.seq (.reg [⟨some 14,none,.faddr 4 (.t 1)⟩,⟨some 15,none,.load false 1 (.t 14)⟩,⟨some 16,none,.call 43 [(.t 15)]⟩,⟨some 17,none,.faddr 4 (.t 3)⟩,⟨none,none,(.store 1 (.t 17) (.t 16))⟩]) (.seq (.reg [⟨some 18,none,.load true 5 (.t 3)⟩,⟨none,none,(.store 5 (.t 2) (.t 18))⟩]) .ret)))))))
theorem Pi:codeOf Tryz.prog 12=some ⟨19,Jk,[(.cell 2 true 5)]⟩:=by kernel_rfl
theorem CC:modes 12=⟨[],.asis,none,false⟩:=by unfold modes; rfl
def Ii:SC:=(.seq (.reg [⟨some 2,none,.mv (.c .nil)⟩]) (.seq (.reg [⟨some 5,none,.mv (.t 0)⟩,⟨some 6,none,.len false (.t 5)⟩,⟨(some 7),none,(.mkslice 36 5 88 [(.int .i64 0),(.str ⟨#[]⟩),.nil,(.str ⟨#[]⟩),.nil] (.t 6))⟩,⟨some 3,none,.mv (.t 7)⟩]) (.seq (.seq (.reg [⟨some 4,none,.mv (.c (.int .i64 0))⟩]) (.block 0 (.loop [1,0,0,1,1,0,0,0,0,0,0,0,0,0,0,0,0,0,0,0,0,0,0] (.seq (.seq (.reg [⟨some 8,none,.mv (.t 4)⟩,⟨some 9,none,.mv (.t 0)⟩,⟨some 10,none,.len false (.t 9)⟩,⟨some 11,none,.bin .lss false (.t 8) (.t 10)⟩]) (.cond (.t 11) .skip (.exit 0))) (.seq (.block 1 (.reg [⟨some 14,none,.mv (.t 3)⟩,⟨some 15,none,.mv (.t 4)⟩,⟨some 16,none,.mv (.t 0)⟩,⟨some 17,none,.mv (.t 4)⟩,⟨some 18,none,.iaddr 5 (.t 16) (.t 17)⟩,⟨some 19,none,.load true 5 (.t 18)⟩,⟨some 20,none,.call 12 [(.t 19)]⟩,⟨some 21,none,.iaddr 5 (.t 14) (.t 15)⟩,⟨none,none,(.store 5 (.t 21) (.t 20))⟩])) (.reg [⟨some 12,none,.mv (.t 4)⟩,⟨some 13,none,.bin .add false (.t 12) (.c (.int .i64 1))⟩,⟨some 4,none,.mv (.t 13)⟩])))))) (.seq (.reg [⟨some 22,none,.mv (.t 3)⟩,⟨some 2,none,.mv (.t 22)⟩]) .ret))))
theorem Oh:codeOf Tryz.prog 43=some ⟨23,Ii,[(.tmp 2)]⟩:=by kernel_rfl
theorem Ij:modes 43=⟨[],.asis,none,false⟩:=by unfold modes; rfl
abbrev Lj (x:Fm):Prop:=x.bulk≤1048576→E 12 [x.sv] []=some (x.osv,x.obs)
abbrev Oi (xs:List Fm):Prop:=xs.length+Fm.sumB xs≤1048576→E 43 [.arr (xs.map Fm.d)] []=some (.ref 0,[.row 36 5 (xs.map Fm.o)])
theorem Qv (xs:List Fm) (h:∀ x∈xs,Lj x):Oi xs:=by
 intro hb
 refine Af Oh Ij (of_decide_eq_true rfl) ?_
 simp (disch:=omega) only [Ii,go_sem,Ab]
 refine go_loop (α:=Int) (fun i=>⟨slots 23 0 [(0,.arr (xs.map Fm.d)),(3,.ref 0),(4,.int .i64 i)],[.row 36 5 (HY Fm.o [.int 0,.str ⟨#[]⟩,.ow [],.str ⟨#[]⟩,.ow []] xs i.toNat)]⟩) (fun i=>∃ k:Nat,i=k∧k≤xs.length) (fun i=>xs.length-i.toNat) 0 ⟨0,rfl,zH _⟩ (by simp (disch:=omega) only [go_sem,Ab,MW,zU]) ?_
 ·rintro i ⟨k,rfl,hk⟩
  obtain ⟨i,hi⟩:∃ i:Int,i=(k:Int):=⟨_,rfl⟩
  rw [←hi]
  have hn:i.toNat=k:=by omega
  have hn1:(i+1).toNat=k+1:=by omega
  rcases zE k xs.length with hlt | hge
  ·have hg:=get_at Fm.d hlt
   rw [Fm.d_eq] at hg
   have hz:=OR Fm.o [.int 0,.str ⟨#[]⟩,.ow [],.str ⟨#[]⟩,.ow []] hlt
   have hle:=Fm.bulk_le xs k hlt
   have hc:=h xs[k] (zD hlt) (by omega)
   have hs:=OS Fm.o [.int 0,.str ⟨#[]⟩,.ow [],.str ⟨#[]⟩,.ow []] hlt
   rw [Fm.o_eq] at hs
   simp (disch:=omega) only [go_sem,Ab,hn,hg,hc,hz,OP,CC,Fm.osv,Fm.obs]
   refine ⟨i+1,⟨k+1,by omega,hlt⟩,by omega,?_⟩
   simp (disch:=omega) only [go_sem,Ab,hn1,hs]
  ·obtain rfl:k=xs.length:=by omega
   simp (disch:=omega) only [go_sem,Ab,hn,OQ]
theorem Sy (x:Fm) (h_atom:Og x.atom) (h_parts:Oi x.parts):Lj x:=by
 intro hb
 have qb:=Fm.bulk_eq x
 replace h_atom:=h_atom (by omega)
 replace h_parts:=h_parts (by omega)
 refine Af Pi CC (of_decide_eq_true rfl) ?_
 simp (disch:=omega) only [Jk,go_sem,Ab,h_atom,IC,h_parts,Ij]
theorem PY (x:Fm):Lj x:=Sy x (XE x.atom) (Qv x.parts fun y hy=>PY y)
termination_by SizeOf.sizeOf x
decreasing_by exact Fm.lt_of_mem hy
def Mz:SC:=(.seq (.reg [⟨some 2,none,.boxv 33 2 (.t 0)⟩,⟨some 3,none,.boxv 33 2 (.t 1)⟩,⟨some 4,none,.mv (.c (.bool false))⟩]) (.seq (.seq (.reg [⟨some 5,none,.faddr 0 (.t 2)⟩,⟨some 6,none,.load false 1 (.t 5)⟩,⟨some 7,none,.faddr 0 (.t 3)⟩,⟨some 8,none,.load false 1 (.t 7)⟩,⟨some 9,none,.bin .neq false (.t 6) (.t 8)⟩]) (.cond (.t 9) (.seq (.reg [⟨some 4,none,.mv (.c (.bool false))⟩]) .ret) .skip)) (.seq (.seq (.reg [⟨some 10,none,.faddr 1 (.t 2)⟩,⟨some 11,none,.load false 1 (.t 10)⟩,⟨some 12,none,.faddr 1 (.t 3)⟩,⟨some 13,none,.load false 1 (.t 12)⟩,⟨some 14,none,.call 134 [(.t 11),(.t 13)]⟩,⟨some 15,none,.un .not (.t 14)⟩]) (.cond (.t 15) (.seq (.reg [⟨some 4,none,.mv (.c (.bool false))⟩]) .ret) .skip)) (.seq (.reg [⟨some 4,none,.mv (.c (.bool true))⟩]) .ret))))
theorem Ti:codeOf Tryz.prog 61=some ⟨16,Mz,[(.tmp 4)]⟩:=by kernel_rfl
theorem FX:modes 61=⟨[],.asis,none,false⟩:=by unfold modes; rfl
def Lk:SC:=(.seq (.reg [⟨some 4,none,.mv (.c (.bool false))⟩]) (.seq (.seq (.reg [⟨some 6,none,.mv (.t 0)⟩,⟨some 7,none,.len false (.t 6)⟩,⟨some 8,none,.mv (.t 1)⟩,⟨some 9,none,.len false (.t 8)⟩,⟨some 10,none,.bin .neq false (.t 7) (.t 9)⟩]) (.cond (.t 10) (.seq (.reg [⟨some 4,none,.mv (.c (.bool false))⟩]) .ret) .skip)) (.seq (.seq (.reg [⟨some 5,none,.mv (.c (.int .i64 0))⟩]) (.block 0 (.loop [1,1,0,0,0,1,0,0,0,0,0,0,0,0,0,0,0,0,0,0,0,0,0,0,0,0,0] (.seq (.seq (.reg [⟨some 11,none,.mv (.t 5)⟩,⟨some 12,none,.mv (.t 0)⟩,⟨some 13,none,.len false (.t 12)⟩,⟨some 14,none,.bin .lss false (.t 11) (.t 13)⟩]) (.cond (.t 14) .skip (.exit 0))) (.seq (.block 1 (.seq (.dreg [[],[],[0,1],[2,0,1],[],[],[4,5],[6,4,5],[3,2,0,1,7,6,4,5],[8,3,2,0,1,7,6,4,5]] [⟨some 17,none,.mv (.t 0)⟩,⟨some 18,none,.mv (.t 5)⟩,⟨some 19,none,.iaddr 2 (.t 17) (.t 18)⟩,⟨some 20,none,.load true 2 (.t 19)⟩,⟨some 21,none,.mv (.t 1)⟩,⟨some 22,none,.mv (.t 5)⟩,⟨some 23,none,.iaddr 2 (.t 21) (.t 22)⟩,⟨some 24,none,.load true 2 (.t 23)⟩,⟨some 25,none,.call 61 [(.t 20),(.t 24)]⟩,⟨some 26,none,.un .not (.t 25)⟩]) (.cond (.t 26) (.seq (.reg [⟨some 4,none,.mv (.c (.bool false))⟩]) .ret) .skip))) (.reg [⟨some 15,none,.mv (.t 5)⟩,⟨some 16,none,.bin .add false (.t 15) (.c (.int .i64 1))⟩,⟨some 5,none,.mv (.t 16)⟩])))))) (.seq (.reg [⟨some 4,none,.mv (.c (.bool true))⟩]) .ret))))
theorem Sz:codeOf Tryz.prog 134=some ⟨27,Lk,[(.tmp 4)]⟩:=by kernel_rfl
theorem Ll:modes 134=⟨[],.asis,none,false⟩:=by unfold modes; rfl
abbrev Lm (x:Tm):Prop:=x.bulk≤1048576→E 61 [x.sv,x.sv] []=some (.bool true,[])
abbrev Us (xs:List Tm):Prop:=xs.length+Tm.sumB xs≤1048576→E 134 [.arr (xs.map Tm.d),.arr (xs.map Tm.d)] []=some (.bool true,[])
theorem VW (xs:List Tm) (h:∀ x∈xs,Lm x):Us xs:=by
 intro hb
 refine Af Sz Ll (of_decide_eq_true rfl) ?_
 simp (disch:=omega) only [Lk,go_sem,Ab]
 refine go_loop (α:=Int) (fun i=>⟨slots 27 0 [(0,.arr (xs.map Tm.d)),(1,.arr (xs.map Tm.d)),(5,.int .i64 i)],[]⟩) (fun i=>∃ k:Nat,i=k∧k≤xs.length) (fun i=>xs.length-i.toNat) 0 ⟨0,rfl,zH _⟩ (by simp (disch:=omega) only [go_sem,Ab]) ?_
 ·rintro i ⟨k,rfl,hk⟩
  obtain ⟨i,hi⟩:∃ i:Int,i=(k:Int):=⟨_,rfl⟩
  rw [←hi]
  have hn:i.toNat=k:=by omega
  rcases zE k xs.length with hlt | hge
  ·have hg:=get_at Tm.d hlt
   rw [Tm.d_eq] at hg
   have hle:=Tm.bulk_le xs k hlt
   have hc:=h xs[k] (zD hlt) (by omega)
   simp (disch:=omega) only [go_sem,Ab,hn,hg,hc,FX]
   refine ⟨i+1,⟨k+1,by omega,hlt⟩,by omega,?_⟩
   trivial
  ·obtain rfl:k=xs.length:=by omega
   simp (disch:=omega) only [go_sem,Ab,hn]
theorem XF (x:Tm) (h_args:Us x.args):Lm x:=by
 intro hb
 have qb:=Tm.bulk_eq x
 replace h_args:=h_args (by omega)
 refine Af Ti FX (of_decide_eq_true rfl) ?_
 simp (disch:=omega) only [Mz,go_sem,Ab,h_args,Ll,CU]
theorem S1 (x:Tm):Lm x:=XF x (VW x.args fun y hy=>S1 y)
termination_by SizeOf.sizeOf x
decreasing_by exact Tm.lt_of_mem hy
def Jl:SC:=(.seq (.reg [⟨some 2,none,.boxv 36 5 (.t 0)⟩,⟨some 3,none,.boxv 36 5 (.t 1)⟩,⟨some 4,none,.mv (.c (.bool false))⟩]) (.seq (.seq (.reg [⟨some 5,none,.faddr 0 (.t 2)⟩,⟨some 6,none,.load false 1 (.t 5)⟩,⟨some 7,none,.faddr 0 (.t 3)⟩,⟨some 8,none,.load false 1 (.t 7)⟩,⟨some 9,none,.bin .neq false (.t 6) (.t 8)⟩]) (.cond (.t 9) (.seq (.reg [⟨some 4,none,.mv (.c (.bool false))⟩]) .ret) .skip)) (.seq (.seq (.reg [⟨some 10,none,.faddr 1 (.t 2)⟩,⟨some 11,none,.load true 2 (.t 10)⟩,⟨some 12,none,.faddr 1 (.t 3)⟩,⟨some 13,none,.load true 2 (.t 12)⟩,⟨some 14,none,.call 61 [(.t 11),(.t 13)]⟩,⟨some 15,none,.un .not (.t 14)⟩]) (.cond (.t 15) (.seq (.reg [⟨some 4,none,.mv (.c (.bool false))⟩]) .ret) .skip)) (.seq (.seq (.reg [⟨some 16,none,.faddr 3 (.t 2)⟩,⟨some 17,none,.load false 1 (.t 16)⟩,⟨some 18,none,.faddr 3 (.t 3)⟩,⟨some 19,none,.load false 1 (.t 18)⟩,⟨some 20,none,.bin .neq false (.t 17) (.t 19)⟩]) (.cond (.t 20) (.seq (.reg [⟨some 4,none,.mv (.c (.bool false))⟩]) .ret) .skip)) (.seq (.seq (.reg [⟨some 21,none,.faddr 4 (.t 2)⟩,⟨some 22,none,.load false 1 (.t 21)⟩,⟨some 23,none,.faddr 4 (.t 3)⟩,⟨some 24,none,.load false 1 (.t 23)⟩,⟨some 25,none,.call 45 [(.t 22),(.t 24)]⟩,⟨some 26,none,.un .not (.t 25)⟩]) (.cond (.t 26) (.seq (.reg [⟨some 4,none,.mv (.c (.bool false))⟩]) .ret) .skip)) (.seq (.reg [⟨some 4,none,.mv (.c (.bool true))⟩]) .ret))))))
theorem Pj:codeOf Tryz.prog 15=some ⟨27,Jl,[(.tmp 4)]⟩:=by kernel_rfl
theorem CD:modes 15=⟨[],.asis,none,false⟩:=by unfold modes; rfl
def Ik:SC:=(.seq (.reg [⟨some 4,none,.mv (.c (.bool false))⟩]) (.seq (.seq (.reg [⟨some 6,none,.mv (.t 0)⟩,⟨some 7,none,.len false (.t 6)⟩,⟨some 8,none,.mv (.t 1)⟩,⟨some 9,none,.len false (.t 8)⟩,⟨some 10,none,.bin .neq false (.t 7) (.t 9)⟩]) (.cond (.t 10) (.seq (.reg [⟨some 4,none,.mv (.c (.bool false))⟩]) .ret) .skip)) (.seq (.seq (.reg [⟨some 5,none,.mv (.c (.int .i64 0))⟩]) (.block 0 (.loop [1,1,0,0,0,1,0,0,0,0,0,0,0,0,0,0,0,0,0,0,0,0,0,0,0,0,0] (.seq (.seq (.reg [⟨some 11,none,.mv (.t 5)⟩,⟨some 12,none,.mv (.t 0)⟩,⟨some 13,none,.len false (.t 12)⟩,⟨some 14,none,.bin .lss false (.t 11) (.t 13)⟩]) (.cond (.t 14) .skip (.exit 0))) (.seq (.block 1 (.seq (.dreg [[],[],[0,1],[2,0,1],[],[],[4,5],[6,4,5],[3,2,0,1,7,6,4,5],[8,3,2,0,1,7,6,4,5]] [⟨some 17,none,.mv (.t 0)⟩,⟨some 18,none,.mv (.t 5)⟩,⟨some 19,none,.iaddr 5 (.t 17) (.t 18)⟩,⟨some 20,none,.load true 5 (.t 19)⟩,⟨some 21,none,.mv (.t 1)⟩,⟨some 22,none,.mv (.t 5)⟩,⟨some 23,none,.iaddr 5 (.t 21) (.t 22)⟩,⟨some 24,none,.load true 5 (.t 23)⟩,⟨some 25,none,.call 15 [(.t 20),(.t 24)]⟩,⟨some 26,none,.un .not (.t 25)⟩]) (.cond (.t 26) (.seq (.reg [⟨some 4,none,.mv (.c (.bool false))⟩]) .ret) .skip))) (.reg [⟨some 15,none,.mv (.t 5)⟩,⟨some 16,none,.bin .add false (.t 15) (.c (.int .i64 1))⟩,⟨some 5,none,.mv (.t 16)⟩])))))) (.seq (.reg [⟨some 4,none,.mv (.c (.bool true))⟩]) .ret))))
theorem Oj:codeOf Tryz.prog 45=some ⟨27,Ik,[(.tmp 4)]⟩:=by kernel_rfl
theorem Il:modes 45=⟨[],.asis,none,false⟩:=by unfold modes; rfl
abbrev Ln (x:Fm):Prop:=x.bulk≤1048576→E 15 [x.sv,x.sv] []=some (.bool true,[])
abbrev Ok (xs:List Fm):Prop:=xs.length+Fm.sumB xs≤1048576→E 45 [.arr (xs.map Fm.d),.arr (xs.map Fm.d)] []=some (.bool true,[])
theorem Qw (xs:List Fm) (h:∀ x∈xs,Ln x):Ok xs:=by
 intro hb
 refine Af Oj Il (of_decide_eq_true rfl) ?_
 simp (disch:=omega) only [Ik,go_sem,Ab]
 refine go_loop (α:=Int) (fun i=>⟨slots 27 0 [(0,.arr (xs.map Fm.d)),(1,.arr (xs.map Fm.d)),(5,.int .i64 i)],[]⟩) (fun i=>∃ k:Nat,i=k∧k≤xs.length) (fun i=>xs.length-i.toNat) 0 ⟨0,rfl,zH _⟩ (by simp (disch:=omega) only [go_sem,Ab]) ?_
 ·rintro i ⟨k,rfl,hk⟩
  obtain ⟨i,hi⟩:∃ i:Int,i=(k:Int):=⟨_,rfl⟩
  rw [←hi]
  have hn:i.toNat=k:=by omega
  rcases zE k xs.length with hlt | hge
  ·have hg:=get_at Fm.d hlt
   rw [Fm.d_eq] at hg
   have hle:=Fm.bulk_le xs k hlt
   have hc:=h xs[k] (zD hlt) (by omega)
   simp (disch:=omega) only [go_sem,Ab,hn,hg,hc,CD]
   refine ⟨i+1,⟨k+1,by omega,hlt⟩,by omega,?_⟩
   trivial
  ·obtain rfl:k=xs.length:=by omega
   simp (disch:=omega) only [go_sem,Ab,hn]
theorem S2 (x:Fm) (h_atom:Lm x.atom) (h_parts:Ok x.parts):Ln x:=by
 intro hb
 have qb:=Fm.bulk_eq x
 replace h_atom:=h_atom (by omega)
 replace h_parts:=h_parts (by omega)
 refine Af Pj CD (of_decide_eq_true rfl) ?_
 simp (disch:=omega) only [Jl,go_sem,Ab,h_atom,FX,h_parts,Il,CU]
theorem PZ (x:Fm):Ln x:=S2 x (S1 x.atom) (Qw x.parts fun y hy=>PZ y)
termination_by SizeOf.sizeOf x
decreasing_by exact Fm.lt_of_mem hy
def Jm:SC:=(.seq (.reg [⟨some 2,none,.boxv 122 3 (.t 0)⟩,⟨some 3,none,.boxv 122 3 (.t 1)⟩,⟨some 4,none,.mv (.c (.bool false))⟩]) (.seq (.seq (.reg [⟨some 5,none,.faddr 0 (.t 2)⟩,⟨some 6,none,.load false 1 (.t 5)⟩,⟨some 7,none,.faddr 0 (.t 3)⟩,⟨some 8,none,.load false 1 (.t 7)⟩,⟨some 9,none,.bin .neq true (.t 6) (.t 8)⟩]) (.cond (.t 9) (.seq (.reg [⟨some 4,none,.mv (.c (.bool false))⟩]) .ret) .skip)) (.seq (.seq (.reg [⟨some 10,none,.faddr 1 (.t 2)⟩,⟨some 11,none,.load true 2 (.t 10)⟩,⟨some 12,none,.faddr 1 (.t 3)⟩,⟨some 13,none,.load true 2 (.t 12)⟩,⟨some 14,none,.call 61 [(.t 11),(.t 13)]⟩,⟨some 15,none,.un .not (.t 14)⟩]) (.cond (.t 15) (.seq (.reg [⟨some 4,none,.mv (.c (.bool false))⟩]) .ret) .skip)) (.seq (.reg [⟨some 4,none,.mv (.c (.bool true))⟩]) .ret))))
theorem Pk:codeOf Tryz.prog 157=some ⟨16,Jm,[(.tmp 4)]⟩:=by kernel_rfl
theorem Jn:modes 157=⟨[],.asis,none,false⟩:=by unfold modes; rfl
def Im:SC:=(.seq (.reg [⟨some 4,none,.mv (.c (.bool false))⟩]) (.seq (.seq (.reg [⟨some 6,none,.mv (.t 0)⟩,⟨some 7,none,.len false (.t 6)⟩,⟨some 8,none,.mv (.t 1)⟩,⟨some 9,none,.len false (.t 8)⟩,⟨some 10,none,.bin .neq false (.t 7) (.t 9)⟩]) (.cond (.t 10) (.seq (.reg [⟨some 4,none,.mv (.c (.bool false))⟩]) .ret) .skip)) (.seq (.seq (.reg [⟨some 5,none,.mv (.c (.int .i64 0))⟩]) (.block 0 (.loop [1,1,0,0,0,1,0,0,0,0,0,0,0,0,0,0,0,0,0,0,0,0,0,0,0,0,0] (.seq (.seq (.reg [⟨some 11,none,.mv (.t 5)⟩,⟨some 12,none,.mv (.t 0)⟩,⟨some 13,none,.len false (.t 12)⟩,⟨some 14,none,.bin .lss false (.t 11) (.t 13)⟩]) (.cond (.t 14) .skip (.exit 0))) (.seq (.block 1 (.seq (.dreg [[],[],[0,1],[2,0,1],[],[],[4,5],[6,4,5],[3,2,0,1,7,6,4,5],[8,3,2,0,1,7,6,4,5]] [⟨some 17,none,.mv (.t 0)⟩,⟨some 18,none,.mv (.t 5)⟩,⟨some 19,none,.iaddr 3 (.t 17) (.t 18)⟩,⟨some 20,none,.load true 3 (.t 19)⟩,⟨some 21,none,.mv (.t 1)⟩,⟨some 22,none,.mv (.t 5)⟩,⟨some 23,none,.iaddr 3 (.t 21) (.t 22)⟩,⟨some 24,none,.load true 3 (.t 23)⟩,⟨some 25,none,.call 157 [(.t 20),(.t 24)]⟩,⟨some 26,none,.un .not (.t 25)⟩]) (.cond (.t 26) (.seq (.reg [⟨some 4,none,.mv (.c (.bool false))⟩]) .ret) .skip))) (.reg [⟨some 15,none,.mv (.t 5)⟩,⟨some 16,none,.bin .add false (.t 15) (.c (.int .i64 1))⟩,⟨some 5,none,.mv (.t 16)⟩])))))) (.seq (.reg [⟨some 4,none,.mv (.c (.bool true))⟩]) .ret))))
theorem Ol:codeOf Tryz.prog 82=some ⟨27,Im,[(.tmp 4)]⟩:=by kernel_rfl
theorem Io:modes 82=⟨[],.asis,none,false⟩:=by unfold modes; rfl
abbrev Lo (x:Lt):Prop:=x.bulk≤1048576→E 157 [x.sv,x.sv] []=some (.bool true,[])
abbrev Om (xs:List Lt):Prop:=xs.length+Lt.sumB xs≤1048576→E 82 [.arr (xs.map Lt.d),.arr (xs.map Lt.d)] []=some (.bool true,[])
theorem Qx (xs:List Lt) (h:∀ x∈xs,Lo x):Om xs:=by
 intro hb
 refine Af Ol Io (of_decide_eq_true rfl) ?_
 simp (disch:=omega) only [Im,go_sem,Ab]
 refine go_loop (α:=Int) (fun i=>⟨slots 27 0 [(0,.arr (xs.map Lt.d)),(1,.arr (xs.map Lt.d)),(5,.int .i64 i)],[]⟩) (fun i=>∃ k:Nat,i=k∧k≤xs.length) (fun i=>xs.length-i.toNat) 0 ⟨0,rfl,zH _⟩ (by simp (disch:=omega) only [go_sem,Ab]) ?_
 ·rintro i ⟨k,rfl,hk⟩
  obtain ⟨i,hi⟩:∃ i:Int,i=(k:Int):=⟨_,rfl⟩
  rw [←hi]
  have hn:i.toNat=k:=by omega
  rcases zE k xs.length with hlt | hge
  ·have hg:=get_at Lt.d hlt
   rw [Lt.d_eq] at hg
   have hle:=Lt.bulk_le xs k hlt
   have hc:=h xs[k] (zD hlt) (by omega)
   simp (disch:=omega) only [go_sem,Ab,hn,hg,hc,Jn]
   refine ⟨i+1,⟨k+1,by omega,hlt⟩,by omega,?_⟩
   trivial
  ·obtain rfl:k=xs.length:=by omega
   simp (disch:=omega) only [go_sem,Ab,hn]
theorem S3 (x:Lt) (h_atom:Lm x.atom):Lo x:=by
 intro hb
 have qb:=Lt.bulk_eq x
 replace h_atom:=h_atom (by omega)
 refine Af Pk Jn (of_decide_eq_true rfl) ?_
 simp (disch:=omega) only [Jm,go_sem,Ab,h_atom,FX,CU]
theorem XG (x:Lt):Lo x:=S3 x (S1 x.atom)
def Km:SC:=(.seq (.reg [⟨some 2,none,.boxv 60 1 (.t 0)⟩,⟨some 3,none,.boxv 60 1 (.t 1)⟩,⟨some 4,none,.mv (.c (.bool false))⟩]) (.seq (.seq (.reg [⟨some 5,none,.faddr 0 (.t 2)⟩,⟨some 6,none,.load false 1 (.t 5)⟩,⟨some 7,none,.faddr 0 (.t 3)⟩,⟨some 8,none,.load false 1 (.t 7)⟩,⟨some 9,none,.call 82 [(.t 6),(.t 8)]⟩,⟨some 10,none,.un .not (.t 9)⟩]) (.cond (.t 10) (.seq (.reg [⟨some 4,none,.mv (.c (.bool false))⟩]) .ret) .skip)) (.seq (.reg [⟨some 4,none,.mv (.c (.bool true))⟩]) .ret)))
theorem Qy:codeOf Tryz.prog 30=some ⟨11,Km,[(.tmp 4)]⟩:=by kernel_rfl
theorem Kn:modes 30=⟨[],.asis,none,false⟩:=by unfold modes; rfl
def Jo:SC:=(.seq (.reg [⟨some 4,none,.mv (.c (.bool false))⟩]) (.seq (.seq (.reg [⟨some 6,none,.mv (.t 0)⟩,⟨some 7,none,.len false (.t 6)⟩,⟨some 8,none,.mv (.t 1)⟩,⟨some 9,none,.len false (.t 8)⟩,⟨some 10,none,.bin .neq false (.t 7) (.t 9)⟩]) (.cond (.t 10) (.seq (.reg [⟨some 4,none,.mv (.c (.bool false))⟩]) .ret) .skip)) (.seq (.seq (.reg [⟨some 5,none,.mv (.c (.int .i64 0))⟩]) (.block 0 (.loop [1,1,0,0,0,1,0,0,0,0,0,0,0,0,0,0,0,0,0,0,0,0,0,0,0,0,0] (.seq (.seq (.reg [⟨some 11,none,.mv (.t 5)⟩,⟨some 12,none,.mv (.t 0)⟩,⟨some 13,none,.len false (.t 12)⟩,⟨some 14,none,.bin .lss false (.t 11) (.t 13)⟩]) (.cond (.t 14) .skip (.exit 0))) (.seq (.block 1 (.seq (.dreg [[],[],[0,1],[2,0,1],[],[],[4,5],[6,4,5],[3,2,0,1,7,6,4,5],[8,3,2,0,1,7,6,4,5]] [⟨some 17,none,.mv (.t 0)⟩,⟨some 18,none,.mv (.t 5)⟩,⟨some 19,none,.iaddr 1 (.t 17) (.t 18)⟩,⟨some 20,none,.load true 1 (.t 19)⟩,⟨some 21,none,.mv (.t 1)⟩,⟨some 22,none,.mv (.t 5)⟩,⟨some 23,none,.iaddr 1 (.t 21) (.t 22)⟩,⟨some 24,none,.load true 1 (.t 23)⟩,⟨some 25,none,.call 30 [(.t 20),(.t 24)]⟩,⟨some 26,none,.un .not (.t 25)⟩]) (.cond (.t 26) (.seq (.reg [⟨some 4,none,.mv (.c (.bool false))⟩]) .ret) .skip))) (.reg [⟨some 15,none,.mv (.t 5)⟩,⟨some 16,none,.bin .add false (.t 15) (.c (.int .i64 1))⟩,⟨some 5,none,.mv (.t 16)⟩])))))) (.seq (.reg [⟨some 4,none,.mv (.c (.bool true))⟩]) .ret))))
theorem Pl:codeOf Tryz.prog 29=some ⟨27,Jo,[(.tmp 4)]⟩:=by kernel_rfl
theorem Dm:modes 29=⟨[],.asis,none,false⟩:=by unfold modes; rfl
abbrev Ng (x:Cl):Prop:=x.bulk≤1048576→E 30 [x.sv,x.sv] []=some (.bool true,[])
abbrev Qa (xs:List Cl):Prop:=xs.length+Cl.sumB xs≤1048576→E 29 [.arr (xs.map Cl.d),.arr (xs.map Cl.d)] []=some (.bool true,[])
theorem S4 (xs:List Cl) (h:∀ x∈xs,Ng x):Qa xs:=by
 intro hb
 refine Af Pl Dm (of_decide_eq_true rfl) ?_
 simp (disch:=omega) only [Jo,go_sem,Ab]
 refine go_loop (α:=Int) (fun i=>⟨slots 27 0 [(0,.arr (xs.map Cl.d)),(1,.arr (xs.map Cl.d)),(5,.int .i64 i)],[]⟩) (fun i=>∃ k:Nat,i=k∧k≤xs.length) (fun i=>xs.length-i.toNat) 0 ⟨0,rfl,zH _⟩ (by simp (disch:=omega) only [go_sem,Ab]) ?_
 ·rintro i ⟨k,rfl,hk⟩
  obtain ⟨i,hi⟩:∃ i:Int,i=(k:Int):=⟨_,rfl⟩
  rw [←hi]
  have hn:i.toNat=k:=by omega
  rcases zE k xs.length with hlt | hge
  ·have hg:=get_at Cl.d hlt
   rw [Cl.d_eq] at hg
   have hle:=Cl.bulk_le xs k hlt
   have hc:=h xs[k] (zD hlt) (by omega)
   simp (disch:=omega) only [go_sem,Ab,hn,hg,hc,Kn]
   refine ⟨i+1,⟨k+1,by omega,hlt⟩,by omega,?_⟩
   trivial
  ·obtain rfl:k=xs.length:=by omega
   simp (disch:=omega) only [go_sem,Ab,hn]
theorem Tj (x:Cl) (h_lits:Om x.lits):Ng x:=by
 intro hb
 have qb:=Cl.bulk_eq x
 replace h_lits:=h_lits (by omega)
 refine Af Qy Kn (of_decide_eq_true rfl) ?_
 simp (disch:=omega) only [Km,go_sem,Ab,h_lits,Io,CU]
theorem Zv (x:Cl):Ng x:=Tj x (Qx x.lits fun y hy=>XG y)
theorem XH (xs:List Cl):Qa xs:=S4 xs fun x _=>Zv x
noncomputable def Qf3 (s u:Sb):Bool:=(Qf2 s u).ok
theorem S5:∀ {xs:List ByteArray} {n m:ByteArray},m∈CW xs n ↔ m∈xs∨m=n
 | [],n,m=>by simp [CW]
 | x :: xs,n,m=>by
  rw [CW]
  cases strLt x n with
  | true=>rw [cond_true,zO,S5,zO,or_assoc]
  | false =>
   rw [cond_false]
   by_cases h:x=n
   ·rw [An h,cond_true]
    exact ⟨.inl,fun h'=>h'.elim id fun e=>by subst e; subst h; simp⟩
   ·rw [Aj h,cond_false,zO]
    exact or_comm
theorem S6:∀ (xs:List ByteArray) (n:ByteArray),(CW xs n).length≤xs.length+1
 | [],n=>by simp [CW]
 | x :: xs,n=>by
  have h:=S6 xs n
  rw [CW]
  cases strLt x n with
  | true=>simp only [cond_true,zG]; omega
  | false =>
   rw [cond_false]
   cases dec (x=n) with
   | true=>simp only [cond_true,zG]; omega
   | false=>simp only [cond_false,zG]; omega
theorem Qa5:∀ (xs:List ByteArray) (n:ByteArray),CH xs n≤xs.length
 | [],n=>by simp [CH]
 | x :: xs,n=>by
  have h:=Qa5 xs n
  rw [CH]
  cases strLt x n with
  | true=>simp only [cond_true,zG]; omega
  | false=>simp only [cond_false,zG]; omega
theorem JM:∀ {xs:List ByteArray} {n:ByteArray} (h:CH xs n<xs.length),xs[CH xs n]=n→CW xs n=xs
 | [],n,h,_=>by simp at h
 | x :: xs,n,h,e=>by
  rw [CW]
  cases hq:strLt x n with
  | true =>
   simp only [CH,hq,cond_true,zG,zW] at h e
   rw [cond_true,JM (by omega) e]
  | false =>
   simp only [CH,hq,cond_false,zZ] at e
   rw [cond_false,An e]; rfl
theorem Fo:∀ {xs:List ByteArray} {n:ByteArray},(∀ h:CH xs n<xs.length,¬ xs[CH xs n]=n)→CW xs n=xs.take (CH xs n)++n :: xs.drop (CH xs n)
 | [],n,_=>by simp [CW,CH]
 | x :: xs,n,h=>by
  rw [CW]
  cases hq:strLt x n with
  | true =>
   simp only [CH,hq,cond_true,zG,zW] at h ⊢
   rw [Fo fun h'=>h (by omega)]
   simp
  | false =>
   simp only [CH,hq,cond_false,zZ] at h ⊢
   rw [Aj (h (by simp))]
   simp
theorem Ut {xs:List ByteArray} {n:ByteArray} {k:Nat} (h:k+CH (xs.drop k) n=CH xs n) (hk:k<xs.length):(strLt xs[k] n=true∧k+1+CH (xs.drop (k+1)) n=CH xs n)∨(strLt xs[k] n=false∧k=CH xs n):=by
 rw [zB hk,CH] at h
 cases hq:strLt xs[k] n with
 | true=>rw [hq,cond_true] at h; exact .inl ⟨rfl,by omega⟩
 | false=>rw [hq,cond_false] at h; exact .inr ⟨rfl,by omega⟩
theorem ot_take (xs:List ByteArray) (k:Nat):((xs.map fun s=>[D.str s]).take k).map (fun x=>x.map D.ot)=(xs.take k).map fun s=>[OT.str s]:=by
 rw [←List.map_take,yG]; rfl
theorem ot_drop (xs:List ByteArray) (k:Nat):((xs.map fun s=>[D.str s]).drop k).map (fun x=>x.map D.ot)=(xs.drop k).map fun s=>[OT.str s]:=by
 rw [←List.map_drop,yG]; rfl
theorem GI (xs:List ByteArray):((xs.map fun s=>[OT.str s]).all fun l=>l.length == 1)=true:=by
 rw [y6,zM]
 intro x _; rfl
theorem Jp (xs:List ByteArray):((xs.map fun s=>[D.str s]).all fun l=>l.length == 1)=true:=by
 rw [y6,zM]
 intro x _; rfl
namespace Wd
attribute [local go_sem] ES Ro SV.isNil Ob.idsB SV.idsB SV.Mh List.getElem?_cons_zero List.getElem?_cons_succ OT.AO OT.C6 OT.full entry toTree TL R2 TK Gg F5 EF WN P3 UU OT.erss OT.ers OT.er OT.BD OT.Dq OT.noSh quiet obB QV Gt meets Iw go_skip QG go_ret Vr QH Vs ND QI QJ QK Vt Vu Vv Qal Qam Qan QL QM NE LJ QN NF LK QO Vw Vx Qao Vy Vz V3 Qap V4 V5 NG V6 V7 V8 V9 VA VB VC VD PG Rw CR seen LL JA QP QQ VE LM DM NH NI NJ VF VG QT VH order opF fOp F0 TH QaU TF TG WM Iz eqK Ay gets Ap Ql Ew Dj LU O4 AR UT SV.cellsN SV.one JZ splice DS SN JY K4 DO BN Cf BF Ka Kb UK eOp.mkEs eOp.addS D.sv OT.sv D.ot HM nodupB reach SV.refs SV.PE SV.ptrs SV.PF Ob.refs Ob.liveB ET Ej SV.back SV.Mi Ob.back HL HT CF Bx B5 GX EU SV.ren SV.LV Ob.ren mkU sgp gc Mk names LW UV UW UX MO YC UZ Va Vb Vd Ve Vf SC.mark PI EV slots Nz US rxV K9 Rv SV.noSh SV.Mg Ob.noSh SV.own SV.R0 F6 cond_true cond_false zG zQ zK zT yS zF List.drop_nil yT yB List.take_nil yI z7 zX xD List.all_nil List.getD_cons_zero List.getD_cons_succ xF List.any_nil List.contains_cons List.contains_nil List.isEmpty_nil List.isEmpty_cons List.flatten_cons List.flatten_nil List.replicate_succ List.replicate_zero List.set_cons_zero List.set_cons_succ Nat.add_zero yE zI zH yZ yQ xC Bool.or_false xG Bool.true_or y5 xH y8 y9 yC decide_true decide_false beq_self_eq_true if_true if_false Option.map_some Option.map_none zN Option.getD_some Option.getD_none Int.toNat_natCast true_and and_true and_self eq_self_iff_true zL yU Bool.true_eq_false zV SV.int.injEq SV.bool.injEq SV.str.injEq SV.agg.injEq SV.tup.injEq SV.arr.injEq yR St.mk.injEq Int.zero_add Qar Qas VI An Aj QdV svK svD Yz svM MV.sv T4 Rt N0 Ru Gv St.app SQ MK.sv LN LO LP QR QS mode
def JN:SC:=(.seq (.reg [⟨some 4,none,.mv (.c .nil)⟩]) (.seq (.reg [⟨some 5,none,.mv (.c (.int .i64 0))⟩]) (.seq (.block 0 (.loop [1,1,0,0,0,1,0,0,0,0,0,0,0,0,0,0,0,0,0,0,0,0,0,0,0,0,0,0,0,0,0,0,0,0,0,0,0,0,0,0,0,0,0,0,0] (.seq (.seq (.reg [⟨some 6,none,.mv (.t 5)⟩,⟨some 7,none,.mv (.t 0)⟩,⟨some 8,none,.len false (.t 7)⟩,⟨some 9,none,.bin .lss false (.t 6) (.t 8)⟩,⟨some 10,none,.mv (.t 9)⟩,⟨(some 11),(some (10,true)),(.mv (.t 0))⟩,⟨(some 12),(some (10,true)),(.mv (.t 5))⟩,⟨(some 13),(some (10,true)),(.iaddr 1 (.t 11) (.t 12))⟩,⟨(some 14),(some (10,true)),(.load false 1 (.t 13))⟩,⟨(some 15),(some (10,true)),(.mv (.t 1))⟩,⟨(some 16),(some (10,true)),(.bin .lss false (.t 14) (.t 15))⟩,⟨some 17,none,.pick (.t 10) (.t 16) (.c (.bool false))⟩]) (.cond (.t 17) .skip (.exit 0))) (.block 1 (.reg [⟨some 18,none,.mv (.t 5)⟩,⟨some 19,none,.bin .add false (.t 18) (.c (.int .i64 1))⟩,⟨some 5,none,.mv (.t 19)⟩]))))) (.seq (.seq (.reg [⟨some 20,none,.mv (.t 5)⟩,⟨some 21,none,.mv (.t 0)⟩,⟨some 22,none,.len false (.t 21)⟩,⟨some 23,none,.bin .lss false (.t 20) (.t 22)⟩,⟨some 24,none,.mv (.t 23)⟩,⟨(some 25),(some (24,true)),(.mv (.t 0))⟩,⟨(some 26),(some (24,true)),(.mv (.t 5))⟩,⟨(some 27),(some (24,true)),(.iaddr 1 (.t 25) (.t 26))⟩,⟨(some 28),(some (24,true)),(.load false 1 (.t 27))⟩,⟨(some 29),(some (24,true)),(.mv (.t 1))⟩,⟨(some 30),(some (24,true)),(.bin .eql false (.t 28) (.t 29))⟩,⟨some 31,none,.pick (.t 24) (.t 30) (.c (.bool false))⟩]) (.cond (.t 31) (.seq (.reg [⟨some 32,none,.mv (.t 0)⟩,⟨some 4,none,.mv (.t 32)⟩]) .ret) .skip)) (.seq (.dreg [[],[],[],[1,2],[0,3,1,2],[],[5],[4,0,3,1,2,6,5],[],[],[8,9],[7,4,0,3,1,2,6,5,10,8,9],[11,7,4,0,3,1,2,6,5,10,8,9]] [⟨(some 33),none,(.mkrow 9 1 [(.str ⟨#[]⟩)] 0 [])⟩,⟨some 34,none,.mv (.t 0)⟩,⟨some 35,none,.mv (.t 5)⟩,⟨some 36,none,.slice false 1 (.t 34) none (some (.t 35))⟩,⟨(some 37),none,(.append 9 1 16 [(.str ⟨#[]⟩)] (.t 33) (.t 36))⟩,⟨some 38,none,.mv (.t 1)⟩,⟨(some 39),none,(.mkrow 9 1 [(.str ⟨#[]⟩)] 1 [(0,(.t 38))])⟩,⟨(some 40),none,(.append 9 1 16 [(.str ⟨#[]⟩)] (.t 37) (.t 39))⟩,⟨some 41,none,.mv (.t 0)⟩,⟨some 42,none,.mv (.t 5)⟩,⟨some 43,none,.slice false 1 (.t 41) (some (.t 42)) none⟩,⟨(some 44),none,(.append 9 1 16 [(.str ⟨#[]⟩)] (.t 40) (.t 43))⟩,⟨some 4,none,.mv (.t 44)⟩]) .ret)))))
theorem On:codeOf Tryz.prog 238=some ⟨45,JN,[(.tmp 4)]⟩:=by kernel_rfl
theorem Dy:modes 238=⟨[],.asis,none,false⟩:=rfl
theorem Qep {xs:List ByteArray} {k:Nat} (h:k<xs.length):(xs.map fun s=>[OT.str s])[k]?=some [OT.str xs[k]]:=by rw [yM,List.getElem?_eq_getElem h]; rfl
theorem l2PutN_E (xs:List ByteArray) (n:ByteArray) (hl:xs.length≤1048576) (hg:xs.length<(CW xs n).length):E 238 [.arr (xs.map fun s=>[D.str s]),.str n] []=some (.ref 0,[.row 9 1 ((CW xs n).map fun s=>[OT.str s])]):=by
 have e1:=ot_take xs (CH xs n)
 have e2:=ot_drop xs (CH xs n)
 have e3:=GI (xs.take (CH xs n))
 have e4:=GI (xs.drop (CH xs n))
 have e5:=Jp xs
 have l1:=Qa5 xs n
 have e6:(xs.map fun s=>[D.str s]).take xs.length=xs.map fun s=>[D.str s]:=yK (by simp)
 have e7:(xs.take (CH xs n)).length=CH xs n:=by rw [yF]; omega
 have e8:(xs.drop (CH xs n)).length=xs.length-CH xs n:=List.length_drop
 refine Af On Dy (of_decide_eq_true rfl) ?_
 simp (disch:=omega) only [JN,go_sem,Ab]
 refine go_loop (α:=Int) (fun a=>⟨slots 45 0 [(0,.arr (xs.map fun s=>[D.str s])),(1,.str n),(5,.int .i64 a)],[]⟩) (fun a=>∃ k:Nat,a=k∧k≤(xs).length∧k+CH (xs.drop k) n=CH xs n) (fun a=>(xs).length-(a).toNat) 0 ⟨0,rfl,zH _,by rw [zF,yE]⟩ (by simp (disch:=omega) only [go_sem,Ab]) ?_
 rintro i ⟨k,hi,hk,hR⟩
 have hni:i.toNat=k:=by omega
 have hni1:(i+1).toNat=k+1:=by omega
 rcases zE k (xs).length with hlt | hge
 ·have hg':=get_at (fun s=>[D.str s]) hlt
  rcases Ut hR hlt with ⟨q,hR'⟩ | ⟨q,hk'⟩
  ·simp (disch:=omega) only [go_sem,Ab,hni,hg',q]
   exact ⟨i+1,⟨k+1,by omega,hlt,hR'⟩,by omega,by first | trivial | rfl⟩
  ·subst hk'
   by_cases h0:xs[CH xs n]=n
   ·have hi0:=JM hlt h0
    rw [hi0] at hg
    exact absurd hg (Nat.lt_irrefl _)
   ·have hi0:=Fo (fun _=>h0)
    have hx2:(xs.take (CH xs n)).map (fun s=>[OT.str s])++[[OT.str n]]++(xs.drop (CH xs n)).map (fun s=>[OT.str s])=(CW xs n).map fun s=>[OT.str s]:=by rw [hi0]; simp
    simp (disch:=omega) only [go_sem,Ab,hni,hg',q,h0,e1,e2,e3,e4,e5,e6,e7,e8,hx2,zS,zU]
 ·obtain rfl:k=xs.length:=by omega
  have hk':xs.length=CH xs n:=by rw [←hR,zC (zI _)]; simp [CH]
  have hi0:=Fo (xs:=xs) (n:=n) (fun h=>by omega)
  have hx2:(xs.take (CH xs n)).map (fun s=>[OT.str s])++[[OT.str n]]++(xs.drop (CH xs n)).map (fun s=>[OT.str s])=(CW xs n).map fun s=>[OT.str s]:=by rw [hi0]; simp
  rw [hk'] at hni
  simp (disch:=omega) only [go_sem,Ab,hni,e1,e2,e3,e4,e5,e6,e7,e8,hx2,zS,zU]
theorem l2PutT_E (xs:List ByteArray) (n:ByteArray) (hl:xs.length≤1048576) (hg:¬ xs.length<(CW xs n).length):E 238 [.ref 0,.str n] [.row 9 1 (xs.map fun s=>[OT.str s])]=some (.ref 0,[.row 9 1 (xs.map fun s=>[OT.str s])]):=by
 refine Af On Dy (of_decide_eq_true rfl) ?_
 simp (disch:=omega) only [JN,go_sem,Ab]
 refine go_loop (α:=Int) (fun a=>⟨slots 45 0 [(0,.ref 0),(1,.str n),(5,.int .i64 a)],[.row 9 1 (xs.map fun s=>[OT.str s])]⟩) (fun a=>∃ k:Nat,a=k∧k≤(xs).length∧k+CH (xs.drop k) n=CH xs n) (fun a=>(xs).length-(a).toNat) 0 ⟨0,rfl,zH _,by rw [zF,yE]⟩ (by simp (disch:=omega) only [go_sem,Ab]) ?_
 rintro i ⟨k,hi,hk,hR⟩
 have hni:i.toNat=k:=by omega
 have hni1:(i+1).toNat=k+1:=by omega
 rcases zE k (xs).length with hlt | hge
 ·have hg':=Qep hlt
  rcases Ut hR hlt with ⟨q,hR'⟩ | ⟨q,hk'⟩
  ·simp (disch:=omega) only [go_sem,Ab,hni,hg',q]
   exact ⟨i+1,⟨k+1,by omega,hlt,hR'⟩,by omega,by first | trivial | rfl⟩
  ·subst hk'
   by_cases h0:xs[CH xs n]=n
   ·simp (disch:=omega) only [go_sem,Ab,hni,hg',q,h0,MZ,CU]
   ·have hi0:=Fo (fun _=>h0)
    refine absurd ?_ hg
    rw [hi0]; simp; omega
 ·obtain rfl:k=xs.length:=by omega
  have hk':xs.length=CH xs n:=by rw [←hR,zC (zI _)]; simp [CH]
  have hi0:=Fo (xs:=xs) (n:=n) (fun h=>by omega)
  refine absurd ?_ hg
  rw [hi0]; simp; omega
end Wd
theorem Dy:modes 238=⟨[true],.asis,some OM,false⟩:=by unfold modes; rfl
theorem XI (xs:List ByteArray) (n:ByteArray) (hl:xs.length≤1048576):E 238 [.ref 0,.str n] [.row 9 1 (xs.map fun s=>[OT.str s])]=some (bif dec (xs.length<(CW xs n).length) then .ref 1 else .ref 0,bif dec (xs.length<(CW xs n).length) then [.gone,.row 9 1 ((CW xs n).map fun s=>[OT.str s])] else [.row 9 1 (xs.map fun s=>[OT.str s])]):=by
 rw [FH (g:=OM) (congrArg FM.ext Dy)]
 unfold OM
 simp only [Qcx]
 rw [An ⟨trivial,fun h=>(FunD.toFun (Wd.E_told (Wd.l2PutT_E xs n hl h))),fun h=>FunD.toFun (Wd.E_told (Wd.l2PutN_E xs n hl h))⟩,cond_true]
 cases dec (xs.length<(CW xs n).length) <;> rfl
theorem Uu (xs:List ByteArray) (n:ByteArray):xs.length≤(CW xs n).length:=by
 rcases zE (CH xs n) xs.length with h | h
 ·by_cases h0:xs[CH xs n]=n
  ·rw [JM h h0]; exact zI _
  ·rw [Fo (fun _=>h0)]; simp; omega
 ·rw [Fo (fun h'=>by omega)]; simp; omega
theorem Uv {xs:List ByteArray} {n:ByteArray} (h:(CW xs n).length≤xs.length):CW xs n=xs:=by
 rcases zE (CH xs n) xs.length with h1 | h1
 ·by_cases h0:xs[CH xs n]=n
  ·exact JM h1 h0
  ·rw [Fo (fun _=>h0)] at h
   simp at h
   omega
 ·rw [Fo (fun h'=>by omega)] at h
  simp at h
  omega
noncomputable def C4 (l ns:List ByteArray):List ByteArray:=ns.foldl CW l
theorem E3:∀ (ns l:List ByteArray),(C4 l ns).length≤l.length+ns.length
 | [],l=>by simp [C4]
 | n :: ns,l=>by
  have h:=E3 ns (CW l n)
  have h2:=S6 l n
  simp only [C4,zP,zG] at h ⊢
  omega
theorem XJ:∀ {ns l:List ByteArray} {m:ByteArray},m∈C4 l ns ↔ m∈l∨m∈ns
 | [],l,m=>by simp [C4]
 | n :: ns,l,m=>by
  have h:=XJ (ns:=ns) (l:=CW l n) (m:=m)
  simp only [C4,zP] at h ⊢
  rw [h,S5]
  simp only [zO]
  exact or_assoc
theorem S7 (l a b:List ByteArray):C4 l (a++b)=C4 (C4 l a) b:=yY
def FY:SC:=(.seq (.reg [⟨some 3,none,.boxv 33 2 (.t 1)⟩,⟨some 4,none,.mv (.c .nil)⟩]) (.seq (.seq (.reg [⟨some 6,none,.faddr 0 (.t 3)⟩,⟨some 7,none,.load false 1 (.t 6)⟩,⟨some 8,none,.call 191 [(.t 7)]⟩]) (.cond (.t 8) (.seq (.reg [⟨some 9,none,.mv (.t 0)⟩,⟨some 10,none,.faddr 0 (.t 3)⟩,⟨some 11,none,.load false 1 (.t 10)⟩,⟨some 12,none,.call 238 [(.t 9),(.t 11)]⟩,⟨some 4,none,.mv (.t 12)⟩]) .ret) .skip)) (.seq (.seq (.reg [⟨some 5,none,.mv (.c (.int .i64 0))⟩]) (.block 0 (.loop [1,0,0,1,0,1,0,0,0,0,0,0,0,0,0,0,0,0,0,0,0,0,0,0,0,0,0,0] (.seq (.seq (.reg [⟨some 13,none,.mv (.t 5)⟩,⟨some 14,none,.faddr 1 (.t 3)⟩,⟨some 15,none,.load false 1 (.t 14)⟩,⟨some 16,none,.len false (.t 15)⟩,⟨some 17,none,.bin .lss false (.t 13) (.t 16)⟩]) (.cond (.t 17) .skip (.exit 0))) (.seq (.block 1 (.reg [⟨some 20,none,.mv (.t 0)⟩,⟨some 21,none,.faddr 1 (.t 3)⟩,⟨some 22,none,.load false 1 (.t 21)⟩,⟨some 23,none,.mv (.t 5)⟩,⟨some 24,none,.iaddr 2 (.t 22) (.t 23)⟩,⟨some 25,none,.load true 2 (.t 24)⟩,⟨some 26,none,.call 295 [(.t 20),(.t 25)]⟩,⟨some 0,none,.mv (.t 26)⟩])) (.reg [⟨some 18,none,.mv (.t 5)⟩,⟨some 19,none,.bin .add false (.t 18) (.c (.int .i64 1))⟩,⟨some 5,none,.mv (.t 19)⟩])))))) (.seq (.reg [⟨some 27,none,.mv (.t 0)⟩,⟨some 4,none,.mv (.t 27)⟩]) .ret))))
theorem ID:codeOf Tryz.prog 295=some ⟨28,FY,[(.tmp 4)]⟩:=by kernel_rfl
theorem DF:modes 295=⟨[true],.asis,none,false⟩:=by unfold modes; rfl
def IE:SC:=(.seq (.reg [⟨some 1,none,.boxv 33 2 (.t 0)⟩,⟨some 2,none,.mv (.c .nil)⟩]) (.seq (.reg [⟨(some 3),none,(.mkrow 9 1 [(.str ⟨#[]⟩)] 0 [])⟩,⟨some 4,none,.load true 2 (.t 1)⟩,⟨some 5,none,.call 295 [(.t 3),(.t 4)]⟩,⟨some 2,none,.mv (.t 5)⟩]) .ret))
theorem M0:codeOf Tryz.prog 237=some ⟨6,IE,[(.tmp 2)]⟩:=by kernel_rfl
theorem IF:modes 237=⟨[],.frz,none,false⟩:=by unfold modes; rfl
theorem LT:∀ (ns l:List ByteArray),l.length≤(C4 l ns).length
 | [],l=>zI _
 | n :: ns,l=>by
  have h:=LT ns (CW l n)
  have h2:=Uu l n
  simp only [C4,zP] at h ⊢
  omega
abbrev QcQ (x:Tm):Prop:=∀ l:List ByteArray,l.length+x.nodes≤1048576→E 295 [.ref 0,x.sv] [.row 9 1 (l.map fun s=>[OT.str s])]=some ((bif dec (l.length<(C4 l x.vs).length) then .ref 1 else .ref 0),(bif dec (l.length<(C4 l x.vs).length) then [.gone,.row 9 1 ((C4 l x.vs).map fun s=>[OT.str s])] else [.row 9 1 ((C4 l x.vs).map fun s=>[OT.str s])]))
theorem Qb0 (x:Tm) (ih:∀ y∈x.args,QcQ y):QcQ x:=by
 intro l hn
 have hl:=Tm.length_le x.args
 have hne:=Tm.nodes_eq x
 have hvs:=Tm.Qay x
 have hp:=XI l x.name (by omega)
 have hxs:x.sv=.agg [.str x.name,.arr (x.args.map Tm.d)]:=rfl
 cases hvv:AY x.name with
 | true =>
  rw [hvv] at hvs
  have e:C4 l x.vs=CW l x.name:=by rw [hvs]; rfl
  rw [e]
  rcases zE l.length (CW l x.name).length with q | q
  all_goals
   first
    |rw [An q] at hp ⊢
    |rw [Aj (yV.2 q)] at hp ⊢
   simp only [cond_true,cond_false] at hp ⊢
  ·refine Af ID DF (of_decide_eq_true rfl) ?_
   simp (disch:=omega) only [FY,go_sem,Ab,hvv,hp,Ak,Ek,Dy]
  ·have e2:CW l x.name=l:=Uv q
   rw [e2]
   refine Af ID DF (of_decide_eq_true rfl) ?_
   simp (disch:=omega) only [FY,go_sem,Ab,hvv,hp,Ak,Ek,Dy]
 | false =>
  rw [hvv] at hvs
  simp only [cond_false] at hvs
  rw [hvs]
  have hgl:dec (l.length < l.length)=false:=Aj (by omega)
  refine Af ID DF (of_decide_eq_true rfl) ?_
  simp (disch:=omega) only [FY,go_sem,Ab,hvv,Ak,Ek]
  refine go_loop (α:=Int × (List ByteArray)) (fun a=>⟨slots 28 0 [(0,(bif dec (l.length < (a.2).length) then .ref 1 else .ref 0)),(3,(bif dec (l.length < (a.2).length) then .ptr 2 0 else .ptr 1 0)),(5,.int .i64 (a.1))],(bif dec (l.length < (a.2).length) then [.gone,.row 9 1 ((a.2).map fun s=>[OT.str s]),.box 33 [.str x.name,.arr (x.args.map Tm.d)]] else [.row 9 1 ((a.2).map fun s=>[OT.str s]),.box 33 [.str x.name,.arr (x.args.map Tm.d)]])⟩) (fun a=>∃ k:Nat,a.1=k∧k≤(x.args).length∧C4 (a.2) (Tm.vsL (x.args.drop k))=C4 l (Tm.vsL x.args)∧(a.2).length+Tm.nodeS (x.args.drop k)≤1048576∧l.length≤(a.2).length) (fun a=>(x.args).length - (a.1).toNat) (0,l) ⟨0,rfl,zH _,by rw [zF],by rw [zF]; dsimp only; omega,zI _⟩ (by simp (disch:=omega) only [go_sem,Ab,hgl]) ?_
  rintro ⟨i,acc⟩ ⟨k,hi,hk,hR⟩
  dsimp only at hi hR
  have hni:i.toNat=k:=by omega
  have hni1:(i+1).toNat=k+1:=by omega
  rcases zE k (x.args).length with hlt | hge
  ·have hg:=get_at Tm.d hlt
   rw [Tm.d_eq] at hg
   obtain ⟨hR1,hR2,hR3⟩:=hR
   rw [zB hlt,Tm.vsL,S7] at hR1
   rw [zB hlt,Tm.nodeS] at hR2
   have hc:=ih x.args[k] (zD hlt) acc (by omega)
   have hlen:=E3 x.args[k].vs acc
   have hgr:=LT x.args[k].vs acc
   have hvl:=Tm.vs_len x.args[k]
   obtain ⟨acc2,ha2⟩:∃ a,a=C4 acc x.args[k].vs:=⟨_,rfl⟩
   rw [←ha2] at hc hlen hgr hR1
   rcases zE l.length acc.length with q1 | q1 <;> rcases zE acc.length acc2.length with q2 | q2
   all_goals
    first
     |rw [An q2] at hc
     |rw [Aj (yV.2 q2)] at hc
    simp only [cond_true,cond_false] at hc
    first
     |have d1:=An q1
     |have d1:=Aj (yV.2 q1)
    first
     |have d2:dec (l.length < acc2.length)=true:=An (by omega)
     |have d2:dec (l.length < acc2.length)=false:=Aj (by omega)
    simp (disch:=omega) only [go_sem,Ab,hni,hg,hc,d1,DF]
    refine ⟨(i+1,acc2),⟨k+1,by dsimp only; omega,hlt,hR1,by dsimp only; omega,by dsimp only; omega⟩,by dsimp only; omega,?_⟩
    first | done | simp (disch:=omega) only [go_sem,Ab,d2]
  ·rw [zC hge,Tm.vsL] at hR
   obtain ⟨hR1,hR2,hR3⟩:=hR
   have hR1:acc=C4 l (Tm.vsL x.args):=hR1
   rw [←hR1]
   rcases zE l.length acc.length with q1 | q1
   ·have d1:=An q1
    simp (disch:=omega) only [go_sem,Ab,hni,d1]
   ·have d1:=Aj (yV.2 q1)
    simp (disch:=omega) only [go_sem,Ab,hni,d1]
theorem XK (x:Tm):QcQ x:=Qb0 x fun y hy=>XK y
termination_by SizeOf.sizeOf x
decreasing_by exact Tm.lt_of_mem hy
theorem QcR (x:Tm) (hn:x.nodes≤1048576):E 237 [x.sv] []=some (.arr ((C4 [] x.vs).map fun s=>[D.str s]),[]):=by
 have h:=XK x [] (by simpa using hn)
 rw [zT,zQ] at h
 obtain ⟨ns,hns⟩:∃ ns,ns=C4 [] x.vs:=⟨_,rfl⟩
 rw [←hns] at h ⊢
 rcases zE 0 ns.length with q | q
 ·rw [An q] at h
  simp only [cond_true] at h
  refine Af M0 IF (of_decide_eq_true rfl) ?_
  simp (disch:=omega) only [IE,go_sem,Ab,h,DF]
 ·have e:ns=[]:=zJ (by omega)
  subst e
  rw [Aj (by simp)] at h
  simp only [cond_false,zT] at h
  refine Af M0 IF (of_decide_eq_true rfl) ?_
  simp (disch:=omega) only [IE,go_sem,Ab,h,DF]
def Sb.idem (s:Sb):Prop:=∀ w t,s.look w=some t→∀ v∈t.vs,s.look v=none
noncomputable def QcS (x y:Tm):Bd:=bif AY x.name&&!(AY y.name&&strLt x.name y.name) then ⟨x.name,y⟩ else ⟨y.name,x⟩
noncomputable def Qf4 (b:Bd):Bool:=!dec (b.var∈b.term.vs)&&(Sb.mk [b]).ok
noncomputable def QeX:Nat→Sb→List (Tm × Tm)→Option (Option Sb)
 | 0,_,_=>none
 | n+1,s,l=>match l with
  | []=>some (some s)
  | p :: l=>bif QeT s p.1&&QeT s p.2 then
    (bif dec (LY s p.1=LY s p.2) then QeX n s l
    else bif AY (LY s p.1).name || AY (LY s p.2).name then
     (bif Qf4 (QcS (LY s p.1) (LY s p.2))&&Qf3 s ⟨[QcS (LY s p.1) (LY s p.2)]⟩ then QeX n (Qf2 s ⟨[QcS (LY s p.1) (LY s p.2)]⟩) l else some none)
    else bif dec ((LY s p.1).name=(LY s p.2).name)&&dec ((LY s p.1).args.length=(LY s p.2).args.length) then QeX n s ((LY s p.1).args.zip (LY s p.2).args++l)
    else some none)
   else some none
def Qf5:List (Tm × Tm)→Nat
 | []=>0
 | p :: l=>p.1.nodes+Qf5 l
structure uInv (s:Sb) (l:List (Tm × Tm)):Prop where
 ok:s.ok=true
 idem:s.idem
 ex:∀ p∈l,p.1.expr=true∧p.2.expr=true
 pq:∃ P Q,l=P++Q∧(∀ p∈P,p.1.ap s.look=p.1)∧Qf5 P≤30∧Q.length≤1+30*s.binds.length
def Qb:SC:=(.seq (.reg [⟨some 4,none,.mv (.c (.bool false))⟩]) (.seq (.seq (.reg [⟨some 5,none,.mv (.c (.int .i64 0))⟩]) (.block 0 (.loop [1,1,0,0,0,1,0,0,0,0,0,0,0,0,0,0,0,0] (.seq (.seq (.reg [⟨some 6,none,.mv (.t 5)⟩,⟨some 7,none,.mv (.t 0)⟩,⟨some 8,none,.len false (.t 7)⟩,⟨some 9,none,.bin .lss false (.t 6) (.t 8)⟩]) (.cond (.t 9) .skip (.exit 0))) (.seq (.block 1 (.seq (.reg [⟨some 12,none,.mv (.t 0)⟩,⟨some 13,none,.mv (.t 5)⟩,⟨some 14,none,.iaddr 1 (.t 12) (.t 13)⟩,⟨some 15,none,.load false 1 (.t 14)⟩,⟨some 16,none,.mv (.t 1)⟩,⟨some 17,none,.bin .eql false (.t 15) (.t 16)⟩]) (.cond (.t 17) (.seq (.reg [⟨some 4,none,.mv (.c (.bool true))⟩]) .ret) .skip))) (.reg [⟨some 10,none,.mv (.t 5)⟩,⟨some 11,none,.bin .add false (.t 10) (.c (.int .i64 1))⟩,⟨some 5,none,.mv (.t 11)⟩])))))) (.seq (.reg [⟨some 4,none,.mv (.c (.bool false))⟩]) .ret)))
theorem XL:codeOf Tryz.prog 112=some ⟨18,Qb,[(.tmp 4)]⟩:=by kernel_rfl
theorem Ee:modes 112=⟨[],.asis,none,false⟩:=by unfold modes; rfl
theorem Zw (xs:List ByteArray) (n:ByteArray) (hl:xs.length≤1099511627776):E 112 [.arr (xs.map fun s=>[D.str s]),.str n] []=some (.bool (dec (n∈xs)),[]):=by
 refine Af XL Ee (of_decide_eq_true rfl) ?_
 simp (disch:=omega) only [Qb,go_sem,Ab]
 refine go_loop (α:=Int) (fun a=>⟨slots 18 0 [(0,.arr (xs.map fun s=>[D.str s])),(1,.str n),(5,.int .i64 a)],[]⟩) (fun a=>∃ k:Nat,a=k∧k≤(xs).length∧dec (n∈xs.drop k)=dec (n∈xs)) (fun a=>(xs).length-(a).toNat) 0 ⟨0,rfl,zH _,by rw [zF]⟩ (by simp (disch:=omega) only [go_sem,Ab]) ?_
 rintro i ⟨k,hi,hk,hR⟩
 have hni:i.toNat=k:=by omega
 have hni1:(i+1).toNat=k+1:=by omega
 rcases zE k (xs).length with hlt | hge
 ·have hg:=get_at (fun s=>[D.str s]) hlt
  rw [zB hlt] at hR
  by_cases hp:xs[k]=n
  ·have hq:=eq_true hp
   have ht:dec (n∈xs)=true:=An (hp▸zD hlt)
   simp (disch:=omega) only [go_sem,Ab,hni,hg,hq]
   exact ht.symm
  ·have hq:=eq_false hp
   have hR:dec (n∈xs.drop (k+1))=dec (n∈xs):=by
    rw [←hR]
    exact Gw (by simp only [zO]; exact ⟨.inr,fun h=>h.elim (fun e=>absurd e.symm hp) id⟩)
   simp (disch:=omega) only [go_sem,Ab,hni,hg,hq]
   exact ⟨i+1,⟨k+1,by omega,hlt,hR⟩,by omega,by first | trivial | rfl⟩
 ·rw [zC hge,Aj (by simp)] at hR
  simp (disch:=omega) only [go_sem,Ab,hni]
  exact hR
theorem QcT {c:Cl} (h:c.ok=true):c.tame:=⟨by have:=Cl.Dx h; omega,fun y hy=>by have:=Tm.Cm (Cl.Ci h y hy); omega⟩
theorem Tm.Qb1 {x:Tm} (h:x.atom=true):x.bulk≤300:=by
 have hx:=Tm.Um h
 have hn:=Tm.Sd hx
 have h1:=Tm.Nd x.args fun y hy=>Tm.Sh y (Tm.QcA hx hy)
 have h2:x.name.size≤6:=by
  rcases Tm.Se hx with h3 | ⟨h3,_⟩
  ·rw [Tm.Hm] at h3
   split at h3
   ·rename_i hv; exact Uk hv
   ·rw [zA,zA] at h3; exact Ul h3.1.1
  ·unfold Tm.eqn at h3
   rw [Aq.1 h3]; decide
 rw [Tm.nodes_eq] at hn
 rw [Tm.bulk_eq]
 omega
theorem Lt.S8:∀ xs:List Lt,(∀ x∈xs,x.atom.atom=true)→Lt.sumB xs≤300*xs.length
 | [],_=>by simp [Lt.sumB]
 | x :: xs,h=>by
  have h1:=Tm.Qb1 (h x (by simp))
  have h2:=Lt.S8 xs fun y hy=>h y (by simp [hy])
  rw [Lt.sumB,Lt.bulk_eq,zG]; omega
theorem Cl.Qeq {x:Cl} (h:x.ok=true):x.bulk≤2408:=by
 have h1:=Cl.Dx h
 have h2:=Lt.S8 x.lits (Cl.Ci h)
 rw [Cl.bulk_eq]; omega
noncomputable def Kz (l:List Cl) (c:Cl):List Cl:=bif dec (c∈l) then l else l++[c]
noncomputable def G3 (l cs:List Cl):List Cl:=cs.foldl Kz l
theorem XM {l:List Cl} {c d:Cl}:d∈Kz l c ↔ d∈l∨d=c:=by
 unfold Kz
 by_cases h:c∈l
 ·rw [An h,cond_true]
  exact ⟨.inl,fun h'=>h'.elim id fun e=>e▸h⟩
 ·rw [Aj h,cond_false]
  simp
theorem XN (l:List Cl) (c:Cl):(Kz l c).length≤l.length+1:=by
 unfold Kz
 cases dec (c∈l) <;> simp
theorem XO:∀ (cs l:List Cl),(G3 l cs).length≤l.length+cs.length
 | [],l=>by simp [G3]
 | c :: cs,l=>by
  have h:=XO cs (Kz l c)
  have h2:=XN l c
  simp only [G3,zP,zG] at h ⊢
  omega
theorem XP:∀ {cs l:List Cl} {d:Cl},d∈G3 l cs ↔ d∈l∨d∈cs
 | [],l,d=>by simp [G3]
 | c :: cs,l,d=>by
  have h:=XP (cs:=cs) (l:=Kz l c) (d:=d)
  simp only [G3,zP] at h ⊢
  rw [h,XM]
  simp only [zO]
  exact or_assoc
theorem Cl.Qa6 {x y:Cl}:x=y ↔ x.lits=y.lits:=by
 constructor
 ·intro h; rw [h]
 ·intro h
  cases x; cases y
  simpa using h
theorem Hw {p q:Prop} (h:p ↔ q):dec p=dec q:=by rw [show p=q from propext h]
theorem XQ {xs ys:List Lt} (hl:xs.length=ys.length) {k:Nat} (hk:k<xs.length):(xs.drop k=ys.drop k) ↔ (xs[k]=ys[k]'(by omega)∧xs.drop (k+1)=ys.drop (k+1)):=by
 rw [zB hk,zB (show k<ys.length by omega),yR]
theorem Hx:GD Tryz.prog 217=true:=by kernel_rfl
def A2:SC:=(.seq (.reg [⟨some 6,none,.mv (.c (.bool false))⟩]) (.seq (.seq (.reg [⟨some 10,none,.mv (.t 0)⟩,⟨some 11,none,.len false (.t 10)⟩,⟨some 12,none,.mv (.t 1)⟩,⟨some 13,none,.len false (.t 12)⟩,⟨some 14,none,.bin .neq false (.t 11) (.t 13)⟩]) (.cond (.t 14) (.seq (.reg [⟨some 6,none,.mv (.c (.bool false))⟩]) .ret) .skip)) (.seq (.seq (.reg [⟨some 15,none,.mv (.t 0)⟩,⟨some 16,none,.len false (.t 15)⟩,⟨some 17,none,.mv (.c (.int .i64 0))⟩]) (.block 0 (.loop [0,1,1,0,0,0,0,0,0,0,0,0,0,0,0,1,1,1,0,0,0,0,0,0,0,0,0,0,0,0,0,0] (.seq (.reg [⟨some 18,none,.bin .lss false (.t 17) (.t 16)⟩]) (.seq (.cond (.t 18) .skip (.exit 0)) (.seq (.block 1 (.seq (.reg [⟨some 19,none,.mv (.t 17)⟩,⟨some 20,none,.iaddr 3 (.t 15) (.t 17)⟩,⟨some 21,none,.load true 3 (.t 20)⟩,⟨(some 8),none,(.alloc 122 [(.bool false),(.str ⟨#[]⟩),.nil])⟩,⟨some 7,none,.mv (.t 19)⟩,⟨none,none,(.store 3 (.t 8) (.t 21))⟩]) (.seq (.reg [⟨some 22,none,.mv (.t 1)⟩,⟨some 23,none,.mv (.t 7)⟩,⟨some 24,none,.iaddr 3 (.t 22) (.t 23)⟩,⟨some 25,none,.load true 3 (.t 24)⟩,⟨(some 9),none,(.alloc 122 [(.bool false),(.str ⟨#[]⟩),.nil])⟩,⟨none,none,(.store 3 (.t 9) (.t 25))⟩]) (.seq (.reg [⟨some 26,none,.mv (.t 2)⟩,⟨some 27,none,.load true 3 (.t 8)⟩,⟨some 28,none,.load true 3 (.t 9)⟩,⟨some 29,none,.callv (.t 26) [(.t 27),(.t 28)]⟩,⟨some 30,none,.un .not (.t 29)⟩]) (.cond (.t 30) (.seq (.reg [⟨some 6,none,.mv (.c (.bool false))⟩]) .ret) .skip))))) (.reg [⟨some 31,none,.bin .add false (.t 17) (.c (.int .i64 1))⟩,⟨some 17,none,.mv (.t 31)⟩]))))))) (.seq (.reg [⟨some 6,none,.mv (.c (.bool true))⟩]) .ret))))
theorem AP:codeOf Tryz.prog 216=some ⟨32,A2,[(.tmp 6)]⟩:=by kernel_rfl
theorem A3:modes 216=⟨[],.asis,none,false⟩:=by unfold modes; rfl
def Ip:SC:=(.seq (.reg [⟨some 2,none,.boxv 60 1 (.t 0)⟩,⟨some 3,none,.boxv 60 1 (.t 1)⟩,⟨some 4,none,.mv (.c (.bool false))⟩]) (.seq (.reg [⟨some 5,none,.faddr 0 (.t 2)⟩,⟨some 6,none,.load false 1 (.t 5)⟩,⟨some 7,none,.faddr 0 (.t 3)⟩,⟨some 8,none,.load false 1 (.t 7)⟩,⟨some 9,none,.call 216 [(.t 6),(.t 8),(.c (.fn 217 []))]⟩,⟨some 4,none,.mv (.t 9)⟩]) .ret))
theorem Oo:codeOf Tryz.prog 156=some ⟨10,Ip,[(.tmp 4)]⟩:=by kernel_rfl
theorem Iq:modes 156=⟨[],.asis,none,false⟩:=by unfold modes; rfl
theorem QcU (xs ys:List Lt) (hx:xs.length≤1048576) (hy:ys.length≤1048576) (hnx:∀ x∈xs,x.atom.nodes≤1099511627776) (hny:∀ x∈ys,x.atom.nodes≤1099511627776):E 216 [.arr (xs.map Lt.d),.arr (ys.map Lt.d),.fn 217 []] []=some (.bool (dec (xs=ys)),[]):=by
 by_cases hl:xs.length=ys.length
 ·have hz:((xs.length:Int)=(ys.length:Int))=True:=eq_true (by omega)
  refine Af AP A3 (of_decide_eq_true rfl) ?_
  simp (disch:=omega) only [A2,go_sem,Ab,hz]
  refine go_loop (α:=Int) (fun a=>⟨slots 32 0 [(1,.arr (ys.map Lt.d)),(2,.fn 217 []),(15,.arr (xs.map Lt.d)),(16,.int .i64 xs.length),(17,.int .i64 a)],[]⟩) (fun a=>∃ k:Nat,a=k∧k≤(xs).length∧dec (xs.drop k=ys.drop k)=dec (xs=ys)) (fun a=>(xs).length-(a).toNat) 0 ⟨0,rfl,zH _,by rw [zF,zF]⟩ (by simp (disch:=omega) only [go_sem,Ab]) ?_
  rintro i ⟨k,hi,hk,hR⟩
  have hni:i.toNat=k:=by omega
  have hni1:(i+1).toNat=k+1:=by omega
  rcases zE k (xs).length with hlt | hge
  ·have hg:=get_at Lt.d hlt
   have hlt2:k<ys.length:=by omega
   have hg2:=get_at Lt.d hlt2
   rw [Lt.d_eq] at hg hg2
   have hs:=XQ hl hlt
   have hc:=Mv xs[k] ys[k] (hnx _ (zD hlt)) (hny _ (zD hlt2))
   have h1:xs[k].sv=.agg [.bool xs[k].pos,.str xs[k].atom.name,.arr (xs[k].atom.args.map Tm.d)]:=rfl
   have h2:ys[k].sv=.agg [.bool ys[k].pos,.str ys[k].atom.name,.arr (ys[k].atom.args.map Tm.d)]:=rfl
   rw [h1,h2] at hc
   by_cases he:xs[k]=ys[k]
   ·rw [An he] at hc
    rw [Hw hs,Hw (show (xs[k]=ys[k]∧xs.drop (k+1)=ys.drop (k+1)) ↔ xs.drop (k+1)=ys.drop (k+1) from ⟨fun h=>h.2,fun h=>⟨he,h⟩⟩)] at hR
    simp (disch:=omega) only [go_sem,Ab,hni,hg,hg2,hc,Hx,EM]
    exact ⟨i+1,⟨k+1,by omega,hlt,hR⟩,by omega,by first | trivial | rfl⟩
   ·rw [Aj he] at hc
    rw [Hw hs,Aj (fun h=>he h.1)] at hR
    rw [←hR]
    simp (disch:=omega) only [go_sem,Ab,hni,hg,hg2,hc,Hx,EM]
  ·rw [zC hge,zC (by omega:ys.length≤k),An rfl] at hR
   rw [←hR]
   simp (disch:=omega) only [go_sem,Ab,hni]
 ·have hz:((xs.length:Int)=(ys.length:Int))=False:=eq_false (by omega)
  have hne:dec (xs=ys)=false:=Aj fun h=>hl (by rw [h])
  rw [hne]
  refine Af AP A3 (of_decide_eq_true rfl) ?_
  simp (disch:=omega) only [A2,go_sem,Ab,hz]
theorem VX (x y:Cl) (hx:x.tame∧x.lits.length≤1048576) (hy:y.tame∧y.lits.length≤1048576):E 156 [x.sv,y.sv] []=some (.bool (dec (x=y)),[]):=by
 have h1:=QcU x.lits y.lits hx.2 hy.2 hx.1.2 hy.1.2
 have e1:x.sv=.agg [.arr (x.lits.map Lt.d)]:=rfl
 have e2:y.sv=.agg [.arr (y.lits.map Lt.d)]:=rfl
 rw [Hw Cl.Qa6,e1,e2]
 refine Af Oo Iq (of_decide_eq_true rfl) ?_
 simp (disch:=omega) only [Ip,go_sem,Ab,h1,A3]
def BY:SC:=(.seq (.reg [⟨some 4,none,.mv (.c (.int .i64 0))⟩]) (.seq (.seq (.reg [⟨some 6,none,.mv (.t 0)⟩,⟨some 7,none,.len false (.t 6)⟩,⟨some 8,none,.mv (.c (.int .i64 0))⟩]) (.block 0 (.loop [1,1,0,0,0,0,0,1,1,0,0,0,0,0,0,0,0,0,0] (.seq (.reg [⟨some 9,none,.bin .lss false (.t 8) (.t 7)⟩]) (.seq (.cond (.t 9) .skip (.exit 0)) (.seq (.block 1 (.seq (.reg [⟨some 10,none,.mv (.t 8)⟩,⟨some 5,none,.mv (.t 10)⟩]) (.seq (.reg [⟨some 11,none,.mv (.t 1)⟩,⟨some 12,none,.mv (.t 0)⟩,⟨some 13,none,.mv (.t 5)⟩,⟨some 14,none,.iaddr 1 (.t 12) (.t 13)⟩,⟨some 15,none,.load true 1 (.t 14)⟩,⟨some 16,none,.callv (.t 11) [(.t 15)]⟩]) (.cond (.t 16) (.seq (.reg [⟨some 17,none,.mv (.t 5)⟩,⟨some 4,none,.mv (.t 17)⟩]) .ret) .skip)))) (.reg [⟨some 18,none,.bin .add false (.t 8) (.c (.int .i64 1))⟩,⟨some 8,none,.mv (.t 18)⟩]))))))) (.seq (.reg [⟨some 4,none,.mv (.c (.int .i64 (-(0+1))))⟩]) .ret)))
theorem Dz:codeOf Tryz.prog 158=some ⟨19,BY,[(.tmp 4)]⟩:=by kernel_rfl
theorem BZ:modes 158=⟨[],.asis,none,false⟩:=by unfold modes; rfl
def BL:SC:=(.seq (.reg [⟨some 4,none,.mv (.c (.bool false))⟩]) (.seq (.reg [⟨some 5,none,.mv (.t 0)⟩,⟨some 6,none,.mv (.t 1)⟩,⟨some 7,none,.call 158 [(.t 5),(.t 6)]⟩,⟨some 8,none,.bin .geq false (.t 7) (.c (.int .i64 0))⟩,⟨some 4,none,.mv (.t 8)⟩]) .ret))
theorem De:codeOf Tryz.prog 89=some ⟨9,BL,[(.tmp 4)]⟩:=by kernel_rfl
theorem BM:modes 89=⟨[],.asis,none,false⟩:=by unfold modes; rfl
def Jq:SC:=(.seq (.reg [⟨some 3,none,.boxv 60 1 (.t 1)⟩,⟨some 4,none,.mv (.c (.bool false))⟩]) (.seq (.reg [⟨some 5,none,.mv (.t 0)⟩,⟨some 6,none,.mkfn 155 [(.t 3)]⟩,⟨some 7,none,.call 89 [(.t 5),(.t 6)]⟩,⟨some 4,none,.mv (.t 7)⟩]) .ret))
theorem Pm:codeOf Tryz.prog 81=some ⟨8,Jq,[(.tmp 4)]⟩:=by kernel_rfl
theorem CE:modes 81=⟨[],.asis,none,false⟩:=by unfold modes; rfl
def Hy:SC:=(.seq (.reg [⟨some 2,none,.boxv 60 1 (.t 0)⟩,⟨some 3,none,.mv (.c (.bool false))⟩]) (.seq (.reg [⟨some 4,none,.load true 1 (.t 2)⟩,⟨some 5,none,.load true 1 (.t 1)⟩,⟨some 6,none,.call 156 [(.t 4),(.t 5)]⟩,⟨some 3,none,.mv (.t 6)⟩]) .ret))
theorem Nh:codeOf Tryz.prog 155=some ⟨7,Hy,[(.tmp 3)]⟩:=by kernel_rfl
theorem EN:modes 155=⟨[],.asis,none,false⟩:=by unfold modes; rfl
theorem Hz:GD Tryz.prog 155=true:=by kernel_rfl
theorem QeY (c:Cl) (hc:c.tame∧c.lits.length≤1048576) (x:Cl) (hx:x.tame∧x.lits.length≤1048576):E 155 [x.sv,.ptr 0 0] [.box 60 [.arr (c.lits.map Lt.d)]]=some (.bool (dec (x=c)),[.box 60 [.arr (c.lits.map Lt.d)]]):=by
 have h1:=VX x c hx hc
 have e1:x.sv=.agg [.arr (x.lits.map Lt.d)]:=rfl
 have e2:c.sv=.agg [.arr (c.lits.map Lt.d)]:=rfl
 rw [e1,e2] at h1
 rw [e1]
 refine Af Nh EN (of_decide_eq_true rfl) ?_
 simp (disch:=omega) only [Hy,go_sem,Ab,h1,Iq]
theorem QcV (c:Cl) (xs:List Cl):dec (c∈xs)=dec (0≤DI (fun s=>dec (s=c)) xs 0):=by
 rw [IY]
 by_cases hm:c∈xs
 ·rw [An hm]
  exact (yP.2 ⟨c,hm,An rfl⟩).symm
 ·rw [Aj hm]
  refine Eq.symm (yL.2 fun h=>?_)
  obtain ⟨x,h1,h2⟩:=yP.1 h
  have e:=Aq.1 h2
  subst e
  exact hm h1
theorem QcW (c:Cl) (hc:c.tame∧c.lits.length≤1048576) (xs:List Cl) (hl:xs.length≤1048576) (hx:∀ x∈xs,x.tame∧x.lits.length≤1048576):E 158 [.arr (xs.map Cl.d),.fn 155 [.ptr 0 0]] [.box 60 [.arr (c.lits.map Lt.d)]]=some (.int .i64 (DI (fun s=>dec (s=c)) xs 0),[.box 60 [.arr (c.lits.map Lt.d)]]):=by
 have hE:=QeY c hc
 refine Af Dz BZ (of_decide_eq_true rfl) ?_
 simp (disch:=omega) only [BY,go_sem,Ab]
 refine go_loop (α:=Int) (fun a=>⟨slots 19 0 [(0,.arr (xs.map Cl.d)),(1,.fn 155 [.ptr 0 0]),(7,.int .i64 xs.length),(8,.int .i64 a)],[.box 60 [.arr (c.lits.map Lt.d)]]⟩) (fun a=>∃ k:Nat,a=k∧k≤(xs).length∧DI (fun s=>dec (s=c)) (xs.drop k) a=DI (fun s=>dec (s=c)) xs 0) (fun a=>(xs).length-(a).toNat) 0 ⟨0,rfl,zH _,by rw [zF]⟩ (by simp (disch:=omega) only [go_sem,Ab]) ?_
 rintro i ⟨k,hi,hk,hR⟩
 have hni:i.toNat=k:=by omega
 have hni1:(i+1).toNat=k+1:=by omega
 rcases zE k (xs).length with hlt | hge
 ·have hg':=get_at Cl.d hlt
  rw [Cl.d_eq] at hg'
  have hc:=hE xs[k] (hx _ (zD hlt))
  rw [zB hlt,DI] at hR
  have e1:xs[k].sv=.agg [.arr (xs[k].lits.map Lt.d)]:=rfl
  rw [e1] at hc
  cases hp:dec (xs[k]=c) with
  | true =>
   rw [hp] at hc hR
   simp (disch:=omega) only [go_sem,Ab,hni,hg',hc,Hz,EN]
   simpa using hR
  | false =>
   rw [hp] at hc hR
   simp (disch:=omega) only [go_sem,Ab,hni,hg',hc,Hz,EN]
   exact ⟨i+1,⟨k+1,by omega,hlt,by simpa using hR⟩,by omega,by first | trivial | rfl⟩
 ·rw [zC hge,DI] at hR
  simp (disch:=omega) only [go_sem,Ab,hni]
  exact hR
theorem XR (c:Cl) (hc:c.tame∧c.lits.length≤1048576) (xs:List Cl) (hl:xs.length≤1048576) (hx:∀ x∈xs,x.tame∧x.lits.length≤1048576):E 89 [.arr (xs.map Cl.d),.fn 155 [.ptr 0 0]] [.box 60 [.arr (c.lits.map Lt.d)]]=some (.bool (dec (c∈xs)),[.box 60 [.arr (c.lits.map Lt.d)]]):=by
 have h:=QcW c hc xs hl hx
 rw [QcV]
 refine Af De BM (of_decide_eq_true rfl) ?_
 simp (disch:=omega) only [BL,go_sem,Ab,h,BZ]
theorem Qc (c:Cl) (hc:c.tame∧c.lits.length≤1048576) (xs:List Cl) (hl:xs.length≤1048576) (hx:∀ x∈xs,x.tame∧x.lits.length≤1048576):E 81 [.arr (xs.map Cl.d),c.sv] []=some (.bool (dec (c∈xs)),[]):=by
 have h:=XR c hc xs hl hx
 have e2:c.sv=.agg [.arr (c.lits.map Lt.d)]:=rfl
 rw [e2]
 refine Af Pm CE (of_decide_eq_true rfl) ?_
 simp (disch:=omega) only [Jq,go_sem,Ab,h,BM]
def Cl.smallC (x:Cl):Prop:=x.tame∧x.lits.length≤1048576
def Cl.os (x:Cl):List OT:=[.sh (x.lits.map Lt.d)]
theorem Cl.os_eq (x:Cl):x.os=[.sh (x.lits.map Lt.d)]:=rfl
theorem Cl.Fp:∀ xs:List Cl,OT.AO (xs.map Cl.os)=true
 | []=>rfl
 | x :: xs=>by rw [zK,OT.AO,Cl.Fp xs]; rfl
theorem Cl.Lp:∀ xs:List Cl,OT.erss (xs.map Cl.os)=xs.map Cl.d
 | []=>rfl
 | x :: xs=>by rw [zK,OT.erss,Cl.Lp xs]; rfl
def IG:SC:=(.seq (.reg [⟨some 2,none,.boxv 60 1 (.t 0)⟩,⟨some 3,none,.boxv 60 1 (.t 1)⟩,⟨some 4,none,.mv (.c (.bool false))⟩]) (.seq (.seq (.reg [⟨some 6,none,.faddr 0 (.t 2)⟩,⟨some 7,none,.load false 1 (.t 6)⟩,⟨some 8,none,.len false (.t 7)⟩,⟨some 9,none,.faddr 0 (.t 3)⟩,⟨some 10,none,.load false 1 (.t 9)⟩,⟨some 11,none,.len false (.t 10)⟩,⟨some 12,none,.bin .neq false (.t 8) (.t 11)⟩]) (.cond (.t 12) (.seq (.reg [⟨some 4,none,.mv (.c (.bool false))⟩]) .ret) .skip)) (.seq (.seq (.reg [⟨some 5,none,.mv (.c (.int .i64 0))⟩]) (.block 0 (.loop [0,0,1,1,0,1,0,0,0,0,0,0,0,0,0,0,0,0,0,0,0,0,0,0,0,0,0,0,0,0,0,0,0,0,0,0,0,0,0,0,0,0,0,0,0,0,0,0,0] (.seq (.seq (.reg [⟨some 13,none,.mv (.t 5)⟩,⟨some 14,none,.faddr 0 (.t 2)⟩,⟨some 15,none,.load false 1 (.t 14)⟩,⟨some 16,none,.len false (.t 15)⟩,⟨some 17,none,.bin .lss false (.t 13) (.t 16)⟩]) (.cond (.t 17) .skip (.exit 0))) (.seq (.block 1 (.seq (.dreg [[],[0],[],[1,0,2],[3,1,0,2],[4,3,1,0,2],[],[6],[],[7,6,8],[9,7,6,8],[10,9,7,6,8],[5,4,3,1,0,2,11,10,9,7,6,8],[12,5,4,3,1,0,2,11,10,9,7,6,8],[13,12,5,4,3,1,0,2,11,10,9,7,6,8],[14,13,12,5,4,3,1,0,2,11,10,9,7,6,8],[13,12,5,4,3,1,0,2,11,10,9,7,6,8],[15,14,13,12,5,4,3,1,0,2,11,10,9,7,6,8,16],[17,15,14,13,12,5,4,3,1,0,2,11,10,9,7,6,8,16],[18,17,15,14,13,12,5,4,3,1,0,2,11,10,9,7,6,8,16],[13,12,5,4,3,1,0,2,11,10,9,7,6,8],[20,13,12,5,4,3,1,0,2,11,10,9,7,6,8],[13,12,5,4,3,1,0,2,11,10,9,7,6,8],[21,20,13,12,5,4,3,1,0,2,11,10,9,7,6,8,22],[23,21,20,13,12,5,4,3,1,0,2,11,10,9,7,6,8,22],[24,23,21,20,13,12,5,4,3,1,0,2,11,10,9,7,6,8,22],[19,18,17,15,14,13,12,5,4,3,1,0,2,11,10,9,7,6,8,16,25,24,23,21,20,22],[26,19,18,17,15,14,13,12,5,4,3,1,0,2,11,10,9,7,6,8,16,25,24,23,21,20,22],[13,12,5,4,3,1,0,2,11,10,9,7,6,8,27,26,19,18,17,15,14,16,25,24,23,21,20,22]] [⟨some 20,none,.faddr 0 (.t 2)⟩,⟨some 21,none,.load false 1 (.t 20)⟩,⟨some 22,none,.mv (.t 5)⟩,⟨some 23,none,.iaddr 3 (.t 21) (.t 22)⟩,⟨some 24,none,.faddr 0 (.t 23)⟩,⟨some 25,none,.load false 1 (.t 24)⟩,⟨some 26,none,.faddr 0 (.t 3)⟩,⟨some 27,none,.load false 1 (.t 26)⟩,⟨some 28,none,.mv (.t 5)⟩,⟨some 29,none,.iaddr 3 (.t 27) (.t 28)⟩,⟨some 30,none,.faddr 0 (.t 29)⟩,⟨some 31,none,.load false 1 (.t 30)⟩,⟨some 32,none,.bin .neq true (.t 25) (.t 31)⟩,⟨some 33,none,.mv (.t 32)⟩,⟨(some 34),(some (33,false)),(.faddr 0 (.t 2))⟩,⟨(some 35),(some (33,false)),(.load false 1 (.t 34))⟩,⟨(some 36),(some (33,false)),(.mv (.t 5))⟩,⟨(some 37),(some (33,false)),(.iaddr 3 (.t 35) (.t 36))⟩,⟨(some 38),(some (33,false)),(.faddr 1 (.t 37))⟩,⟨(some 39),(some (33,false)),(.load true 2 (.t 38))⟩,⟨(some 40),(some (33,false)),(.faddr 0 (.t 3))⟩,⟨(some 41),(some (33,false)),(.load false 1 (.t 40))⟩,⟨(some 42),(some (33,false)),(.mv (.t 5))⟩,⟨(some 43),(some (33,false)),(.iaddr 3 (.t 41) (.t 42))⟩,⟨(some 44),(some (33,false)),(.faddr 1 (.t 43))⟩,⟨(some 45),(some (33,false)),(.load true 2 (.t 44))⟩,⟨(some 46),(some (33,false)),(.call 230 [(.t 39),(.t 45)])⟩,⟨(some 47),(some (33,false)),(.un .not (.t 46))⟩,⟨some 48,none,.pick (.t 33) (.c (.bool true)) (.t 47)⟩]) (.cond (.t 48) (.seq (.reg [⟨some 4,none,.mv (.c (.bool false))⟩]) .ret) .skip))) (.reg [⟨some 18,none,.mv (.t 5)⟩,⟨some 19,none,.bin .add false (.t 18) (.c (.int .i64 1))⟩,⟨some 5,none,.mv (.t 19)⟩])))))) (.seq (.reg [⟨some 4,none,.mv (.c (.bool true))⟩]) .ret))))
theorem M1:codeOf Tryz.prog 167=some ⟨49,IG,[(.tmp 4)]⟩:=by kernel_rfl
theorem DG:modes 167=⟨[],.asis,none,false⟩:=by unfold modes; rfl
theorem XS (x y:Cl) (hx:x.smallC) (hy:y.smallC):E 167 [x.sv,y.sv] []=some (.bool (dec (x=y)),[]):=by
 have e1:x.sv=.agg [.arr (x.lits.map Lt.d)]:=rfl
 have e2:y.sv=.agg [.arr (y.lits.map Lt.d)]:=rfl
 rw [Hw Cl.Qa6,e1,e2]
 obtain ⟨⟨hx1,hnx⟩,hx⟩:=hx
 obtain ⟨⟨hy1,hny⟩,hy⟩:=hy
 obtain ⟨xs,hxs⟩:∃ xs,xs=x.lits:=⟨_,rfl⟩
 obtain ⟨ys,hys⟩:∃ ys,ys=y.lits:=⟨_,rfl⟩
 rw [←hxs] at hx hnx ⊢
 rw [←hys] at hy hny ⊢
 clear e1 e2 hxs hys hx1 hy1
 by_cases hl:xs.length=ys.length
 ·have hz:((xs.length:Int)=(ys.length:Int))=True:=eq_true (by omega)
  refine Af M1 DG (of_decide_eq_true rfl) ?_
  simp (disch:=omega) only [IG,go_sem,Ab,hz]
  refine go_loop (α:=Int) (fun a=>⟨slots 49 0 [(2,.ptr 0 0),(3,.ptr 1 0),(5,.int .i64 a)],[.box 60 [.arr (xs.map Lt.d)],.box 60 [.arr (ys.map Lt.d)]]⟩) (fun a=>∃ k:Nat,a=k∧k≤(xs).length∧dec (xs.drop k=ys.drop k)=dec (xs=ys)) (fun a=>(xs).length-(a).toNat) 0 ⟨0,rfl,zH _,by rw [zF,zF]⟩ (by simp (disch:=omega) only [go_sem,Ab]) ?_
  rintro i ⟨k,hi,hk,hR⟩
  have hni:i.toNat=k:=by omega
  have hni1:(i+1).toNat=k+1:=by omega
  rcases zE k (xs).length with hlt | hge
  ·have hg:=get_at Lt.d hlt
   have hlt2:k<ys.length:=by omega
   have hg2:=get_at Lt.d hlt2
   rw [Lt.d_eq] at hg hg2
   have hs:=XQ hl hlt
   have hc:=Ja xs[k].atom ys[k].atom (hnx _ (zD hlt)) (hny _ (zD hlt2))
   have h1:xs[k].atom.sv=.agg [.str xs[k].atom.name,.arr (xs[k].atom.args.map Tm.d)]:=rfl
   have h2:ys[k].atom.sv=.agg [.str ys[k].atom.name,.arr (ys[k].atom.args.map Tm.d)]:=rfl
   rw [h1,h2] at hc
   have hq:(xs[k]=ys[k]) ↔ (xs[k].pos=ys[k].pos∧xs[k].atom=ys[k].atom):=by
    constructor
    ·intro h; rw [h]; exact ⟨rfl,rfl⟩
    ·rintro ⟨a,b⟩
     cases h3:xs[k]; cases h4:ys[k]
     rw [h3,h4] at a b
     simp only at a b
     rw [a,b]
   cases hp:xs[k].pos == ys[k].pos with
   | false =>
    have hpn:¬ xs[k].pos=ys[k].pos:=by simpa using hp
    rw [Hw hs,Aj (fun h=>hpn (hq.1 h.1).1)] at hR
    rw [←hR]
    simp (disch:=omega) only [go_sem,Ab,hni,hg,hg2,hp,AL]
   | true =>
    have hpy:xs[k].pos=ys[k].pos:=by simpa using hp
    by_cases he:xs[k].atom=ys[k].atom
    ·have he2:=hq.2 ⟨hpy,he⟩
     rw [An he] at hc
     rw [Hw hs,Hw (show (xs[k]=ys[k]∧xs.drop (k+1)=ys.drop (k+1)) ↔ xs.drop (k+1)=ys.drop (k+1) from ⟨fun h=>h.2,fun h=>⟨he2,h⟩⟩)] at hR
     simp (disch:=omega) only [go_sem,Ab,hni,hg,hg2,hp,hc,AL]
     exact ⟨i+1,⟨k+1,by omega,hlt,hR⟩,by omega,by first | trivial | rfl⟩
    ·rw [Aj he] at hc
     rw [Hw hs,Aj (fun h=>he (hq.1 h.1).2)] at hR
     rw [←hR]
     simp (disch:=omega) only [go_sem,Ab,hni,hg,hg2,hp,hc,AL]
  ·rw [zC hge,zC (by omega:ys.length≤k),An rfl] at hR
   rw [←hR]
   simp (disch:=omega) only [go_sem,Ab,hni]
 ·have hz:((xs.length:Int)=(ys.length:Int))=False:=eq_false (by omega)
  have hne:dec (xs=ys)=false:=Aj fun h=>hl (by rw [h])
  rw [hne]
  refine Af M1 DG (of_decide_eq_true rfl) ?_
  simp (disch:=omega) only [IG,go_sem,Ab,hz]
def Ko:SC:=(.seq (.reg [⟨some 2,none,.mv (.c .nil)⟩]) (.seq (.reg [⟨some 7,none,.mkrow 60 1 [.nil] 0 []⟩,⟨some 3,none,.mv (.t 7)⟩]) (.seq (.seq (.reg [⟨some 4,none,.mv (.c (.int .i64 0))⟩]) (.block 0 (.loop [1,0,0,1,1,0,0,0,0,0,0,0,0,0,0,0,0,0,0,0,0,0,0,0,0,0,0,0,0,0,0,0,0,0,0,0,0,0,0,0,0,0] (.seq (.seq (.reg [⟨some 8,none,.mv (.t 4)⟩,⟨some 9,none,.mv (.t 0)⟩,⟨some 10,none,.len false (.t 9)⟩,⟨some 11,none,.bin .lss false (.t 8) (.t 10)⟩]) (.cond (.t 11) .skip (.exit 0))) (.seq (.block 1 (.seq (.reg [⟨some 5,none,.mv (.c (.bool false))⟩]) (.seq (.seq (.reg [⟨some 6,none,.mv (.c (.int .i64 0))⟩]) (.block 2 (.loop [1,0,0,1,1,1,1,0,0,0,0,0,0,0,0,0,0,0,0,0,0,0,0,0,0,0,0,0,0,0,0,0,0,0,0,0,0,0,0,0,0,0] (.seq (.seq (.reg [⟨some 14,none,.mv (.t 6)⟩,⟨some 15,none,.mv (.t 3)⟩,⟨some 16,none,.len false (.t 15)⟩,⟨some 17,none,.bin .lss false (.t 14) (.t 16)⟩]) (.cond (.t 17) .skip (.exit 2))) (.seq (.block 3 (.dreg [[],[0],[1,0],[1,0],[2,1,0,3],[4,2,1,0,3],[1,0],[1,0],[6,1,0,7],[8,6,1,0,7],[5,4,2,1,0,3,9,8,6,7],[1,0,10,5,4,2,3,9,8,6,7],[11,1,0,10,5,4,2,3,9,8,6,7]] [⟨some 20,none,.mv (.t 5)⟩,⟨some 21,none,.mv (.t 20)⟩,⟨(some 22),(some (21,false)),(.mv (.t 3))⟩,⟨(some 23),(some (21,false)),(.mv (.t 6))⟩,⟨(some 24),(some (21,false)),(.iaddr 1 (.t 22) (.t 23))⟩,⟨(some 25),(some (21,false)),(.load true 1 (.t 24))⟩,⟨(some 26),(some (21,false)),(.mv (.t 0))⟩,⟨(some 27),(some (21,false)),(.mv (.t 4))⟩,⟨(some 28),(some (21,false)),(.iaddr 1 (.t 26) (.t 27))⟩,⟨(some 29),(some (21,false)),(.load true 1 (.t 28))⟩,⟨(some 30),(some (21,false)),(.call 167 [(.t 25),(.t 29)])⟩,⟨some 31,none,.pick (.t 21) (.c (.bool true)) (.t 30)⟩,⟨some 5,none,.mv (.t 31)⟩])) (.reg [⟨some 18,none,.mv (.t 6)⟩,⟨some 19,none,.bin .add false (.t 18) (.c (.int .i64 1))⟩,⟨some 6,none,.mv (.t 19)⟩])))))) (.seq (.reg [⟨some 32,none,.mv (.t 5)⟩,⟨some 33,none,.un .not (.t 32)⟩]) (.cond (.t 33) (.reg [⟨some 34,none,.mv (.t 3)⟩,⟨some 35,none,.mv (.t 0)⟩,⟨some 36,none,.mv (.t 4)⟩,⟨some 37,none,.iaddr 1 (.t 35) (.t 36)⟩,⟨some 38,none,.load true 1 (.t 37)⟩,⟨some 39,none,.mkrow 60 1 [.nil] 1 [(0,(.t 38))]⟩,⟨some 40,none,.append 60 1 24 [.nil] (.t 34) (.t 39)⟩,⟨some 3,none,.mv (.t 40)⟩]) .skip))))) (.reg [⟨some 12,none,.mv (.t 4)⟩,⟨some 13,none,.bin .add false (.t 12) (.c (.int .i64 1))⟩,⟨some 4,none,.mv (.t 13)⟩])))))) (.seq (.reg [⟨some 41,none,.mv (.t 3)⟩,⟨some 2,none,.mv (.t 41)⟩]) .ret))))
theorem Qz:codeOf Tryz.prog 102=some ⟨42,Ko,[(.tmp 2)]⟩:=by kernel_rfl
theorem Kp:modes 102=⟨[],.frz,none,false⟩:=by unfold modes; rfl
theorem XT (c:Cl) {acc:List Cl} {k:Nat} (h:k<acc.length):dec (c∈acc.take (k+1))=(dec (c∈acc.take k) || dec (acc[k]=c)):=by
 rw [yJ h]
 by_cases h1:c∈acc.take k
 ·rw [An h1,An (yA.2 (.inl h1))]; rfl
 ·by_cases h2:acc[k]=c
  ·rw [An h2,An (yA.2 (.inr (by simp [h2]))),y5]
  ·rw [Aj h1,Aj h2,Aj (fun h=>by rcases yA.1 h with h | h; exact h1 h; exact h2 (yW.1 h).symm)]; rfl
theorem Zx (cs:List Cl) (hl:cs.length≤1048576) (hx:∀ x∈cs,x.smallC):E 102 [.arr (cs.map Cl.d)] []=some (.arr ((G3 [] cs).map Cl.d),[]):=by
 refine Af Qz Kp (of_decide_eq_true rfl) ?_
 simp (disch:=omega) only [Ko,go_sem,Ab]
 refine go_loop (α:=Int × (List Cl)) (fun a=>⟨slots 42 0 [(0,.arr (cs.map Cl.d)),(3,.ref 0),(4,.int .i64 (a.1))],[.row 60 1 ((a.2).map Cl.os)]⟩) (fun a=>∃ k:Nat,a.1=k∧k≤(cs).length∧G3 (a.2) (cs.drop k)=G3 [] cs∧(a.2).length≤k∧∀ x∈(a.2),x.smallC) (fun a=>(cs).length-(a.1).toNat) (0,[]) ⟨0,rfl,zH _,by rw [zF],zI _,fun x hx=>by simp at hx⟩ (by simp (disch:=omega) only [go_sem,Ab]) ?_
 rintro ⟨i,acc⟩ ⟨k,hi,hk,hR⟩
 dsimp only at hi hR
 have hni:i.toNat=k:=by omega
 have hni1:(i+1).toNat=k+1:=by omega
 rcases zE k (cs).length with hlt | hge
 ·obtain ⟨hR1,hR2,hR3⟩:=hR
  rw [zB hlt] at hR1
  have hg0:=get_at Cl.d hlt
  rw [Cl.d_eq] at hg0
  have hcm:=hx _ (zD hlt)
  obtain ⟨c,hc⟩:∃ c,c=cs[k]:=⟨_,rfl⟩
  rw [←hc] at hR1 hg0 hcm
  have hstep:G3 (Kz acc c) (cs.drop (k+1))=G3 [] cs:=hR1
  have hio:=hi
  have hni0:=hni
  have hni10:=hni1
  generalize i=io at *
  simp (disch:=omega) only [go_sem,Ab,hni0]
  refine go_loop (α:=Int × (Bool)) (fun a=>⟨slots 42 0 [(0,.arr (cs.map Cl.d)),(3,.ref 0),(4,.int .i64 io),(5,.bool (a.2)),(6,.int .i64 (a.1))],[.row 60 1 (acc.map Cl.os)]⟩) (fun a=>∃ k:Nat,a.1=k∧k≤(acc).length∧(a.2)=dec (c∈acc.take k)) (fun a=>(acc).length-(a.1).toNat) (0,false) ⟨0,rfl,zH _,by rw [yB,Aj (by simp)]⟩ (by simp (disch:=omega) only [go_sem,Ab]) ?_
  rintro ⟨i,fd⟩ ⟨k,hi,hk,hR⟩
  dsimp only at hi hR
  have hni:i.toNat=k:=by omega
  have hni1:(i+1).toNat=k+1:=by omega
  rcases zE k (acc).length with hlt | hge
  ·have hg:=get_at Cl.os hlt
   rw [Cl.os_eq] at hg
   have hcs:=XS acc[k] c (hR3 _ (zD hlt)) hcm
   have e1:acc[k].sv=.agg [.arr (acc[k].lits.map Lt.d)]:=rfl
   have e2:c.sv=.agg [.arr (c.lits.map Lt.d)]:=rfl
   rw [e1,e2] at hcs
   have ht:=XT c hlt
   rw [←hR] at ht
   cases fd with
   | true =>
    simp (disch:=omega) only [go_sem,Ab,hni0,hni,hg,hg0,hcs,DG]
    exact ⟨(i+1,true),⟨k+1,by dsimp only; omega,hlt,by rw [ht]; rfl⟩,by dsimp only; omega,by first | trivial | rfl⟩
   | false =>
    obtain ⟨b,hb⟩:∃ b,b=dec (acc[k]=c):=⟨_,rfl⟩
    rw [←hb] at hcs ht
    simp (disch:=omega) only [go_sem,Ab,hni0,hni,hg,hg0,hcs,DG]
    exact ⟨(i+1,b),⟨k+1,by dsimp only; omega,hlt,by rw [ht]; rfl⟩,by dsimp only; omega,by first | trivial | rfl⟩
  ·rw [yK hge] at hR
   cases fd with
   | true =>
    have ha:Kz acc c=acc:=by unfold Kz; rw [←hR]; rfl
    rw [ha] at hstep
    simp (disch:=omega) only [go_sem,Ab,hni0,hni,hg0]
    exact ⟨(io+1,acc),⟨_,by dsimp only; omega,by assumption,hstep,by dsimp only; omega,hR3⟩,by dsimp only; omega,by first | trivial | rfl⟩
   | false =>
    have ha:Kz acc c=acc++[c]:=by unfold Kz; rw [←hR]; rfl
    rw [ha] at hstep
    have hap:acc.map Cl.os++[[OT.sh (c.lits.map Lt.d)]]=(acc++[c]).map Cl.os:=by rw [z6]; rfl
    simp (disch:=omega) only [go_sem,Ab,hni0,hni,hg0,hap]
    refine ⟨(io+1,acc++[c]),⟨_,by dsimp only; omega,by assumption,hstep,by simp only [zS,zG,zQ]; omega,fun x hx=>?_⟩,by dsimp only; omega,by first | trivial | rfl⟩
    rcases yA.1 hx with h | h
    ·exact hR3 x h
    ·rw [yW.1 h]; exact hcm
 ·obtain ⟨hR1,hR2,hR3⟩:=hR
  rw [zC hge] at hR1
  have hR1:acc=G3 [] cs:=hR1
  have her:=Cl.Lp acc
  have hfu:=Cl.Fp acc
  rw [←hR1]
  simp (disch:=omega) only [go_sem,Ab,hni,her,hfu]
theorem Cl.Qa7:∀ cs:List Cl,(∀ c∈cs,c.ok=true)→Cl.sumB cs≤2408*cs.length
 | [],_=>by simp [Cl.sumB]
 | c :: cs,h=>by
  have h1:=Cl.Qeq (h c (by simp))
  have h2:=Cl.Qa7 cs fun d hd=>h d (by simp [hd])
  rw [Cl.sumB,zG]; omega
theorem H0 {c:Cl} (h:c.ok=true):c.smallC:=⟨QcT h,by have:=Cl.Dx h; omega⟩
theorem Zy {cs:List Cl} (h:∀ x∈cs,x.ok=true):∀ x∈G3 [] cs,x.ok=true:=fun x hx=>by
 rcases XP.1 hx with h1 | h1
 ·simp at h1
 ·exact h x h1
theorem Qer {cs:List Cl} {n:Nat} (h:cs.length≤n):(G3 [] cs).length≤n:=by
 have:=XO cs []
 simp only [zQ] at this
 omega
theorem S9 {l:List Cl} {c:Cl} (h:dec (c∈l)=true):Kz l c=l:=by unfold Kz; rw [h]; rfl
theorem VY {l:List Cl} {c:Cl} (h:dec (c∈l)=false):Kz l c=l++[c]:=by unfold Kz; rw [h]; rfl
mutual
def Fm.nodes:Fm→Nat
 | .mk _ _ _ args=>1+Fm.nodeS args
def Fm.nodeS:List Fm→Nat
 | []=>0
 | x :: xs=>Fm.nodes x+Fm.nodeS xs
end
theorem Fm.nodes_eq (x:Fm):x.nodes=1+Fm.nodeS x.parts:=by
 obtain ⟨op,atom,var,parts⟩:=x
 rw [Fm.nodes]; rfl
theorem Fm.nodes_pos (x:Fm):1≤x.nodes:=by rw [Fm.nodes_eq]; omega
theorem Fm.nodes_le:∀ (xs:List Fm) (k:Nat) (h:k<xs.length),xs[k].nodes≤Fm.nodeS xs
 | [],k,h=>absurd h (by simp)
 | x :: xs,0,_=>by rw [Fm.nodeS]; simp
 | x :: xs,k+1,h=>by
  have:=Fm.nodes_le xs k (by simpa using h)
  rw [Fm.nodeS]; simp only [zW]; omega
theorem Fm.nodes_mem {xs:List Fm} {y:Fm} (h:y∈xs):y.nodes≤Fm.nodeS xs:=by
 obtain ⟨k,hk,rfl⟩:=yH h
 exact Fm.nodes_le xs k hk
mutual
def Fm.cap:Fm→Int
 | .mk _ _ _ xs=>Fm.capL xs 1
def Fm.capL:List Fm→Int→Int
 | [],n=>n
 | x :: xs,n=>if 40 < n then n else Fm.capL xs (n+Fm.cap x)
end
theorem Fm.cap_eq (x:Fm):x.cap=Fm.capL x.parts 1:=by
 obtain ⟨op,atom,var,xs⟩:=x
 rw [Fm.cap]; rfl
theorem Fm.capL_spec:∀ (xs:List Fm) (n:Int),(∀ x∈xs,1≤x.cap∧x.cap≤x.nodes∧(x.cap≤40→x.cap=x.nodes))→1≤n→n≤Fm.capL xs n∧Fm.capL xs n≤n+Fm.nodeS xs∧(Fm.capL xs n≤40→Fm.capL xs n=n+Fm.nodeS xs)
 | [],n,_,h=>by simp [Fm.capL,Fm.nodeS]
 | x :: xs,n,hx,h=>by
  rw [Fm.capL,Fm.nodeS]
  have h1:=hx x (by simp)
  split
  ·omega
  ·have:=Fm.capL_spec xs (n+x.cap) (fun y hy=>hx y (by simp [hy])) (by omega)
   omega
theorem Fm.cap_spec (x:Fm):1≤x.cap∧x.cap≤x.nodes∧(x.cap≤40→x.cap=x.nodes):=by
 rw [Fm.cap_eq,Fm.nodes_eq]
 have:=Fm.capL_spec x.parts 1 (fun y hy=>Fm.cap_spec y) (by omega)
 omega
termination_by SizeOf.sizeOf x
decreasing_by exact Fm.lt_of_mem hy
mutual
def Fm.many:Fm→Int→Int
 | .mk _ _ _ xs,m=>Fm.manyL xs m 1
def Fm.manyL:List Fm→Int→Int→Int
 | [],_,n=>n
 | x :: xs,m,n=>if n≤m then Fm.manyL xs m (n+Fm.many x (m-n)) else n
end
theorem Fm.many_eq (x:Fm) (m:Int):x.many m=Fm.manyL x.parts m 1:=by
 obtain ⟨op,atom,var,xs⟩:=x
 rw [Fm.many]; rfl
theorem Fm.manyL_spec (m:Int):∀ (xs:List Fm) (n:Int),(∀ x∈xs,∀ m,0≤m→1≤x.many m∧x.many m≤x.nodes∧(x.many m≤m→x.many m=x.nodes))→1≤n→n≤Fm.manyL xs m n∧Fm.manyL xs m n≤n+Fm.nodeS xs∧(Fm.manyL xs m n≤m→Fm.manyL xs m n=n+Fm.nodeS xs)
 | [],n,_,h=>by simp [Fm.manyL,Fm.nodeS]
 | x :: xs,n,hx,h=>by
  rw [Fm.manyL,Fm.nodeS]
  split
  ·have h1:=hx x (by simp) (m-n) (by omega)
   have:=Fm.manyL_spec m xs (n+x.many (m-n)) (fun y hy=>hx y (by simp [hy])) (by omega)
   omega
  ·omega
theorem Fm.many_spec (x:Fm) (m:Int):1≤x.many m∧x.many m≤x.nodes∧(x.many m≤m→x.many m=x.nodes):=by
 rw [Fm.many_eq,Fm.nodes_eq]
 have:=Fm.manyL_spec m x.parts 1 (fun y hy m _=>Fm.many_spec y m) (by omega)
 omega
termination_by SizeOf.sizeOf x
decreasing_by exact Fm.lt_of_mem hy
noncomputable def Tm.isZ (x:Tm):Bool:=dec (x.name=⟨#[]⟩)&&x.args.length == 0
noncomputable def Fm.form (x:Fm):Bool :=
 if x.op=1∨x.op=2 then x.parts.length == 0&&x.atom.isZ&&dec (x.var=⟨#[]⟩)
 else if x.op=3 then x.parts.length == 0&&x.atom.atom&&dec (x.var=⟨#[]⟩)
 else if x.op=4 then x.parts.length == 1&&x.atom.isZ&&dec (x.var=⟨#[]⟩)
 else if x.op=5∨x.op=6∨x.op=7 then x.parts.length == 2&&x.atom.isZ&&dec (x.var=⟨#[]⟩)
 else if x.op=8∨x.op=9 then x.parts.length == 1&&x.atom.isZ&&AY x.var
 else false
theorem XU (n:Int):n=1∨n=2∨n=3∨n=4∨n=5∨n=6∨n=7∨n=8∨n=9∨(n≠1∧n≠2∧n≠3∧n≠4∧n≠5∧n≠6∧n≠7∧n≠8∧n≠9):=by omega
mutual
noncomputable def Fm.forms:Fm→Bool
 | .mk op atom var parts=>Fm.form (.mk op atom var parts)&&Fm.M2 parts
noncomputable def Fm.M2:List Fm→Bool
 | []=>true
 | x :: xs=>Fm.forms x&&Fm.M2 xs
end
theorem Fm.Fq (x:Fm):x.forms=(x.form&&Fm.M2 x.parts):=by
 obtain ⟨op,atom,var,parts⟩:=x
 rw [Fm.forms]; rfl
theorem Fm.Pn:∀ xs:List Fm,Fm.M2 xs=xs.all Fm.forms
 | []=>rfl
 | x :: xs=>by rw [Fm.M2,Fm.Pn xs]; rfl
theorem Fm.any_not (xs:List Fm):(!xs.any fun y=>!y.forms)=Fm.M2 xs:=by
 rw [Fm.Pn]
 induction xs with
 | nil=>rfl
 | cons x xs ih=>simp only [xF,xD,Bool.not_or,Bool.not_not,ih]
noncomputable def Fm.valid (x:Fm):Bool:=decide (x.nodes≤40)&&x.forms
theorem Fm.length_le:∀ xs:List Fm,xs.length≤Fm.nodeS xs
 | []=>by simp
 | x :: xs=>by
  have h:=Fm.length_le xs
  have h1:=Fm.nodes_pos x
  rw [Fm.nodeS,zG]; omega
mutual
def Fm.tame:Fm→Prop
 | .mk _ atom _ parts=>atom.nodes≤1099511627776∧Fm.Qd parts
def Fm.Qd:List Fm→Prop
 | []=>True
 | x :: xs=>Fm.tame x∧Fm.Qd xs
end
theorem Fm.VZ (x:Fm):x.tame=(x.atom.nodes≤1099511627776∧Fm.Qd x.parts):=by
 obtain ⟨op,atom,var,parts⟩:=x
 rw [Fm.tame]; rfl
theorem Fm.Uw:∀ {xs:List Fm},Fm.Qd xs→∀ y∈xs,y.tame
 | [],_,y,hy=>by cases hy
 | x :: xs,h,y,hy=>by
  rw [Fm.Qd] at h
  rcases zO.1 hy with rfl | hy
  ·exact h.1
  ·exact Fm.Uw h.2 y hy
theorem Fm.tame_at {x:Fm} (h:x.tame):x.atom.nodes≤1099511627776:=by rw [Fm.VZ] at h; exact h.1
theorem Fm.Ux {x y:Fm} (h:x.tame) (hy:y∈x.parts):y.tame:=by rw [Fm.VZ] at h; exact Fm.Uw h.2 y hy
noncomputable def qB (op:Int):Bool:=dec (op=8) || dec (op=9)
theorem Tm.Wa {x:Tm} (h:x.isZ=true):x=.mk ⟨#[]⟩ []:=by
 obtain ⟨n,a⟩:=x
 unfold Tm.isZ at h
 rw [zA] at h
 have h1:n=⟨#[]⟩:=Aq.1 h.1
 have h3:(a.length == 0)=true:=h.2
 have h2:a=[]:=zJ (by simpa using h3)
 rw [h1,h2]
theorem Fm.En {x:Fm} (h:x.form=true) (ho:x.op=3):x.parts=[]∧x.atom.atom=true∧x.var=⟨#[]⟩:=by
 unfold Fm.form at h
 simp only [ho] at h
 simp at h
 exact ⟨h.1.1,h.1.2,Aq.1 h.2⟩
theorem Fm.JO {x:Fm} (h:x.form=true) (ho:¬ x.op=3):x.atom=.mk ⟨#[]⟩ []:=by
 unfold Fm.form at h
 split at h
 ·rw [zA,zA] at h; exact Tm.Wa h.1.2
 ·try rw [if_neg ho] at h
  split at h
  ·rw [zA,zA] at h; exact Tm.Wa h.1.2
  ·split at h
   ·rw [zA,zA] at h; exact Tm.Wa h.1.2
   ·split at h
    ·rw [zA,zA] at h; exact Tm.Wa h.1.2
    ·cases h
theorem Fm.Zz {x:Fm} (h:x.form=true) (ho:qB x.op=true):AY x.var=true∧∃ p,x.parts=[p]:=by
 unfold qB at ho
 rw [z8,Aq,Aq] at ho
 unfold Fm.form at h
 rw [if_neg (by omega),if_neg (by omega),if_neg (by omega),if_neg (by omega),if_pos (by omega),zA,zA] at h
 refine ⟨h.2,?_⟩
 have hl:x.parts.length=1:=by simpa using h.1.1
 match hq:x.parts,hl with
 | [p],_=>exact ⟨p,rfl⟩
theorem Fm.BP {x y:Fm} (h:x.forms=true) (hy:y∈x.parts):y.forms=true:=by
 rw [Fm.Fq,zA,Fm.Pn,zM] at h
 exact h.2 y hy
theorem Fm.CN {x:Fm} (h:x.forms=true):x.form=true:=by
 rw [Fm.Fq,zA] at h
 exact h.1
theorem Fm.Wb {x:Fm} (h:x.form=true):x.atom.nodes≤30:=by
 by_cases ho:x.op=3
 ·exact Tm.Cm (Fm.En h ho).2.1
 ·rw [Fm.JO h ho,Tm.nodes_eq]
  simp [Tm.args,Tm.nodeS]
theorem Fm.Lr {x:Fm} (h:x.form=true) (ho:x.op=4):∃ p,x=.mk 4 Tm.zero ⟨#[]⟩ [p]:=by
 have ha:=Fm.JO h (by omega)
 unfold Fm.form at h
 rw [if_neg (by omega),if_neg (by omega),if_pos ho,zA,zA] at h
 have hl:x.parts.length=1:=by simpa using h.1.1
 have hv:x.var=⟨#[]⟩:=Aq.1 h.2
 obtain ⟨op,atom,var,parts⟩:=x
 change atom=_ at ha
 change parts.length=_ at hl
 change var=_ at hv
 change op=_ at ho
 subst ha hv ho
 match parts,hl with
 | [p],_=>exact ⟨p,rfl⟩
theorem Fm.SA {x:Fm} (h:x.form=true) (ho:x.op=5∨x.op=6∨x.op=7):∃ p q,x=.mk x.op Tm.zero ⟨#[]⟩ [p,q]:=by
 have ha:=Fm.JO h (by omega)
 unfold Fm.form at h
 rw [if_neg (by omega),if_neg (by omega),if_neg (by omega),if_pos ho,zA,zA] at h
 have hl:x.parts.length=2:=by simpa using h.1.1
 have hv:x.var=⟨#[]⟩:=Aq.1 h.2
 obtain ⟨op,atom,var,parts⟩:=x
 change atom=_ at ha
 change parts.length=_ at hl
 change var=_ at hv
 subst ha hv
 match parts,hl with
 | [p,q],_=>exact ⟨p,q,rfl⟩
theorem Fm.Z0 {x:Fm} (h:x.form=true) (ho:x.op=8∨x.op=9):∃ p,x=.mk x.op Tm.zero x.var [p]:=by
 have ha:=Fm.JO h (by omega)
 obtain ⟨_,p,hp⟩:=Fm.Zz h (by unfold qB; rw [z8,Aq,Aq]; exact ho)
 obtain ⟨op,atom,var,parts⟩:=x
 change atom=_ at ha
 change parts=_ at hp
 subst ha hp
 exact ⟨p,rfl⟩
theorem Qa8:∀ x y:List UInt8,Op.bytesLess x y=true ↔ x<y
 | [],[]=>by simp [Op.bytesLess]
 | [],b :: y=>by simp [Op.bytesLess]
 | a :: x,[]=>by simp [Op.bytesLess]
 | a :: x,b :: y=>by
  have h:=Qa8 x y
  rw [List.cons_lt_cons_iff,← h]
  simp only [Op.bytesLess,z8,decide_eq_true_eq,zA,beq_iff_eq]
theorem QcX (a b:ByteArray):strLt a b=true ↔ a.toList<b.toList:=Qa8 _ _
theorem Uy (n:ByteArray):∀ xs:List ByteArray,xs.Pairwise (fun x y=>strLt x y=true)→(CW xs n).Pairwise fun x y=>strLt x y=true
 | [],_=>by simp [CW]
 | x :: xs,h=>by
  rw [CW]
  rw [zR] at h
  cases hq:strLt x n with
  | true =>
   rw [cond_true,zR]
   refine ⟨fun y hy=>?_,Uy n xs h.2⟩
   rcases S5.1 hy with hy | rfl
   ·exact h.1 y hy
   ·exact hq
  | false =>
   rw [cond_false]
   by_cases he:x=n
   ·rw [An he,cond_true,zR]; exact h
   ·rw [Aj he,cond_false,zR,zR]
    have hn:strLt n x=true:=by
     cases hh:strLt n x with
     | true=>rfl
     | false=>exact absurd (PW hq hh) he
    refine ⟨fun y hy=>?_,h⟩
    rcases zO.1 hy with rfl | hy
    ·exact hn
    ·exact X3 hn (h.1 y hy)
theorem Uz:∀ (ns xs:List ByteArray),xs.Pairwise (fun x y=>strLt x y=true)→(C4 xs ns).Pairwise fun x y=>strLt x y=true
 | [],xs,h=>h
 | n :: ns,xs,h=>Uz ns (CW xs n) (Uy n xs h)
theorem Z1 {xs:List ByteArray} (h:xs.Pairwise fun x y=>strLt x y=true):xs.Nodup :=
 h.imp fun {a b} hab e=>by rw [e,MZ] at hab; cases hab
theorem Qb2 (l:List ByteArray):(JK l).Pairwise fun x y=>strLt y x=false:=by
 unfold JK srt
 rw [List.pairwise_map]
 have h:=List.pairwise_mergeSort (le:=fun x y:List UInt8=>decide (x≤y)) (fun a b c h k=>by
  rw [decide_eq_true_eq] at h k ⊢; exact List.le_trans h k) (fun a b=>by
  rw [z8,decide_eq_true_eq,decide_eq_true_eq]; exact List.le_total a b) (l.map (·.toList))
 refine h.imp fun {a b} hab=>?_
 rw [decide_eq_true_eq] at hab
 rw [yL]
 intro hh
 have:=(QcX _ _).1 hh
 rw [ByteArray.toList_eq,ByteArray.toList_eq] at this
 exact absurd this (List.not_lt.2 hab)
theorem Po (ns:List ByteArray):JK (BA [] ns)=C4 [] ns:=by
 have h1:=Uz ns [] xI
 have n1:=Z1 h1
 have n2:(BA [] ns).Nodup:=JJ List.nodup_nil
 have hp:(JK (BA [] ns)).Perm (C4 [] ns):=(Pb _).trans ((List.perm_ext_iff_of_nodup n2 n1).2 fun a=>by rw [Si,XJ])
 refine List.Perm.eq_of_pairwise (le:=fun x y=>strLt y x=false) (fun a b _ _ h k=>PW k h) (Qb2 _) (h1.imp fun h=>X2 h) hp
mutual
noncomputable def Fm.fv:Fm→List ByteArray→List ByteArray
 | .mk op atom var parts,b=>bif dec (op=3) then (C4 [] atom.vs).filter (fun n=>!dec (n∈b)) else Fm.fvL parts (bif qB op then b++[var] else b)
noncomputable def Fm.fvL:List Fm→List ByteArray→List ByteArray
 | [],_=>[]
 | x :: xs,b=>Fm.fv x b++Fm.fvL xs b
end
theorem Fm.QcY (x:Fm) (b:List ByteArray):x.fv b=bif dec (x.op=3) then (C4 [] x.atom.vs).filter (fun n=>!dec (n∈b)) else Fm.fvL x.parts (bif qB x.op then b++[x.var] else b):=by
 obtain ⟨op,atom,var,parts⟩:=x
 rw [Fm.fv]; rfl
mutual
def Fm.vn:Fm→Nat
 | .mk _ atom _ parts=>atom.nodes+Fm.vnS parts
def Fm.vnS:List Fm→Nat
 | []=>0
 | x :: xs=>Fm.vn x+Fm.vnS xs
end
theorem Fm.U0 (x:Fm):x.vn=x.atom.nodes+Fm.vnS x.parts:=by
 obtain ⟨op,atom,var,parts⟩:=x
 rw [Fm.vn]; rfl
theorem Fm.Qa9 (b:List ByteArray):∀ xs:List Fm,(∀ x∈xs,(x.fv b).length≤x.vn)→(Fm.fvL xs b).length≤Fm.vnS xs
 | [],_=>by simp [Fm.fvL]
 | x :: xs,h=>by
  have h1:=h x (by simp)
  have h2:=Fm.Qa9 b xs fun y hy=>h y (by simp [hy])
  rw [Fm.fvL,Fm.vnS,zS]; omega
theorem Fm.JP (x:Fm):∀ b:List ByteArray,(x.fv b).length≤x.vn:=by
 intro b
 rw [Fm.QcY,Fm.U0]
 cases dec (x.op=3) with
 | true =>
  simp only [cond_true]
  have h1:=List.length_filter_le (fun n=>!dec (n∈b)) (C4 [] x.atom.vs)
  have h2:=E3 x.atom.vs []
  have h3:=Tm.vs_len x.atom
  simp only [zQ] at h2
  omega
 | false =>
  simp only [cond_false]
  have h:=Fm.Qa9 (bif qB x.op then b++[x.var] else b) x.parts fun y hy=>Fm.JP y _
  omega
termination_by SizeOf.sizeOf x
decreasing_by exact Fm.lt_of_mem hy
theorem Fm.QcZ:∀ xs:List Fm,(∀ x∈xs,x.vn≤30*x.nodes)→Fm.vnS xs≤30*Fm.nodeS xs
 | [],_=>by simp [Fm.vnS]
 | x :: xs,h=>by
  have h1:=h x (by simp)
  have h2:=Fm.QcZ xs fun y hy=>h y (by simp [hy])
  rw [Fm.vnS,Fm.nodeS]; omega
theorem Fm.Qe3 (x:Fm) (h:x.forms=true):x.vn≤30*x.nodes:=by
 have h1:=Fm.QcZ x.parts fun y hy=>Fm.Qe3 y (Fm.BP h hy)
 have h2:=Fm.Wb (Fm.CN h)
 rw [Fm.U0,Fm.nodes_eq]; omega
termination_by SizeOf.sizeOf x
decreasing_by exact Fm.lt_of_mem hy
noncomputable def Fm.free (x:Fm):List ByteArray:=C4 [] (x.fv [])
def XV:List Fm→Fm
 | []=>Fm.zero
 | x :: _=>x
end Go.Proofs.YtepbennkcbmgoaaGreatDoor
