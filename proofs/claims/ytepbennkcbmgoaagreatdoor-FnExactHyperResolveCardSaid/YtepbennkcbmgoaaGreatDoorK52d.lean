/-
  Texts of this claim, one behind the other, each built on those ahead of it. No condition.
-/
import Derived.Test.YtepbennkcbmgoaaGreatDoorK52c
set_option maxHeartbeats 16000000
open Bool renaming and_eq_true → zA, and_false → zM, true_and → yH, and_true → yK, false_and → yM, false_or → y5
open Nat renaming lt_or_ge → zB, zero_le → zF, eq_zero_or_pos → zH, le_refl → zO
open List renaming length_map → zC, getElem_mem → zD, eq_nil_of_length_eq_zero → zE, drop_eq_getElem_cons → zG, drop_eq_nil_of_le → zI, drop_zero → zJ, map_cons → zK, map_nil → zL, all_eq_true → zN, length_cons → zP, length_take → zQ, take_length → zR, getElem?_eq_getElem → zT, nil_append → zU, length_append → zV, getElem_of_mem → zX, length_nil → zY, pairwise_cons → zZ, take_zero → z7, foldl_cons → z8, cons_append → yB, getElem_map → yC, map_append → yF, take_succ_eq_append_getElem → yG, take_of_length_le → yI, mem_map → yJ, mem_cons → yL, map_map → yN, pairwise_iff_getElem → yO, getElem_cons_succ → yR, getElem_cons_zero → yS, getElem?_eq_none → yT, mem_append → yV, mem_singleton → yX, getElem?_append_right → yZ, flatten_cons → y2, append_assoc → y3, foldl_append → y4, append_nil → y7, foldl_nil → y9
open Option.some renaming injEq → zS, inj → yP
open Int renaming tdiv_eq_ediv_of_nonneg → zW, toNat_zero → yD, toNat_natCast → yQ, tmod_eq_emod_of_nonneg → yY
open Prod.mk renaming injEq → yA
open ByteArray renaming data_append → yU, size_append → y8
open Array renaming toList_append → yW
open Option renaming getD_none → y6
open List.Pairwise renaming nil → xA
set_option maxRecDepth 100000
set_option linter.unusedSimpArgs false
set_option linter.unusedVariables false
set_option linter.unusedSectionVars false
namespace Go.Proofs.YtepbennkcbmgoaaGreatDoor
open Go.RowKit
namespace Wd
def modes:FuncId→FM:=fun _=>⟨[],.asis,none,false⟩
theorem mode (f:FuncId):modes f=⟨[],.asis,none,false⟩:=rfl
theorem Nv:@NU Ro Tryz.prog modes:=fun _ _ _ _ _ _ hg _=>by cases hg
noncomputable def E:FEnv:=ev Tryz.prog modes
noncomputable def calls:CallF:=Dv modes E
theorem E_told {f:FuncId} {xs:List SV} {ob:List Ob} {r:SV} {ob':List Ob} (h:E f xs ob=some (r,ob')):FunD Tryz.prog f xs ob r ob':=@QaX Ro _ _ Qdb Nv f xs ob r ob' h
noncomputable def run (n0:Nat):SC→St→Option (X × St):=fr Tryz.prog calls (JR n0)
def go (n0:Nat) (sc:SC) (st:St) (K:X→St→Prop):Prop:=∃ x st',run n0 sc st=some (x,st')∧K x st'
def SH (n0:Nat) (b:SC) (K:X→St→Prop):X→St→Prop
 | .normal,st=>go n0 b st K
 | .exit i,st=>K (.exit i) st
 | .ret,st=>K .ret st
def blk (id:Nat) (K:X→St→Prop):X→St→Prop
 | .normal,st=>K .normal st
 | .exit i,st=>if i=id then K .normal st else K (.exit i) st
 | .ret,st=>K .ret st
def SI (r:Option St) (k:X→St→Prop):Prop :=
 match r with
 | some st=>k .normal st
 | none=>False
def SJ (anc:List (List Nat)) (r:Option (List Ent × St)) (k:X→St→Prop):Prop :=
 match r with
 | some (es,st)=>obB anc [] (GP es) 0=true∧k .normal st
 | none=>False
def It (v:SV) (a b:Unit→Prop):Prop :=
 match v with
 | .bool true=>a ()
 | .bool false=>b ()
 | _=>False
noncomputable def Nw (ops:List SOper) (st:St):Option St:=QU Tryz.prog calls ops st
noncomputable def Nx (ops:List SOper) (acc:List Ent) (st:St):Option (List Ent × St):=IR Tryz.prog calls ops acc st
section
variable {n0:Nat} {st:St} {K:X→St→Prop}
theorem go_skip:go n0 .skip st K=K .normal st:=by
 refine propext ⟨fun ⟨x,st',h,k⟩=>?_,fun k=>⟨_,_,rfl,k⟩⟩
 obtain ⟨rfl,rfl⟩:X.normal=x∧st=st':=by simpa [run,fr] using h
 exact k
theorem Rs {i:Nat}:go n0 (.exit i) st K=K (.exit i) st:=by
 refine propext ⟨fun ⟨x,st',h,k⟩=>?_,fun k=>⟨_,_,rfl,k⟩⟩
 obtain ⟨rfl,rfl⟩:X.exit i=x∧st=st':=by simpa [run,fr] using h
 exact k
theorem go_ret:go n0 .ret st K=K .ret st:=by
 refine propext ⟨fun ⟨x,st',h,k⟩=>?_,fun k=>⟨_,_,rfl,k⟩⟩
 obtain ⟨rfl,rfl⟩:X.ret=x∧st=st':=by simpa [run,fr] using h
 exact k
theorem Wz {ops:List SOper}:go n0 (.reg ops) st K=SI (Nw ops st) K:=by
 unfold SI Nw
 refine propext ⟨fun ⟨x,st',h,k⟩=>?_,fun k=>?_⟩
 ·simp only [run,fr] at h
  split at h
  ·rename_i s hs
   simp only [zS,yA] at h
   obtain ⟨rfl,rfl⟩:=h
   first | exact k | (simp only [hs]; exact k)
  ·cases h
 ·split at k
  ·rename_i s hs
   exact ⟨.normal,s,by simp only [run,fr,hs],k⟩
  ·exact k.elim
theorem Rt {anc:List (List Nat)} {ops:List SOper}:go n0 (.dreg anc ops) st K=SJ anc (Nx ops [] st) K:=by
 unfold SJ Nx
 refine propext ⟨fun ⟨x,st',h,k⟩=>?_,fun k=>?_⟩
 ·simp only [run,fr] at h
  split at h
  ·rename_i es s hs
   obtain ⟨h1,h2⟩:=Aq h
   simp only [zS,yA] at h2
   obtain ⟨rfl,rfl⟩:=h2
   first | exact ⟨h1,k⟩ | (simp only [hs]; exact ⟨h1,k⟩)
  ·cases h
 ·split at k
  ·rename_i es s hs
   exact ⟨.normal,s,by simp only [run,fr,hs,k.1,cond_true],k.2⟩
  ·exact k.elim
theorem W2 {a b:SC}:go n0 (.seq a b) st K=go n0 a st (SH n0 b K):=by
 refine propext ⟨fun ⟨x,st',h,k⟩=>?_,fun ⟨x,st',h,k⟩=>?_⟩
 ·simp only [run,fr,CK] at h
  split at h
  ·rename_i s hs
   exact ⟨.normal,s,hs,x,st',h,k⟩
  ·rename_i i s hs
   simp only [zS,yA] at h
   obtain ⟨rfl,rfl⟩:=h
   exact ⟨_,_,hs,k⟩
  ·rename_i s hs
   simp only [zS,yA] at h
   obtain ⟨rfl,rfl⟩:=h
   exact ⟨_,_,hs,k⟩
  ·cases h
 ·simp only [run] at h
  cases x with
  | normal =>
   obtain ⟨x2,st2,h2,k2⟩:=k
   exact ⟨x2,st2,by simp only [run,fr,CK,h]; exact h2,k2⟩
  | exit i=>exact ⟨_,st',by simp only [run,fr,CK,h],k⟩
  | ret=>exact ⟨_,st',by simp only [run,fr,CK,h],k⟩
theorem Of {id:Nat} {b:SC}:go n0 (.block id b) st K=go n0 b st (blk id K):=by
 refine propext ⟨fun ⟨x,st',h,k⟩=>?_,fun ⟨x,st',h,k⟩=>?_⟩
 ·simp only [run,fr,F3] at h
  split at h
  ·rename_i s hs
   simp only [zS,yA] at h
   obtain ⟨rfl,rfl⟩:=h
   exact ⟨.normal,s,hs,k⟩
  ·rename_i i s hs
   refine ⟨.exit i,s,hs,?_⟩
   simp only [blk]
   by_cases hi:i=id
   ·simp only [if_pos hi,zS,yA] at h ⊢
    obtain ⟨rfl,rfl⟩:=h
    exact k
   ·simp only [if_neg hi,zS,yA] at h ⊢
    obtain ⟨rfl,rfl⟩:=h
    exact k
  ·rename_i s hs
   simp only [zS,yA] at h
   obtain ⟨rfl,rfl⟩:=h
   exact ⟨_,s,hs,k⟩
  ·cases h
 ·simp only [run] at h
  cases x with
  | normal=>exact ⟨_,st',by simp only [run,fr,F3,h],k⟩
  | exit i =>
   simp only [blk] at k
   by_cases hi:i=id
   ·simp only [if_pos hi] at k
    exact ⟨.normal,st',by simp only [run,fr,F3,h,if_pos hi],k⟩
   ·simp only [if_neg hi] at k
    exact ⟨.exit i,st',by simp only [run,fr,F3,h,if_neg hi],k⟩
  | ret=>exact ⟨_,st',by simp only [run,fr,F3,h],k⟩
theorem Aa {q:SX} {a b:SC}:go n0 (.cond q a b) st K=It (A3 (gets st.sl) q) (fun _=>go n0 a st K) (fun _=>go n0 b st K):=by
 unfold It
 refine propext ⟨fun ⟨x,st',h,k⟩=>?_,fun k=>?_⟩
 ·simp only [run,fr] at h
  split at h
  ·rename_i t ht
   simp only [ht]
   cases t with
   | true=>exact ⟨x,st',h,k⟩
   | false=>exact ⟨x,st',h,k⟩
  ·cases h
 ·split at k
  ·rename_i ht
   obtain ⟨x,st',h,k⟩:=k
   exact ⟨x,st',by simp only [run,fr,ht,cond_true]; exact h,k⟩
  ·rename_i ht
   obtain ⟨x,st',h,k⟩:=k
   exact ⟨x,st',by simp only [run,fr,ht,cond_false]; exact h,k⟩
  ·exact k.elim
theorem Ru {a b:Unit→Prop}:It (.bool true) a b=a ():=rfl
theorem Rv {a b:Unit→Prop}:It (.bool false) a b=b ():=rfl
theorem Rw {t:Bool} {a b:Unit→Prop}:It (.bool (!t)) a b=It (.bool t) b a:=by cases t <;> rfl
theorem W3 {b:SC}:SH n0 b K .normal st=go n0 b st K:=rfl
theorem W4 {b:SC} {i:Nat}:SH n0 b K (.exit i) st=K (.exit i) st:=rfl
theorem W5 {b:SC}:SH n0 b K .ret st=K .ret st:=rfl
theorem Qbf {id:Nat}:blk id K .normal st=K .normal st:=rfl
theorem Qbg {id i:Nat}:blk id K (.exit i) st=if i=id then K .normal st else K (.exit i) st:=rfl
theorem Qbh {id:Nat}:blk id K .ret st=K .ret st:=rfl
theorem Rx:SI (some st) K=K .normal st:=rfl
def quiet:List Ent→Bool
 | []=>true
 | ⟨_,_,[],_⟩ :: r=>quiet r
 | ⟨_,_,_ :: _,_⟩ :: _=>false
theorem HL {anc:List (List Nat)} {rd:List Nat} {j:Nat}:∀ {l:List Ent} {i:Nat},quiet l=true→RH anc rd [] j (GP l) i=true
 | [],i,_=>rfl
 | ⟨_,_,[],rdi⟩ :: r,i,h=>by
  have:=HL (anc:=anc) (rd:=rd) (j:=j) (l:=r) (i:=i+1) h
  simp only [GP,zK,zL] at this ⊢
  simp only [RH,this,yK]
  have e1:meets [] (rd++[])=false:=rfl
  have e2:meets rdi []=false:=by cases rdi <;> simp [meets]
  rw [e1,e2]; rfl
theorem PB {l l':List Ent} (h:quiet l=true) (h':quiet l'=true):quiet (l++l')=true:=by
 induction l with
 | nil=>exact h'
 | cons x r ih =>
  obtain ⟨a,b,c,d⟩:=x
  cases c with
  | nil=>exact ih h
  | cons _ _=>cases h
theorem Jq {anc:List (List Nat)}:∀ {l pre:List Ent} {j:Nat},quiet pre=true→quiet l=true→obB anc (GP pre) (GP l) j=true
 | [],pre,j,_,_=>rfl
 | ⟨a,b,[],rd⟩ :: r,pre,j,hp,h=>by
  have e:=Jq (anc:=anc) (l:=r) (pre:=pre++[⟨a,b,[],rd⟩]) (j:=j+1) (PB hp rfl) h
  have e2:=HL (anc:=anc) (rd:=rd) (j:=j) (i:=0) hp
  simp only [GP,yF,zK,zL] at e e2 ⊢
  simp only [obB,e2,e,Bool.and_self]
theorem Ry {anc:List (List Nat)} {es:List Ent}:SJ anc (some (es,st)) K=match quiet es with
  | true=>K .normal st
  | false=>obB anc [] (GP es) 0=true∧K .normal st:=by
 show (obB anc [] (GP es) 0=true∧K .normal st)=_
 cases h:quiet es with
 | true=>exact propext ⟨fun h=>h.2,fun h'=>⟨Jq (pre:=[]) rfl h,h'⟩⟩
 | false=>rfl
noncomputable def Qam (r:List SOper) (e:Option (Ent × St)):Option St :=
 match e with
 | some (_,st)=>Nw r st
 | none=>none
noncomputable def Qan (r:List SOper) (acc:List Ent) (e:Option (Ent × St)):Option (List Ent × St) :=
 match e with
 | some (x,st)=>Nx r (acc++[x]) st
 | none=>none
noncomputable def opF (so:SOp) (sl:List SV) (ob:List Ob):Option R3:=fOp Tryz.prog calls so sl ob
theorem Og:Nw [] st=some st:=rfl
theorem Ml {d:Option Tmp} {so:SOp} {r:List SOper} {sl:List SV} {ob:List Ob}:Nw (⟨d,none,so⟩ :: r) ⟨sl,ob⟩=Qam r (H4 d ⟨sl,ob⟩ (opF so sl ob)):=rfl
noncomputable def gdF (d:Option Tmp) (so:SOp) (want:Bool) (sl:List SV) (ob:List Ob) (v:SV):Option (Ent × St) :=
 match v with
 | .bool b=>bif TX b want then H4 d ⟨sl,ob⟩ (opF so sl ob) else some (⟨false,.tup [],[],[]⟩,⟨EU sl d (.tup []),ob⟩)
 | .tup []=>some (⟨false,.tup [],[],[]⟩,⟨EU sl d (.tup []),ob⟩)
 | _=>none
theorem Rz {d:Option Tmp} {k:Nat} {want:Bool} {so:SOp} {r:List SOper} {sl:List SV} {ob:List Ob}:Nw (⟨d,some (k,want),so⟩ :: r) ⟨sl,ob⟩=Qam r (gdF d so want sl ob (gets sl k)):=rfl
theorem Oh {acc:List Ent}:Nx [] acc st=some (acc,st):=rfl
theorem Mm {d:Option Tmp} {so:SOp} {r:List SOper} {acc:List Ent} {sl:List SV} {ob:List Ob}:Nx (⟨d,none,so⟩ :: r) acc ⟨sl,ob⟩=Qan r acc (H4 d ⟨sl,ob⟩ (opF so sl ob)):=rfl
theorem R0 {d:Option Tmp} {k:Nat} {want:Bool} {so:SOp} {r:List SOper} {acc:List Ent} {sl:List SV} {ob:List Ob}:Nx (⟨d,some (k,want),so⟩ :: r) acc ⟨sl,ob⟩=Qan r acc (gdF d so want sl ob (gets sl k)):=rfl
theorem W6 {r:List SOper} {e:Ent}:Qam r (some (e,st))=Nw r st:=rfl
theorem W7 {r:List SOper} {acc:List Ent} {e:Ent}:Qan r acc (some (e,st))=Nx r (acc++[e]) st:=rfl
theorem Qbi {d:Option Tmp} {so:SOp} {sl:List SV} {ob:List Ob}:gdF d so true sl ob (.bool true)=H4 d ⟨sl,ob⟩ (opF so sl ob):=rfl
theorem W8 {d:Option Tmp} {so:SOp} {sl:List SV} {ob:List Ob}:gdF d so false sl ob (.bool false)=H4 d ⟨sl,ob⟩ (opF so sl ob):=rfl
theorem W9 {d:Option Tmp} {so:SOp} {sl:List SV} {ob:List Ob}:gdF d so true sl ob (.bool false)=some (⟨false,.tup [],[],[]⟩,⟨EU sl d (.tup []),ob⟩):=rfl
theorem WA {d:Option Tmp} {so:SOp} {sl:List SV} {ob:List Ob}:gdF d so false sl ob (.bool true)=some (⟨false,.tup [],[],[]⟩,⟨EU sl d (.tup []),ob⟩):=rfl
theorem Qbj {d:Option Tmp} {so:SOp} {want:Bool} {sl:List SV} {ob:List Ob}:gdF d so want sl ob (.tup [])=some (⟨false,.tup [],[],[]⟩,⟨EU sl d (.tup []),ob⟩):=rfl
theorem WB {d:Option Tmp} {x:SV} {rd:List Nat}:H4 d st (some (x,[],rd))=some (⟨true,x,[],rd⟩,⟨EU st.sl d x,st.ob⟩):=rfl
theorem WC {d:Option Tmp} {x:SV} {q:Nat × Ob} {u:List (Nat × Ob)} {rd:List Nat}:H4 d st (some (x,q :: u,rd))=bif VZ (D5 st.ob (q :: u)).length (q :: u) then some (⟨true,x,q :: u,rd⟩,⟨EU st.sl d x,D5 st.ob (q :: u)⟩) else none:=rfl
def Lm (ob:List Ob) (xs:List SV) (sel:List Nat) (r:Option (SV × List Ob)) (n:Nat):Option R3 :=
 match r with
 | some (r,fob')=>bif decide (n≤fob'.length) then some (Ep sel (Bh sel xs) ob.length r fob') else none
 | none=>none
def Qao (hd:List Bool) (f:FuncId) (xs:List SV) (ob:List Ob) (sel:List Nat) (e:List SV→List Ob→Option (SV × List Ob)) (b:Option (List Ob)):Option R3 :=
 match b with
 | some fob=>bif nodupB sel&&H5 ob.length sel&&F1 fob.length fob then Lm ob xs sel (e (Fz hd (Ap ob) sel xs) fob) fob.length else none
 | none=>none
def SK (hd:List Bool) (f:FuncId) (xs:List SV) (ob:List Ob) (sel:List Nat) (e:List SV→List Ob→Option (SV × List Ob)):Option R3:=Qao hd f xs ob sel e (EC sel ob sel)
theorem Oi {f:FuncId} {xs:List SV} {ob:List Ob}:calls f xs ob=EW (modes f).res (SK (modes f).hand f xs ob (reach ob 64 (F0 (modes f).hand xs) []) (E f)):=rfl
theorem WD {r:Option R3}:EW .asis r=r:=rfl
theorem WE {r:Option R3}:EW .frz r=r:=rfl
theorem WF {l:List (Option (Nat × Nat))} {r:Option R3}:EW (.own l) r=r:=rfl
theorem WG {l:List (Option (Nat × Nat))} {r:Option R3}:EW (.tr l) r=r:=rfl
theorem WH {l:List Nat} {r:Option R3}:EW (.frl l) r=r:=rfl
theorem WI {r:R3}:EW .late (some r)=Qy r:=rfl
theorem Fu:∀ u:List (Nat × Ob),Dc [] u=u
 | []=>rfl
 | (g,o) :: u=>by rw [Dc,Fu u]; rfl
theorem WJ {m:RM} {b:Bool} {u:List (Nat × Ob)} {rd:List Nat}:EW m (some (.bool b,u,rd))=some (.bool b,u,rd):=by
 cases m <;> first | rfl | (show some (SV.bool b,Dc [] u,rd)=_; rw [Fu])
theorem WK {m:RM} {k:IntKind} {n:Int} {u:List (Nat × Ob)} {rd:List Nat}:EW m (some (.int k n,u,rd))=some (.int k n,u,rd):=by
 cases m <;> first | rfl | (show some (SV.int k n,Dc [] u,rd)=_; rw [Fu])
theorem Mn {hd:List Bool} {f:FuncId} {xs:List SV} {ob:List Ob} {e:List SV→List Ob→Option (SV × List Ob)}:SK hd f xs ob [] e=Lm ob xs [] (e (Fz hd (Ap ob) [] xs) []) 0:=rfl
theorem JW {hd:List Bool} {f:FuncId} {xs:List SV} {ob:List Ob} {g:Nat} {r:List Nat} {e:List SV→List Ob→Option (SV × List Ob)}:SK hd f xs ob (g :: r) e=Qao hd f xs ob (g :: r) e (EC (g :: r) ob (g :: r)):=rfl
theorem R1 {ob:List Ob} {xs:List SV} {r:SV} {fob':List Ob}:Lm ob xs [] (some (r,fob')) 0=some (Ep [] (Bh [] xs) ob.length r fob'):=rfl
theorem R2 {ob:List Ob} {xs:List SV} {sel:List Nat} {r:SV} {fob':List Ob} {n:Nat}:Lm ob xs sel (some (r,fob')) n=bif decide (n≤fob'.length) then some (Ep sel (Bh sel xs) ob.length r fob') else none:=rfl
theorem WL {hd:List Bool} {f:FuncId} {xs:List SV} {ob:List Ob} {sel:List Nat} {fob:List Ob} {e:List SV→List Ob→Option (SV × List Ob)}:Qao hd f xs ob sel e (some fob)=bif nodupB sel&&H5 ob.length sel&&F1 fob.length fob then Lm ob xs sel (e (Fz hd (Ap ob) sel xs) fob) fob.length else none:=rfl
theorem Mo {p:Nat} {r:SV}:Ep [] [] p r []=(r.ren (sgp [] p),[],[]):=rfl
def Ey {α:Type} (n0:Nat) (keep:List Nat) (H:α→St) (R:α→Prop) (μ:α→Nat) (a:α) (K:X→St→Prop):X→St→Prop
 | .normal,st'=>∃ y,R y∧μ y < μ a∧canon n0 keep st'=H y
 | .exit i,st'=>K (.exit i) st'
 | .ret,st'=>K .ret st'
theorem Oj {α:Type} {keep:List Nat} {H:α→St} {R:α→Prop} {μ:α→Nat} {a:α} {st':St}:Ey n0 keep H R μ a K .normal st'=∃ y,R y∧μ y < μ a∧canon n0 keep st'=H y:=rfl
theorem Ok {α:Type} {keep:List Nat} {H:α→St} {R:α→Prop} {μ:α→Nat} {a:α} {i:Nat} {st':St}:Ey n0 keep H R μ a K (.exit i) st'=K (.exit i) st':=rfl
theorem Ol {α:Type} {keep:List Nat} {H:α→St} {R:α→Prop} {μ:α→Nat} {a:α} {st':St}:Ey n0 keep H R μ a K .ret st'=K .ret st':=rfl
theorem go_loop {α:Type} {keep:List Nat} {b:SC} (H:α→St) (R:α→Prop) (μ:α→Nat) (a0:α) (hR:R a0) (h0:canon n0 keep st=H a0) (round:∀ a,R a→go n0 b (H a) (Ey n0 keep H R μ a K)):go n0 (.loop keep b) st K:=by
 have key:∀ (n:Nat) (a:α) (st:St),μ a≤n→R a→canon n0 keep st=H a→∃ x st',Sx n0 keep (run n0 b) st=some (x,st')∧K x st':=by
  intro n
  induction n with
  | zero =>
   intro a st hn hR hc
   obtain ⟨x,st',h,k⟩:=round a hR
   cases x with
   | normal =>
    obtain ⟨y,_,h2,_⟩:=k
    omega
   | exit i=>exact ⟨_,st',by rw [EX,hc,h]; rfl,k⟩
   | ret=>exact ⟨_,st',by rw [EX,hc,h]; rfl,k⟩
  | succ n ih =>
   intro a st hn hR hc
   obtain ⟨x,st',h,k⟩:=round a hR
   cases x with
   | normal =>
    obtain ⟨y,h1,h2,h3⟩:=k
    obtain ⟨x2,st2,h4,k2⟩:=ih y st' (by omega) h1 h3
    exact ⟨x2,st2,by rw [EX,hc,h]; exact h4,k2⟩
   | exit i=>exact ⟨_,st',by rw [EX,hc,h]; rfl,k⟩
   | ret=>exact ⟨_,st',by rw [EX,hc,h]; rfl,k⟩
 exact key (μ a0) a0 st (zO _) hR h0
def JX (n0:Nat) (keep keepO:List Nat) (H:EL→St) (F:X × St) (p:EL):X→St→Prop
 | .normal,st'=>canon n0 keep st'=H p
 | .exit i,st'=>F=(.exit i,canon n0 keepO st')
 | .ret,st'=>F=(.ret,canon n0 keepO st')
def Yr (n0:Nat) (keepO:List Nat) (F:X × St):X→St→Prop
 | .normal,_=>False
 | .exit i,st'=>F=(.exit i,canon n0 keepO st')
 | .ret,st'=>F=(.ret,canon n0 keepO st')
theorem Mp {keep keepO:List Nat} {H:EL→St} {F:X × St} {p:EL} {st':St}:JX n0 keep keepO H F p .normal st'=(canon n0 keep st'=H p):=rfl
theorem Mq {keep keepO:List Nat} {H:EL→St} {F:X × St} {p:EL} {i:Nat} {st':St}:JX n0 keep keepO H F p (.exit i) st'=(F=(.exit i,canon n0 keepO st')):=rfl
theorem Mr {keep keepO:List Nat} {H:EL→St} {F:X × St} {p:EL} {st':St}:JX n0 keep keepO H F p .ret st'=(F=(.ret,canon n0 keepO st')):=rfl
theorem R4 {keepO:List Nat} {F:X × St} {i:Nat} {st':St}:Yr n0 keepO F (.exit i) st'=(F=(.exit i,canon n0 keepO st')):=rfl
theorem R5 {keepO:List Nat} {F:X × St} {st':St}:Yr n0 keepO F .ret st'=(F=(.ret,canon n0 keepO st')):=rfl
end
def slots:Nat→Nat→List (Nat × SV)→List SV
 | 0,_,_=>[]
 | n+1,k,[]=>.any :: slots n (k+1) []
 | n+1,k,(j,x) :: r=>bif j == k then x :: slots n (k+1) r else .any :: slots n (k+1) ((j,x) :: r)
def Ug (res:RM) (n0:Nat) (rs:List RX) (out:SV × List Ob) (x:X) (st:St):Prop:=fin res n0 rs x st=some out
def Qap (res:RM) (n0:Nat) (r:Option (SV × List Ob)):Option (SV × List Ob) :=
 match r with
 | some (r,ob)=>order res n0 r ob
 | none=>none
def Om (res:RM) (n0:Nat) (ob:List Ob) (r:Option SV):Option (SV × List Ob) :=
 match r with
 | some r0=>Qap res n0 (gc n0 r0 ob)
 | none=>none
theorem WM {res:RM} {n0:Nat} {rs:List RX} {out:SV × List Ob} {sl:List SV} {ob:List Ob}:Ug res n0 rs out .ret ⟨sl,ob⟩=(Om res n0 ob (NQ ⟨sl,ob⟩ rs)=some out):=rfl
theorem WN {res:RM} {n0:Nat} {rs:List RX} {out:SV × List Ob} {sl:List SV} {ob:List Ob}:Ug res n0 rs out .normal ⟨sl,ob⟩=(Om res n0 ob (NQ ⟨sl,ob⟩ rs)=some out):=rfl
theorem R6 {res:RM} {n0:Nat} {ob:List Ob} {r:SV}:Om res n0 ob (some r)=Qap res n0 (gc n0 r ob):=rfl
theorem WO {n0:Nat} {r:SV} {ob:List Ob} {res:RM}:Qap res n0 (some (r,ob))=order res n0 r ob:=rfl
theorem Ad {f:FuncId} {fc:FC} {hand:List Bool} {res:RM} {tr:Bool} {xs:List SV} {ob:List Ob} {out:SV × List Ob} (hc:codeOf Tryz.prog f=some fc) (hr:modes f=⟨hand,res,none,tr⟩) (hn:xs.length≤fc.nt) (h:go ob.length (Iq res fc.sc) ⟨xs++KW (fc.nt-xs.length),entry tr ob⟩ (Ug res ob.length fc.rs out)):E f xs ob=some out:=by
 obtain ⟨x,st',h1,h2⟩:=h
 unfold E
 rw [Qdl]
 unfold H9
 rw [hc,hr]
 simp only
 rw [decide_eq_true hn,cond_true]
 have h1:fr Tryz.prog (Dv modes (ev Tryz.prog modes)) (JR ob.length) (Iq res fc.sc) ⟨xs++KW (fc.nt-xs.length),entry tr ob⟩=some (x,st'):=h1
 rw [h1]
 exact h2
end Wd
namespace Wd
attribute [local go_sem] Fz Sc SV.isNil Ob.idsB SV.idsB SV.MJ List.getElem?_cons_zero List.getElem?_cons_succ OT.AA OT.CB OT.full entry toTree US Sq UR GB Gb Fs XV Ql Wa OT.erss OT.ers OT.er OT.BF OT.DG OT.noSh quiet obB RH GP meets IN go_skip Rs go_ret Wz Rt W2 Of Ru Rv Rw W3 W4 W5 Qbf Qbg Qbh Rx Ry Og Ml Rz Oh Mm R0 W6 W7 Qbi W8 W9 WA Qbj WB WC Oi WD WE WF WG WH WI WJ WK Qy Sk Dc seen Mn JW R1 R2 WL Mo Ep Oj Ok Ol WM WN R6 WO order opF fOp FS UO QbS UM UN XU IQ eqK A3 gets Ap QT EU D5 M3 Pu AN VZ SV.cellsN SV.one Kv splice Ev TV Ku KR Es BE Cm B7 Kw Kx VQ eOp.mkEs eOp.addS D.sv OT.sv D.ot Ij nodupB reach SV.refs SV.Qw SV.ptrs SV.Qx Ob.refs Ob.liveB F0 EC SV.back SV.ML Ob.back Ii Ip CO Bh Bp H5 F1 SV.ren SV.M4 Ob.ren mkU sgp gc MN names M5 Wb Wc We Nt ZM Wh Wi Wj Wk Wl Wm SC.mark Q0 F2 slots NQ VY rxV KW Sj SV.noSh SV.MH Ob.noSh SV.own SV.So Gc cond_true cond_false zP zY zK zL List.drop_succ_cons zJ List.drop_nil List.take_succ_cons z7 List.take_nil y7 zU yB List.all_cons List.all_nil List.getD_cons_zero List.getD_cons_succ List.any_cons List.any_nil List.contains_cons List.contains_nil List.isEmpty_nil List.isEmpty_cons y2 List.flatten_nil List.replicate_succ List.replicate_zero List.set_cons_zero List.set_cons_succ Nat.add_zero Nat.zero_add zO zF yK yH Bool.and_self Bool.or_false y5 Bool.true_or Bool.or_true Bool.not_true Bool.not_false yM zM decide_true decide_false beq_self_eq_true if_true if_false Option.map_some Option.map_none zS Option.getD_some y6 yQ true_and and_true and_self eq_self_iff_true zC Bool.false_eq_true Bool.true_eq_false yA SV.int.injEq SV.bool.injEq SV.str.injEq SV.agg.injEq SV.tup.injEq SV.arr.injEq List.cons.injEq St.mk.injEq Int.zero_add Qbl Qbm WP At Ay Qe9 svK svD Z9 svM MV.sv UA Sh NR Si GR St.app TY MK.sv Mp Mq Mr R4 R5 mode
def CQ:SC:=(.seq (.reg [⟨some 2,none,.mv (.c (.bool false))⟩]) (.seq (.reg [⟨some 3,none,.mv (.t 0)⟩,⟨some 4,none,.mv (.t 0)⟩,⟨some 5,none,.bin .neq false (.t 3) (.t 4)⟩,⟨some 2,none,.mv (.t 5)⟩]) .ret))
theorem Fw:codeOf Tryz.prog 305=some ⟨6,CQ,[(.tmp 2)]⟩:=by kernel_rfl
theorem Bj:modes 305=⟨[],.asis,none,false⟩:=by unfold modes; rfl
def DW:SC:=(.seq (.reg [⟨some 2,none,.mv (.c (.bool false))⟩]) (.seq (.reg [⟨some 3,none,.mv (.t 0)⟩,⟨some 4,none,.mv (.t 0)⟩,⟨some 5,none,.bin .neq false (.t 3) (.t 4)⟩,⟨some 2,none,.mv (.t 5)⟩]) .ret))
theorem GU:codeOf Tryz.prog 314=some ⟨6,DW,[(.tmp 2)]⟩:=by kernel_rfl
theorem BC:modes 314=⟨[],.asis,none,false⟩:=by unfold modes; rfl
def AT:SC:=(.seq (.reg [⟨some 4,none,.mv (.c (.int .i64 0))⟩]) (.seq (.reg [⟨some 7,none,.mv (.t 0)⟩,⟨some 8,none,.call 305 [(.t 7)]⟩,⟨some 5,none,.mv (.t 8)⟩]) (.seq (.reg [⟨some 9,none,.mv (.t 1)⟩,⟨some 10,none,.call 305 [(.t 9)]⟩,⟨some 6,none,.mv (.t 10)⟩]) (.seq (.seq (.reg [⟨some 11,none,.mv (.t 5)⟩]) (.cond (.t 11) (.seq (.seq (.reg [⟨some 12,none,.mv (.t 6)⟩]) (.cond (.t 12) (.seq (.reg [⟨some 4,none,.mv (.c (.int .i64 0))⟩]) .ret) .skip)) (.seq (.reg [⟨some 4,none,.mv (.c (.int .i64 (-(0+1))))⟩]) .ret)) .skip)) (.seq (.seq (.reg [⟨some 13,none,.mv (.t 6)⟩]) (.cond (.t 13) (.seq (.reg [⟨some 4,none,.mv (.c (.int .i64 1))⟩]) .ret) .skip)) (.seq (.seq (.reg [⟨some 14,none,.mv (.t 0)⟩,⟨some 15,none,.mv (.t 1)⟩,⟨some 16,none,.bin .lss false (.t 14) (.t 15)⟩]) (.cond (.t 16) (.seq (.reg [⟨some 4,none,.mv (.c (.int .i64 (-(0+1))))⟩]) .ret) .skip)) (.seq (.seq (.reg [⟨some 17,none,.mv (.t 0)⟩,⟨some 18,none,.mv (.t 1)⟩,⟨some 19,none,.bin .gtr false (.t 17) (.t 18)⟩]) (.cond (.t 19) (.seq (.reg [⟨some 4,none,.mv (.c (.int .i64 1))⟩]) .ret) .skip)) (.seq (.reg [⟨some 4,none,.mv (.c (.int .i64 0))⟩]) .ret))))))))
theorem Bx:codeOf Tryz.prog 283=some ⟨20,AT,[(.tmp 4)]⟩:=by kernel_rfl
theorem A8:modes 283=⟨[],.asis,none,false⟩:=by unfold modes; rfl
def Bs:SC:=(.seq (.reg [⟨some 4,none,.mv (.c (.int .i64 0))⟩]) (.seq (.reg [⟨some 7,none,.mv (.t 0)⟩,⟨some 8,none,.call 314 [(.t 7)]⟩,⟨some 5,none,.mv (.t 8)⟩]) (.seq (.reg [⟨some 9,none,.mv (.t 1)⟩,⟨some 10,none,.call 314 [(.t 9)]⟩,⟨some 6,none,.mv (.t 10)⟩]) (.seq (.seq (.reg [⟨some 11,none,.mv (.t 5)⟩]) (.cond (.t 11) (.seq (.seq (.reg [⟨some 12,none,.mv (.t 6)⟩]) (.cond (.t 12) (.seq (.reg [⟨some 4,none,.mv (.c (.int .i64 0))⟩]) .ret) .skip)) (.seq (.reg [⟨some 4,none,.mv (.c (.int .i64 (-(0+1))))⟩]) .ret)) .skip)) (.seq (.seq (.reg [⟨some 13,none,.mv (.t 6)⟩]) (.cond (.t 13) (.seq (.reg [⟨some 4,none,.mv (.c (.int .i64 1))⟩]) .ret) .skip)) (.seq (.seq (.reg [⟨some 14,none,.mv (.t 0)⟩,⟨some 15,none,.mv (.t 1)⟩,⟨some 16,none,.bin .lss false (.t 14) (.t 15)⟩]) (.cond (.t 16) (.seq (.reg [⟨some 4,none,.mv (.c (.int .i64 (-(0+1))))⟩]) .ret) .skip)) (.seq (.seq (.reg [⟨some 17,none,.mv (.t 0)⟩,⟨some 18,none,.mv (.t 1)⟩,⟨some 19,none,.bin .gtr false (.t 17) (.t 18)⟩]) (.cond (.t 19) (.seq (.reg [⟨some 4,none,.mv (.c (.int .i64 1))⟩]) .ret) .skip)) (.seq (.reg [⟨some 4,none,.mv (.c (.int .i64 0))⟩]) .ret))))))))
theorem BS:codeOf Tryz.prog 274=some ⟨20,Bs,[(.tmp 4)]⟩:=by kernel_rfl
theorem AI:modes 274=⟨[],.asis,none,false⟩:=by unfold modes; rfl
def FA:SC:=(.seq (.reg [⟨some 2,none,.mv (.c (.int .i64 0))⟩]) (.seq (.reg [⟨some 3,none,.mv (.c (.int .i64 0))⟩]) (.seq (.seq (.reg [⟨some 6,none,.mv (.t 0)⟩,⟨some 7,none,.len false (.t 6)⟩,⟨some 8,none,.mv (.c (.int .i64 0))⟩]) (.block 0 (.loop [0,0,0,1,0,0,1,1,1,0,0,0,0,0,0,0,0,0] (.seq (.reg [⟨some 9,none,.bin .lss false (.t 8) (.t 7)⟩]) (.seq (.cond (.t 9) .skip (.exit 0)) (.seq (.block 1 (.seq (.reg [⟨some 10,none,.iaddr 1 (.t 6) (.t 8)⟩,⟨some 11,none,.load false 1 (.t 10)⟩,⟨some 5,none,.mv (.t 11)⟩]) (.seq (.reg [⟨some 12,none,.mv (.t 5)⟩,⟨some 13,none,.mv (.t 3)⟩,⟨some 14,none,.bin .neq false (.t 12) (.t 13)⟩]) (.cond (.t 14) (.seq (.reg [⟨some 15,none,.mv (.t 5)⟩,⟨some 2,none,.mv (.t 15)⟩]) .ret) .skip)))) (.reg [⟨some 16,none,.bin .add false (.t 8) (.c (.int .i64 1))⟩,⟨some 8,none,.mv (.t 16)⟩]))))))) (.seq (.reg [⟨some 17,none,.mv (.t 3)⟩,⟨some 2,none,.mv (.t 17)⟩]) .ret))))
theorem Kb:codeOf Tryz.prog 272=some ⟨18,FA,[(.tmp 2)]⟩:=by kernel_rfl
theorem CG:modes 272=⟨[],.asis,none,false⟩:=by unfold modes; rfl
theorem Ls (a:ByteArray):E 305 [.str a] []=some (.bool false,[]):=by
 refine Ad Fw Bj (of_decide_eq_true rfl) ?_
 simp (disch:=omega) only [CQ,go_sem,Aa]
theorem Lu (a:Int):E 314 [.int .i64 a] []=some (.bool false,[]):=by
 refine Ad GU BC (of_decide_eq_true rfl) ?_
 simp (disch:=omega) only [DW,go_sem,Aa]
theorem Kc (a b:ByteArray):E 283 [.str a,.str b] []=some (.int .i64 (ED a b),[]):=by
 have h1:=Ls a
 have h2:=Ls b
 unfold ED
 cases h3:strLt a b
 ·cases h4:dec (a=b)
  ·refine Ad Bx A8 (of_decide_eq_true rfl) ?_
   simp (disch:=omega) only [AT,go_sem,Aa,h1,h2,h3,h4,Bj]
  ·refine Ad Bx A8 (of_decide_eq_true rfl) ?_
   simp (disch:=omega) only [AT,go_sem,Aa,h1,h2,h3,h4,Bj]
 ·refine Ad Bx A8 (of_decide_eq_true rfl) ?_
  simp (disch:=omega) only [AT,go_sem,Aa,h1,h2,h3,Bj]
theorem HT (a b:Int):E 274 [.int .i64 a,.int .i64 b] []=some (.int .i64 (Ho a b),[]):=by
 have h1:=Lu a
 have h2:=Lu b
 unfold Ho
 cases h3:dec (a<b)
 ·cases h4:dec (b<a)
  ·refine Ad BS AI (of_decide_eq_true rfl) ?_
   simp (disch:=omega) only [Bs,go_sem,Aa,h1,h2,h3,h4,BC]
  ·refine Ad BS AI (of_decide_eq_true rfl) ?_
   simp (disch:=omega) only [Bs,go_sem,Aa,h1,h2,h3,h4,BC]
 ·refine Ad BS AI (of_decide_eq_true rfl) ?_
  simp (disch:=omega) only [Bs,go_sem,Aa,h1,h2,h3,BC]
def orL:List Int→Int
 | []=>0
 | x :: xs=>if x=0 then orL xs else x
theorem QfH (xs:List Int) (hl:xs.length≤1099511627776):E 272 [.arr (xs.map fun n=>[D.int n])] []=some (.int .i64 (orL xs),[]):=by
 refine Ad Kb CG (of_decide_eq_true rfl) ?_
 simp (disch:=omega) only [FA,go_sem,Aa]
 refine go_loop (α:=Int) (fun a=>⟨slots 18 0 [(3,.int .i64 0),(6,.arr (xs.map fun n=>[D.int n])),(7,.int .i64 xs.length),(8,.int .i64 a)],[]⟩) (fun a=>∃ k:Nat,a=k∧k≤(xs).length∧orL (xs.drop k)=orL xs) (fun a=>(xs).length-(a).toNat) 0 ⟨0,rfl,zF _,by rw [zJ]⟩ (by simp (disch:=omega) only [go_sem,Aa]) ?_
 rintro i ⟨k,hi,hk,hR⟩
 have hni:i.toNat=k:=by omega
 have hni1:(i+1).toNat=k+1:=by omega
 rcases zB k (xs).length with hlt | hge
 ·have hg:=get_at (fun n=>[D.int n]) hlt
  rw [zG hlt,orL] at hR
  by_cases h0:xs[k]=0
  ·rw [if_pos h0] at hR
   simp (disch:=omega) only [go_sem,Aa,hni,hg,h0]
   exact ⟨i+1,⟨k+1,by omega,hlt,hR⟩,by omega,by first | trivial | rfl⟩
  ·rw [if_neg h0] at hR
   simp (disch:=omega) only [go_sem,Aa,hni,hg,h0]
   exact hR
 ·rw [zI hge,orL] at hR
  simp (disch:=omega) only [go_sem,Aa,hni]
  exact hR
theorem Yy (a b:Int):E 272 [.arr [[.int a],[.int b]]] []=some (.int .i64 (orZ a b),[]):=by
 have h:=QfH [a,b] (by simp)
 have e:orL [a,b]=orZ a b:=by
  simp only [orL,orZ]
  split
  ·split <;> omega
  ·rfl
 rw [e] at h
 exact h
def CR:SC:=(.seq (.reg [⟨some 2,none,.mv (.c (.bool false))⟩]) (.seq (.reg [⟨some 3,none,.mv (.t 0)⟩,⟨some 4,none,.bin .geq false (.t 3) (.c (.int .u8 65))⟩,⟨some 5,none,.mv (.t 4)⟩,⟨(some 6),(some (5,true)),(.mv (.t 0))⟩,⟨(some 7),(some (5,true)),(.bin .leq false (.t 6) (.c (.int .u8 90)))⟩,⟨some 8,none,.pick (.t 5) (.t 7) (.c (.bool false))⟩,⟨some 2,none,.mv (.t 8)⟩]) .ret))
theorem E2:codeOf Tryz.prog 240=some ⟨9,CR,[(.tmp 2)]⟩:=by kernel_rfl
theorem CS:modes 240=⟨[],.asis,none,false⟩:=by unfold modes; rfl
def FB:SC:=(.seq (.reg [⟨some 1,none,.boxv 33 2 (.t 0)⟩,⟨some 2,none,.mv (.c (.bool false))⟩]) (.seq (.reg [⟨some 3,none,.faddr 0 (.t 1)⟩,⟨some 4,none,.load false 1 (.t 3)⟩,⟨some 5,none,.idx (.t 4) (.c (.int .i64 0))⟩,⟨some 6,none,.call 240 [(.t 5)]⟩,⟨some 2,none,.mv (.t 6)⟩]) .ret))
theorem Kd:codeOf Tryz.prog 209=some ⟨7,FB,[(.tmp 2)]⟩:=by kernel_rfl
theorem Ak:modes 209=⟨[],.asis,none,false⟩:=by unfold modes; rfl
theorem PF (n:Int):E 240 [.int .u8 n] []=some (.bool (dec (65≤n)&&dec (n≤90)),[]):=by
 cases h1:dec (65≤n)
 ·refine Ad E2 CS (of_decide_eq_true rfl) ?_
  simp (disch:=omega) only [CR,go_sem,Aa,h1]
 ·refine Ad E2 CS (of_decide_eq_true rfl) ?_
  simp (disch:=omega) only [CR,go_sem,Aa,h1]
theorem D0 (x:Tm) (h:x.cok=true):E 209 [x.sv] []=some (.bool (Ao x.name),[]):=by
 rw [Tm.Lj,zA] at h
 obtain ⟨h1,h2⟩:=Vq h.1
 have h3:=PF (JL x.name 0)
 rw [h2] at h3
 refine Ad Kd Ak (of_decide_eq_true rfl) ?_
 simp (disch:=omega) only [FB,go_sem,Aa,h3,CS]
def Au:SC:=(.seq (.reg [⟨some 6,none,.mv (.c (.int .i64 0))⟩]) (.seq (.seq (.reg [⟨some 11,none,.mv (.t 0)⟩,⟨some 12,none,.len false (.t 11)⟩,⟨some 13,none,.mv (.c (.int .i64 0))⟩]) (.block 0 (.loop [1,1,1,0,0,0,0,0,0,0,0,1,1,1,0,0,0,0,0,0,0,0,0,0,0,0,0,0,0,0,0,0,0,0,0,0,0,0,0] (.seq (.reg [⟨some 14,none,.bin .lss false (.t 13) (.t 12)⟩]) (.seq (.cond (.t 14) .skip (.exit 0)) (.seq (.block 1 (.seq (.reg [⟨some 15,none,.mv (.t 13)⟩,⟨some 16,none,.iaddr 2 (.t 11) (.t 13)⟩,⟨some 17,none,.load true 2 (.t 16)⟩,⟨(some 8),none,(.alloc 33 [(.str ⟨#[]⟩),.nil])⟩,⟨some 7,none,.mv (.t 15)⟩,⟨none,none,(.store 2 (.t 8) (.t 17))⟩]) (.seq (.seq (.reg [⟨some 18,none,.mv (.t 7)⟩,⟨some 19,none,.mv (.t 1)⟩,⟨some 20,none,.len false (.t 19)⟩,⟨some 21,none,.bin .geq false (.t 18) (.t 20)⟩]) (.cond (.t 21) (.seq (.reg [⟨some 6,none,.mv (.c (.int .i64 1))⟩]) .ret) .skip)) (.seq (.reg [⟨some 22,none,.mv (.t 1)⟩,⟨some 23,none,.mv (.t 7)⟩,⟨some 24,none,.iaddr 2 (.t 22) (.t 23)⟩,⟨some 25,none,.load true 2 (.t 24)⟩,⟨(some 9),none,(.alloc 33 [(.str ⟨#[]⟩),.nil])⟩,⟨none,none,(.store 2 (.t 9) (.t 25))⟩]) (.seq (.reg [⟨some 26,none,.mv (.t 2)⟩,⟨some 27,none,.load true 2 (.t 8)⟩,⟨some 28,none,.load true 2 (.t 9)⟩,⟨some 29,none,.callv (.t 26) [(.t 27),(.t 28)]⟩,⟨some 10,none,.mv (.t 29)⟩]) (.seq (.reg [⟨some 30,none,.mv (.t 10)⟩,⟨some 31,none,.bin .neq false (.t 30) (.c (.int .i64 0))⟩]) (.cond (.t 31) (.seq (.reg [⟨some 32,none,.mv (.t 10)⟩,⟨some 6,none,.mv (.t 32)⟩]) .ret) .skip))))))) (.reg [⟨some 33,none,.bin .add false (.t 13) (.c (.int .i64 1))⟩,⟨some 13,none,.mv (.t 33)⟩]))))))) (.seq (.seq (.reg [⟨some 34,none,.mv (.t 0)⟩,⟨some 35,none,.len false (.t 34)⟩,⟨some 36,none,.mv (.t 1)⟩,⟨some 37,none,.len false (.t 36)⟩,⟨some 38,none,.bin .lss false (.t 35) (.t 37)⟩]) (.cond (.t 38) (.seq (.reg [⟨some 6,none,.mv (.c (.int .i64 (-(0+1))))⟩]) .ret) .skip)) (.seq (.reg [⟨some 6,none,.mv (.c (.int .i64 0))⟩]) .ret))))
theorem A9:codeOf Tryz.prog 313=some ⟨39,Au,[(.tmp 6)]⟩:=by kernel_rfl
theorem Av:modes 313=⟨[],.asis,none,false⟩:=by unfold modes; rfl
def B4:SC:=(.seq (.reg [⟨some 2,none,.boxv 33 2 (.t 0)⟩,⟨some 3,none,.boxv 33 2 (.t 1)⟩,⟨some 4,none,.mv (.c (.int .i64 0))⟩]) (.seq (.dreg [[],[0],[],[2,1,0],[1,0,3,2],[3,2,1,0,4]] [⟨some 8,none,.load true 2 (.t 2)⟩,⟨some 9,none,.call 209 [(.t 8)]⟩,⟨some 10,none,.load true 2 (.t 3)⟩,⟨some 11,none,.call 209 [(.t 10)]⟩,⟨some 5,none,.mv (.t 9)⟩,⟨some 6,none,.mv (.t 11)⟩]) (.seq (.block 0 (.seq (.reg [⟨some 13,none,.mv (.t 5)⟩,⟨some 14,none,.mv (.t 13)⟩,⟨(some 15),(some (14,true)),(.mv (.t 6))⟩,⟨(some 16),(some (14,true)),(.un .not (.t 15))⟩,⟨some 17,none,.pick (.t 14) (.t 16) (.c (.bool false))⟩,⟨some 12,none,.mv (.t 17)⟩]) (.cond (.t 12) (.seq (.reg [⟨some 4,none,.mv (.c (.int .i64 (-(0+1))))⟩]) .ret) (.seq (.reg [⟨some 19,none,.mv (.t 6)⟩,⟨some 20,none,.mv (.t 19)⟩,⟨(some 21),(some (20,true)),(.mv (.t 5))⟩,⟨(some 22),(some (20,true)),(.un .not (.t 21))⟩,⟨some 23,none,.pick (.t 20) (.t 22) (.c (.bool false))⟩,⟨some 18,none,.mv (.t 23)⟩]) (.cond (.t 18) (.seq (.reg [⟨some 4,none,.mv (.c (.int .i64 1))⟩]) .ret) .skip))))) (.seq (.seq (.dreg [[],[0],[],[2],[1,0,3,2],[],[5],[6,5],[],[8],[9,8],[7,6,5,10,9,8,4,1,0,3,2],[4,1,0,3,2,11,7,6,5,10,9,8],[12,4,1,0,3,2,11,7,6,5,10,9,8],[13,12,4,1,0,3,2,11,7,6,5,10,9,8]] [⟨some 24,none,.faddr 0 (.t 2)⟩,⟨some 25,none,.load false 1 (.t 24)⟩,⟨some 26,none,.faddr 0 (.t 3)⟩,⟨some 27,none,.load false 1 (.t 26)⟩,⟨some 28,none,.call 283 [(.t 25),(.t 27)]⟩,⟨some 29,none,.faddr 1 (.t 2)⟩,⟨some 30,none,.load false 1 (.t 29)⟩,⟨some 31,none,.len false (.t 30)⟩,⟨some 32,none,.faddr 1 (.t 3)⟩,⟨some 33,none,.load false 1 (.t 32)⟩,⟨some 34,none,.len false (.t 33)⟩,⟨some 35,none,.call 274 [(.t 31),(.t 34)]⟩,⟨some 36,none,.mkrow 3 1 [(.int .i64 0)] 2 [(0,(.t 28)),(1,(.t 35))]⟩,⟨some 37,none,.call 272 [(.t 36)]⟩,⟨some 7,none,.mv (.t 37)⟩]) (.seq (.reg [⟨some 38,none,.mv (.t 7)⟩,⟨some 39,none,.bin .neq false (.t 38) (.c (.int .i64 0))⟩]) (.cond (.t 39) (.seq (.reg [⟨some 40,none,.mv (.t 7)⟩,⟨some 4,none,.mv (.t 40)⟩]) .ret) .skip))) (.seq (.reg [⟨some 41,none,.faddr 1 (.t 2)⟩,⟨some 42,none,.load false 1 (.t 41)⟩,⟨some 43,none,.faddr 1 (.t 3)⟩,⟨some 44,none,.load false 1 (.t 43)⟩,⟨some 45,none,.call 313 [(.t 42),(.t 44),(.c (.fn 273 []))]⟩,⟨some 4,none,.mv (.t 45)⟩]) .ret)))))
theorem CC:codeOf Tryz.prog 273=some ⟨46,B4,[(.tmp 4)]⟩:=by kernel_rfl
theorem AY:modes 273=⟨[],.asis,none,false⟩:=by unfold modes; rfl
theorem EP:Ih Tryz.prog 273=true:=by kernel_rfl
theorem IX (fid:Nat) (xs ys:List Tm) (hl:xs.length≤1099511627776) (hl':ys.length≤1099511627776) (hg:Ih Tryz.prog fid=true) (hm:(modes fid).hand=[]) (hE:∀ x∈xs,∀ y∈ys,E fid [x.sv,y.sv] []=some (.int .i64 (x.cmp y),[])):E 313 [.arr (xs.map Tm.d),.arr (ys.map Tm.d),.fn fid []] []=some (.int .i64 (Tm.cmpL xs ys),[]):=by
 refine Ad A9 Av (of_decide_eq_true rfl) ?_
 simp (disch:=omega) only [Au,go_sem,Aa]
 refine go_loop (α:=Int) (fun a=>⟨slots 39 0 [(0,.arr (xs.map Tm.d)),(1,.arr (ys.map Tm.d)),(2,.fn fid []),(11,.arr (xs.map Tm.d)),(12,.int .i64 xs.length),(13,.int .i64 a)],[]⟩) (fun a=>∃ k:Nat,a=k∧k≤(xs).length∧k≤ys.length∧Tm.cmpL (xs.drop k) (ys.drop k)=Tm.cmpL xs ys) (fun a=>(xs).length-(a).toNat) 0 ⟨0,rfl,zF _,zF _,by rw [zJ,zJ]⟩ (by simp (disch:=omega) only [go_sem,Aa]) ?_
 rintro i ⟨k,hi,hk,hR⟩
 have hni:i.toNat=k:=by omega
 have hni1:(i+1).toNat=k+1:=by omega
 rcases zB k (xs).length with hlt | hge
 ·obtain ⟨hk',hR⟩:=hR
  have hgx:=get_at Tm.d hlt
  rw [Tm.d_eq] at hgx
  rcases zB k ys.length with hlt' | hge'
  ·have hgy:=get_at Tm.d hlt'
   rw [Tm.d_eq] at hgy
   have hc:=hE xs[k] (zD hlt) ys[k] (zD hlt')
   rw [PD hlt hlt'] at hR
   by_cases h0:xs[k].cmp ys[k]=0
   ·rw [orZ,if_pos h0] at hR
    rw [h0] at hc
    simp (disch:=omega) only [go_sem,Aa,hni,hgx,hgy,hc,hg,hm]
    exact ⟨i+1,⟨k+1,by omega,hlt,hlt',hR⟩,by omega,by first | trivial | rfl⟩
   ·rw [orZ,if_neg h0] at hR
    simp (disch:=omega) only [go_sem,Aa,hni,hgx,hgy,hc,hg,hm,h0]
    exact hR
  ·rw [SR hlt hge'] at hR
   simp (disch:=omega) only [go_sem,Aa,hni,hgx]
   exact hR
 ·obtain ⟨hk',hR⟩:=hR
  obtain rfl:k=xs.length:=by omega
  rcases zB xs.length ys.length with hlt' | hge'
  ·rw [Yx (zO _) hlt'] at hR
   simp (disch:=omega) only [go_sem,Aa,hni]
   exact hR
  ·rw [PE (zO _) hge'] at hR
   simp (disch:=omega) only [go_sem,Aa,hni]
   exact hR
abbrev Uk (f:FuncId) (x y:Tm):Prop:=x.cok=true→y.cok=true→x.nodes≤1099511627776→y.nodes≤1099511627776→E f [x.sv,y.sv] []=some (.int .i64 (x.cmp y),[])
theorem GV (x:Tm) (ih:∀ x'∈x.args,∀ y,Uk 273 x' y) (y:Tm):Uk 273 x y:=by
 intro hx hy hnx hny
 have lx:=Tm.length_le x.args
 have ly:=Tm.length_le y.args
 have nx:=Tm.An x
 have ny:=Tm.An y
 have h1:=D0 x hx
 have h2:=D0 y hy
 have h3:=Kc x.name y.name
 have h4:=HT x.args.length y.args.length
 have h5:=Yy (ED x.name y.name) (Ho x.args.length y.args.length)
 rw [Tm.Lj,zA] at hx hy
 have h6:=IX 273 x.args y.args (by omega) (by omega) EP (by rw [AY]) fun x' hx' y' hy'=>ih x' hx' y' (Tm.HH hx.2 hx') (Tm.HH hy.2 hy') (by have:=Tm.AW hx'; omega) (by have:=Tm.AW hy'; omega)
 rw [Tm.Wu]
 cases vx:Ao x.name <;> rw [vx] at h1 <;> cases vy:Ao y.name <;> rw [vy] at h2
 all_goals
  simp only [Bool.not_true,Bool.not_false,yK,zM,yH,yM,if_true,if_false,Bool.false_eq_true]
  by_cases h0:orZ (ED x.name y.name) (Ho x.args.length y.args.length)=0
  ·rw [h0] at h5
   try rw [h0]
   refine Ad CC AY (of_decide_eq_true rfl) ?_
   simp (disch:=omega) only [B4,go_sem,Aa,h1,h2,h3,h4,h5,h6,Ak,A8,AI,CG,Av]
   try rfl
  ·try rw [orZ.eq_1 (orZ _ _) _,if_neg h0]
   refine Ad CC AY (of_decide_eq_true rfl) ?_
   simp (disch:=omega) only [B4,go_sem,Aa,h0,h1,h2,h3,h4,h5,Ak,A8,AI,CG]
theorem E3 (x y:Tm):Uk 273 x y:=GV x (fun x' hx' y'=>E3 x' y') y
termination_by SizeOf.sizeOf x
decreasing_by exact Tm.lt_of_mem hx'
def E4:SC:=(.seq (.reg [⟨some 2,none,.mv (.c (.int .i64 0))⟩]) (.seq (.seq (.reg [⟨some 3,none,.mv (.t 0)⟩]) (.cond (.t 3) (.seq (.reg [⟨some 2,none,.mv (.c (.int .i64 1))⟩]) .ret) .skip)) (.seq (.reg [⟨some 2,none,.mv (.c (.int .i64 0))⟩]) .ret)))
theorem GF:codeOf Tryz.prog 88=some ⟨4,E4,[(.tmp 2)]⟩:=by kernel_rfl
theorem Dm:modes 88=⟨[],.asis,none,false⟩:=by unfold modes; rfl
def BT:SC:=(.seq (.reg [⟨some 2,none,.boxv 122 3 (.t 0)⟩,⟨some 3,none,.boxv 122 3 (.t 1)⟩,⟨some 4,none,.mv (.c (.int .i64 0))⟩]) (.seq (.dreg [[],[0],[],[2],[1,0,3,2],[],[5],[6,5,4,1,0,3,2],[],[8],[9,8,7,6,5,4,1,0,3,2],[7,6,5,4,1,0,3,2,10,9,8],[4,1,0,3,2,11,7,6,5,10,9,8],[12,4,1,0,3,2,11,7,6,5,10,9,8],[13,12,4,1,0,3,2,11,7,6,5,10,9,8]] [⟨some 5,none,.faddr 1 (.t 2)⟩,⟨some 6,none,.load true 2 (.t 5)⟩,⟨some 7,none,.faddr 1 (.t 3)⟩,⟨some 8,none,.load true 2 (.t 7)⟩,⟨some 9,none,.call 273 [(.t 6),(.t 8)]⟩,⟨some 10,none,.faddr 0 (.t 2)⟩,⟨some 11,none,.load false 1 (.t 10)⟩,⟨some 12,none,.call 88 [(.t 11)]⟩,⟨some 13,none,.faddr 0 (.t 3)⟩,⟨some 14,none,.load false 1 (.t 13)⟩,⟨some 15,none,.call 88 [(.t 14)]⟩,⟨some 16,none,.call 274 [(.t 12),(.t 15)]⟩,⟨some 17,none,.mkrow 3 1 [(.int .i64 0)] 2 [(0,(.t 9)),(1,(.t 16))]⟩,⟨some 18,none,.call 272 [(.t 17)]⟩,⟨some 4,none,.mv (.t 18)⟩]) .ret))
theorem DL:codeOf Tryz.prog 203=some ⟨19,BT,[(.tmp 4)]⟩:=by kernel_rfl
theorem Bk:modes 203=⟨[],.asis,none,false⟩:=by unfold modes; rfl
theorem PH (b:Bool):E 88 [.bool b] []=some (.int .i64 (GC b),[]):=by
 cases b
 ·refine Ad GF Dm (of_decide_eq_true rfl) ?_
  simp (disch:=omega) only [E4,go_sem,Aa]
  rfl
 ·refine Ad GF Dm (of_decide_eq_true rfl) ?_
  simp (disch:=omega) only [E4,go_sem,Aa]
  rfl
theorem compareLiterals_E (x y:Lt) (hx:x.atom.cok=true) (hy:y.atom.cok=true) (hnx:x.atom.nodes≤1099511627776) (hny:y.atom.nodes≤1099511627776):E 203 [x.sv,y.sv] []=some (.int .i64 (x.cmp y),[]):=by
 have h1:=E3 x.atom y.atom hx hy hnx hny
 have h2:=PH x.pos
 have h3:=PH y.pos
 have h4:=HT (GC x.pos) (GC y.pos)
 have h5:=Yy (x.atom.cmp y.atom) (Ho (GC x.pos) (GC y.pos))
 unfold Lt.cmp
 refine Ad DL Bk (of_decide_eq_true rfl) ?_
 simp (disch:=omega) only [BT,go_sem,Aa,h1,h2,h3,h4,h5,AY,Dm,AI,CG]
end Wd
theorem Ox (x y:Lt) (hx:x.atom.cok=true) (hy:y.atom.cok=true) (hnx:x.atom.nodes≤1099511627776) (hny:y.atom.nodes≤1099511627776):FunD Tryz.prog 203 [x.sv,y.sv] [] (.int .i64 (x.cmp y)) []:=Wd.E_told (Wd.compareLiterals_E x y hx hy hnx hny)
def AC:SC:=(.seq (.reg [⟨some 6,none,.mv (.c (.bool false))⟩]) (.seq (.seq (.reg [⟨some 10,none,.mv (.t 0)⟩,⟨some 11,none,.len false (.t 10)⟩,⟨some 12,none,.mv (.t 1)⟩,⟨some 13,none,.len false (.t 12)⟩,⟨some 14,none,.bin .neq false (.t 11) (.t 13)⟩]) (.cond (.t 14) (.seq (.reg [⟨some 6,none,.mv (.c (.bool false))⟩]) .ret) .skip)) (.seq (.seq (.reg [⟨some 15,none,.mv (.t 0)⟩,⟨some 16,none,.len false (.t 15)⟩,⟨some 17,none,.mv (.c (.int .i64 0))⟩]) (.block 0 (.loop [0,1,1,0,0,0,0,0,0,0,0,0,0,0,0,1,1,1,0,0,0,0,0,0,0,0,0,0,0,0,0,0] (.seq (.reg [⟨some 18,none,.bin .lss false (.t 17) (.t 16)⟩]) (.seq (.cond (.t 18) .skip (.exit 0)) (.seq (.block 1 (.seq (.reg [⟨some 19,none,.mv (.t 17)⟩,⟨some 20,none,.iaddr 2 (.t 15) (.t 17)⟩,⟨some 21,none,.load true 2 (.t 20)⟩,⟨(some 8),none,(.alloc 33 [(.str ⟨#[]⟩),.nil])⟩,⟨some 7,none,.mv (.t 19)⟩,⟨none,none,(.store 2 (.t 8) (.t 21))⟩]) (.seq (.reg [⟨some 22,none,.mv (.t 1)⟩,⟨some 23,none,.mv (.t 7)⟩,⟨some 24,none,.iaddr 2 (.t 22) (.t 23)⟩,⟨some 25,none,.load true 2 (.t 24)⟩,⟨(some 9),none,(.alloc 33 [(.str ⟨#[]⟩),.nil])⟩,⟨none,none,(.store 2 (.t 9) (.t 25))⟩]) (.seq (.reg [⟨some 26,none,.mv (.t 2)⟩,⟨some 27,none,.load true 2 (.t 8)⟩,⟨some 28,none,.load true 2 (.t 9)⟩,⟨some 29,none,.callv (.t 26) [(.t 27),(.t 28)]⟩,⟨some 30,none,.un .not (.t 29)⟩]) (.cond (.t 30) (.seq (.reg [⟨some 6,none,.mv (.c (.bool false))⟩]) .ret) .skip))))) (.reg [⟨some 31,none,.bin .add false (.t 17) (.c (.int .i64 1))⟩,⟨some 17,none,.mv (.t 31)⟩]))))))) (.seq (.reg [⟨some 6,none,.mv (.c (.bool true))⟩]) .ret))))
theorem Bb:codeOf Tryz.prog 277=some ⟨32,AC,[(.tmp 6)]⟩:=by kernel_rfl
theorem AD:modes 277=⟨[],.asis,none,false⟩:=by unfold modes; rfl
def FE:SC:=(.seq (.reg [⟨some 2,none,.boxv 33 2 (.t 0)⟩,⟨some 3,none,.boxv 33 2 (.t 1)⟩,⟨some 4,none,.mv (.c (.bool false))⟩]) (.seq (.reg [⟨some 5,none,.faddr 0 (.t 2)⟩,⟨some 6,none,.load false 1 (.t 5)⟩,⟨some 7,none,.faddr 0 (.t 3)⟩,⟨some 8,none,.load false 1 (.t 7)⟩,⟨some 9,none,.bin .eql false (.t 6) (.t 8)⟩,⟨some 10,none,.mv (.t 9)⟩,⟨(some 11),(some (10,true)),(.faddr 1 (.t 2))⟩,⟨(some 12),(some (10,true)),(.load false 1 (.t 11))⟩,⟨(some 13),(some (10,true)),(.faddr 1 (.t 3))⟩,⟨(some 14),(some (10,true)),(.load false 1 (.t 13))⟩,⟨(some 15),(some (10,true)),(.call 277 [(.t 12),(.t 14),(.c (.fn 208 []))])⟩,⟨some 16,none,.pick (.t 10) (.t 15) (.c (.bool false))⟩,⟨some 4,none,.mv (.t 16)⟩]) .ret))
theorem Iy:codeOf Tryz.prog 208=some ⟨17,FE,[(.tmp 4)]⟩:=by kernel_rfl
theorem Ae:modes 208=⟨[],.asis,none,false⟩:=by unfold modes; rfl
theorem Oy:Ih Tryz.prog 208=true:=by kernel_rfl
def Gz:SC:=(.seq (.reg [⟨some 2,none,.boxv 33 2 (.t 0)⟩,⟨some 3,none,.boxv 33 2 (.t 1)⟩,⟨some 4,none,.mv (.c (.bool false))⟩]) (.seq (.seq (.reg [⟨some 6,none,.faddr 0 (.t 2)⟩,⟨some 7,none,.load false 1 (.t 6)⟩,⟨some 8,none,.faddr 0 (.t 3)⟩,⟨some 9,none,.load false 1 (.t 8)⟩,⟨some 10,none,.bin .neq false (.t 7) (.t 9)⟩,⟨some 11,none,.mv (.t 10)⟩,⟨(some 12),(some (11,false)),(.faddr 1 (.t 2))⟩,⟨(some 13),(some (11,false)),(.load false 1 (.t 12))⟩,⟨(some 14),(some (11,false)),(.len false (.t 13))⟩,⟨(some 15),(some (11,false)),(.faddr 1 (.t 3))⟩,⟨(some 16),(some (11,false)),(.load false 1 (.t 15))⟩,⟨(some 17),(some (11,false)),(.len false (.t 16))⟩,⟨(some 18),(some (11,false)),(.bin .neq false (.t 14) (.t 17))⟩,⟨some 19,none,.pick (.t 11) (.c (.bool true)) (.t 18)⟩]) (.cond (.t 19) (.seq (.reg [⟨some 4,none,.mv (.c (.bool false))⟩]) .ret) .skip)) (.seq (.seq (.reg [⟨some 5,none,.mv (.c (.int .i64 0))⟩]) (.block 0 (.loop [0,0,1,1,0,1,0,0,0,0,0,0,0,0,0,0,0,0,0,0,0,0,0,0,0,0,0,0,0,0,0,0,0,0,0,0,0,0,0] (.seq (.seq (.reg [⟨some 20,none,.mv (.t 5)⟩,⟨some 21,none,.faddr 1 (.t 2)⟩,⟨some 22,none,.load false 1 (.t 21)⟩,⟨some 23,none,.len false (.t 22)⟩,⟨some 24,none,.bin .lss false (.t 20) (.t 23)⟩]) (.cond (.t 24) .skip (.exit 0))) (.seq (.block 1 (.seq (.dreg [[],[0],[],[1,0,2],[3,1,0,2],[],[5],[],[6,5,7],[8,6,5,7],[4,3,1,0,2,9,8,6,5,7],[10,4,3,1,0,2,9,8,6,5,7]] [⟨some 27,none,.faddr 1 (.t 2)⟩,⟨some 28,none,.load false 1 (.t 27)⟩,⟨some 29,none,.mv (.t 5)⟩,⟨some 30,none,.iaddr 2 (.t 28) (.t 29)⟩,⟨some 31,none,.load true 2 (.t 30)⟩,⟨some 32,none,.faddr 1 (.t 3)⟩,⟨some 33,none,.load false 1 (.t 32)⟩,⟨some 34,none,.mv (.t 5)⟩,⟨some 35,none,.iaddr 2 (.t 33) (.t 34)⟩,⟨some 36,none,.load true 2 (.t 35)⟩,⟨some 37,none,.call 230 [(.t 31),(.t 36)]⟩,⟨some 38,none,.un .not (.t 37)⟩]) (.cond (.t 38) (.seq (.reg [⟨some 4,none,.mv (.c (.bool false))⟩]) .ret) .skip))) (.reg [⟨some 25,none,.mv (.t 5)⟩,⟨some 26,none,.bin .add false (.t 25) (.c (.int .i64 1))⟩,⟨some 5,none,.mv (.t 26)⟩])))))) (.seq (.reg [⟨some 4,none,.mv (.c (.bool true))⟩]) .ret))))
theorem Ja:codeOf Tryz.prog 230=some ⟨39,Gz,[(.tmp 4)]⟩:=by kernel_rfl
theorem Ai:modes 230=⟨[],.asis,none,false⟩:=by unfold modes; rfl
theorem QC {α:Type} {xs ys:List α} {k:Nat} (hx:k<xs.length) (hy:k<ys.length):xs.drop k=ys.drop k ↔ xs[k]=ys[k]∧xs.drop (k+1)=ys.drop (k+1):=by
 rw [zG hx,zG hy,List.cons.injEq]
theorem Yz (fid:Nat) (xs ys:List Tm) (hl:xs.length≤1099511627776) (hl':ys.length≤1099511627776) (hg:Ih Tryz.prog fid=true) (hm:(modes fid).hand=[]) (hE:∀ x∈xs,∀ y∈ys,E fid [x.sv,y.sv] []=some (.bool (dec (x=y)),[])):E 277 [.arr (xs.map Tm.d),.arr (ys.map Tm.d),.fn fid []] []=some (.bool (dec (xs=ys)),[]):=by
 by_cases hlen:xs.length=ys.length
 ·have hq:((xs.length:Int)=(ys.length:Int))=True:=by first | exact eq_true (by omega) | exact eq_false (by omega)
  refine Ad Bb AD (of_decide_eq_true rfl) ?_
  simp (disch:=omega) only [AC,go_sem,Aa,hq]
  refine go_loop (α:=Int) (fun a=>⟨slots 32 0 [(1,.arr (ys.map Tm.d)),(2,.fn fid []),(15,.arr (xs.map Tm.d)),(16,.int .i64 xs.length),(17,.int .i64 a)],[]⟩) (fun a=>∃ k:Nat,a=k∧k≤(xs).length∧dec (xs.drop k=ys.drop k)=dec (xs=ys)) (fun a=>(xs).length-(a).toNat) 0 ⟨0,rfl,zF _,by rw [zJ,zJ]⟩ (by simp (disch:=omega) only [go_sem,Aa]) ?_
  rintro i ⟨k,hi,hk,hR⟩
  have hni:i.toNat=k:=by omega
  have hni1:(i+1).toNat=k+1:=by omega
  rcases zB k (xs).length with hlt | hge
  ·have hgx:=get_at Tm.d hlt
   rw [Tm.d_eq] at hgx
   have hlt':k<ys.length:=by omega
   have hgy:=get_at Tm.d hlt'
   rw [Tm.d_eq] at hgy
   have hc:=hE xs[k] (zD hlt) ys[k] (zD hlt')
   rw [F6 (QC hlt hlt')] at hR
   by_cases h0:xs[k]=ys[k]
   ·rw [At h0] at hc
    rw [F6 (and_iff_right h0)] at hR
    simp (disch:=omega) only [go_sem,Aa,hni,hgx,hgy,hc,hg,hm]
    exact ⟨i+1,⟨k+1,by omega,hlt,hR⟩,by omega,by first | trivial | rfl⟩
   ·rw [Ay h0] at hc
    rw [Ay (fun h=>h0 h.1)] at hR
    simp (disch:=omega) only [go_sem,Aa,hni,hgx,hgy,hc,hg,hm]
    exact hR
  ·rw [zI hge,zI (by omega),DT] at hR
   simp (disch:=omega) only [go_sem,Aa,hni]
   exact hR
 ·have hq:((xs.length:Int)=(ys.length:Int))=False:=by first | exact eq_true (by omega) | exact eq_false (by omega)
  have he:dec (xs=ys)=false:=Ay fun h=>hlen (by rw [h])
  rw [he]
  refine Ad Bb AD (of_decide_eq_true rfl) ?_
  simp (disch:=omega) only [AC,go_sem,Aa,hq]
theorem Tm.eq_iff (x y:Tm):x=y ↔ x.name=y.name∧x.args=y.args:=by
 obtain ⟨n,a⟩:=x
 obtain ⟨m,b⟩:=y
 rw [Tm.mk.injEq]; rfl
theorem Ul (x:Tm) (y:Tm) (hnx:x.nodes≤1099511627776) (hny:y.nodes≤1099511627776) (ih:∀ x'∈x.args,∀ y':Tm,x'.nodes≤1099511627776→y'.nodes≤1099511627776→E 208 [x'.sv,y'.sv] []=some (.bool (dec (x'=y')),[])):E 208 [x.sv,y.sv] []=some (.bool (dec (x=y)),[]):=by
 have lx:=Tm.length_le x.args
 have ly:=Tm.length_le y.args
 have nx:=Tm.An x
 have ny:=Tm.An y
 have h6:=Yz 208 x.args y.args (by omega) (by omega) Oy (by rw [Ae]) fun x' hx' y' hy'=>ih x' hx' y' (by have:=Tm.AW hx'; omega) (by have:=Tm.AW hy'; omega)
 rw [F6 (Tm.eq_iff x y)]
 by_cases h0:x.name=y.name
 ·rw [F6 (and_iff_right h0)]
  have hq:(x.name=y.name)=True:=by simp [h0]
  refine Ad Iy Ae (of_decide_eq_true rfl) ?_
  simp (disch:=omega) only [FE,go_sem,Aa,hq,h6,AD]
 ·have hq:(x.name=y.name)=False:=by simp [h0]
  rw [Ay (fun h=>h0 h.1)]
  refine Ad Iy Ae (of_decide_eq_true rfl) ?_
  simp (disch:=omega) only [FE,go_sem,Aa,hq]
theorem EG (x y:Tm) (hnx:x.nodes≤1099511627776) (hny:y.nodes≤1099511627776):E 208 [x.sv,y.sv] []=some (.bool (dec (x=y)),[]) :=
 Ul x y hnx hny fun x' hx' y' h h'=>EG x' y' h h'
termination_by SizeOf.sizeOf x
decreasing_by exact Tm.lt_of_mem hx'
theorem Qcq (x:Tm) (y:Tm) (hnx:x.nodes≤1099511627776) (hny:y.nodes≤1099511627776) (ih:∀ x'∈x.args,∀ y':Tm,x'.nodes≤1099511627776→y'.nodes≤1099511627776→E 230 [x'.sv,y'.sv] []=some (.bool (dec (x'=y')),[])):E 230 [x.sv,y.sv] []=some (.bool (dec (x=y)),[]):=by
 have lx:=Tm.length_le x.args
 have ly:=Tm.length_le y.args
 have nx:=Tm.An x
 have ny:=Tm.An y
 rw [F6 (Tm.eq_iff x y)]
 by_cases h0:x.name=y.name
 ·rw [F6 (and_iff_right h0)]
  have hq:(x.name=y.name)=True:=by simp [h0]
  by_cases hlen:x.args.length=y.args.length
  ·have hq2:((x.args.length:Int)=(y.args.length:Int))=True:=by first | exact eq_true (by omega) | exact eq_false (by omega)
   refine Ad Ja Ai (of_decide_eq_true rfl) ?_
   simp (disch:=omega) only [Gz,go_sem,Aa,hq,hq2]
   refine go_loop (α:=Int) (fun a=>⟨slots 39 0 [(2,.ptr 0 0),(3,.ptr 1 0),(5,.int .i64 a)],[.box 33 [.str x.name,.arr (x.args.map Tm.d)],.box 33 [.str y.name,.arr (y.args.map Tm.d)]]⟩) (fun a=>∃ k:Nat,a=k∧k≤(x.args).length∧dec (x.args.drop k=y.args.drop k)=dec (x.args=y.args)) (fun a=>(x.args).length-(a).toNat) 0 ⟨0,rfl,zF _,by rw [zJ,zJ]⟩ (by simp (disch:=omega) only [go_sem,Aa]) ?_
   rintro i ⟨k,hi,hk,hR⟩
   have hni:i.toNat=k:=by omega
   have hni1:(i+1).toNat=k+1:=by omega
   rcases zB k (x.args).length with hlt | hge
   ·have hgx:=get_at Tm.d hlt
    rw [Tm.d_eq] at hgx
    have hlt':k<y.args.length:=by omega
    have hgy:=get_at Tm.d hlt'
    rw [Tm.d_eq] at hgy
    have hc:=ih x.args[k] (zD hlt) y.args[k] (by have:=Tm.AW (zD hlt); omega) (by have:=Tm.AW (zD hlt'); omega)
    rw [F6 (QC hlt hlt')] at hR
    by_cases h0:x.args[k]=y.args[k]
    ·rw [At h0] at hc
     rw [F6 (and_iff_right h0)] at hR
     simp (disch:=omega) only [go_sem,Aa,hni,hgx,hgy,hc,Ai]
     exact ⟨i+1,⟨k+1,by omega,hlt,hR⟩,by omega,by first | trivial | rfl⟩
    ·rw [Ay h0] at hc
     rw [Ay (fun h=>h0 h.1)] at hR
     simp (disch:=omega) only [go_sem,Aa,hni,hgx,hgy,hc,Ai]
     exact hR
   ·rw [zI hge,zI (by omega),DT] at hR
    simp (disch:=omega) only [go_sem,Aa,hni]
    exact hR
  ·have hq2:((x.args.length:Int)=(y.args.length:Int))=False:=by first | exact eq_true (by omega) | exact eq_false (by omega)
   have he:dec (x.args=y.args)=false:=Ay fun h=>hlen (by rw [h])
   rw [he]
   refine Ad Ja Ai (of_decide_eq_true rfl) ?_
   simp (disch:=omega) only [Gz,go_sem,Aa,hq,hq2]
 ·have hq:(x.name=y.name)=False:=by simp [h0]
  rw [Ay (fun h=>h0 h.1)]
  refine Ad Ja Ai (of_decide_eq_true rfl) ?_
  simp (disch:=omega) only [Gz,go_sem,Aa,hq]
theorem Lw (x y:Tm) (hnx:x.nodes≤1099511627776) (hny:y.nodes≤1099511627776):E 230 [x.sv,y.sv] []=some (.bool (dec (x=y)),[]) :=
 Qcq x y hnx hny fun x' hx' y' h h'=>Lw x' y' h h'
termination_by SizeOf.sizeOf x
decreasing_by exact Tm.lt_of_mem hx'
def Gl:SC:=(.seq (.reg [⟨some 2,none,.mv (.c .nil)⟩]) (.seq (.seq (.reg [⟨some 6,none,.mv (.t 0)⟩,⟨some 7,none,.len false (.t 6)⟩,⟨some 8,none,.bin .eql false (.t 7) (.c (.int .i64 0))⟩]) (.cond (.t 8) (.seq (.reg [⟨some 2,none,.mv (.c .nil)⟩]) .ret) .skip)) (.seq (.reg [⟨some 9,none,.mv (.t 0)⟩,⟨some 10,none,.len false (.t 9)⟩,⟨(some 11),none,(.mkslice 33 2 40 [(.str ⟨#[]⟩),.nil] (.t 10))⟩,⟨some 3,none,.mv (.t 11)⟩]) (.seq (.seq (.reg [⟨some 12,none,.mv (.t 0)⟩,⟨some 13,none,.len false (.t 12)⟩,⟨some 14,none,.mv (.c (.int .i64 0))⟩]) (.block 0 (.loop [0,0,0,1,0,0,0,0,0,0,0,0,1,1,1,0,0,0,0,0,0,0,0,0,0,0] (.seq (.reg [⟨some 15,none,.bin .lss false (.t 14) (.t 13)⟩]) (.seq (.cond (.t 15) .skip (.exit 0)) (.seq (.block 1 (.seq (.reg [⟨some 16,none,.mv (.t 14)⟩,⟨some 17,none,.iaddr 2 (.t 12) (.t 14)⟩,⟨some 18,none,.load true 2 (.t 17)⟩,⟨(some 5),none,(.alloc 33 [(.str ⟨#[]⟩),.nil])⟩,⟨some 4,none,.mv (.t 16)⟩,⟨none,none,(.store 2 (.t 5) (.t 18))⟩]) (.reg [⟨some 19,none,.mv (.t 3)⟩,⟨some 20,none,.mv (.t 4)⟩,⟨some 21,none,.load true 2 (.t 5)⟩,⟨some 22,none,.call 187 [(.t 21)]⟩,⟨some 23,none,.iaddr 2 (.t 19) (.t 20)⟩,⟨none,none,(.store 2 (.t 23) (.t 22))⟩]))) (.reg [⟨some 24,none,.bin .add false (.t 14) (.c (.int .i64 1))⟩,⟨some 14,none,.mv (.t 24)⟩]))))))) (.seq (.reg [⟨some 25,none,.mv (.t 3)⟩,⟨some 2,none,.mv (.t 25)⟩]) .ret)))))
theorem Jy:codeOf Tryz.prog 260=some ⟨26,Gl,[(.tmp 2)]⟩:=by kernel_rfl
theorem Gm:modes 260=⟨[],.own [some (33,2)],none,false⟩:=by unfold modes; rfl
def K3:SC:=(.seq (.reg [⟨some 1,none,.boxv 33 2 (.t 0)⟩,⟨(some 2),none,(.alloc 33 [(.str ⟨#[]⟩),.nil])⟩]) (.seq (.dreg [[],[0],[],[2],[3,2],[1,0,4,3,2],[5,1,0,4,3,2]] [⟨some 3,none,.faddr 0 (.t 1)⟩,⟨some 4,none,.load false 1 (.t 3)⟩,⟨some 5,none,.faddr 1 (.t 1)⟩,⟨some 6,none,.load false 1 (.t 5)⟩,⟨some 7,none,.call 260 [(.t 6)]⟩,⟨(some 8),none,(.build [(.str ⟨#[]⟩),.nil] [(0,(1,(.t 4))),(1,(1,(.t 7)))])⟩,⟨none,none,(.store 2 (.t 2) (.t 8))⟩]) .ret))
theorem QY:codeOf Tryz.prog 187=some ⟨9,K3,[(.cell 2 true 2)]⟩:=by kernel_rfl
theorem AZ:modes 187=⟨[],.asis,none,false⟩:=by unfold modes; rfl
def Oz:SC:=(.seq (.reg [⟨some 1,none,.boxv 33 2 (.t 0)⟩,⟨(some 2),none,(.alloc 33 [(.str ⟨#[]⟩),.nil])⟩]) (.seq (.reg [⟨some 5,none,.faddr 0 (.t 1)⟩,⟨some 6,none,.load false 1 (.t 5)⟩,⟨(some 7),none,(.build [(.str ⟨#[]⟩),.nil] [(0,(1,(.t 6)))])⟩,⟨(some 3),none,(.alloc 33 [(.str ⟨#[]⟩),.nil])⟩,⟨none,none,(.store 2 (.t 3) (.t 7))⟩]) (.seq (.seq (.reg [⟨some 4,none,.mv (.c (.int .i64 0))⟩]) (.block 0 (.loop [0,1,1,1,1,0,0,0,0,0,0,0,0,0,0,0,0,0,0,0,0,0,0,0,0,0,0] (.seq (.seq (.reg [⟨some 8,none,.mv (.t 4)⟩,⟨some 9,none,.faddr 1 (.t 1)⟩,⟨some 10,none,.load false 1 (.t 9)⟩,⟨some 11,none,.len false (.t 10)⟩,⟨some 12,none,.bin .lss false (.t 8) (.t 11)⟩]) (.cond (.t 12) .skip (.exit 0))) (.seq (.block 1 (.dreg [[],[0],[],[2],[],[3,2,4],[5,3,2,4],[6,5,3,2,4],[7,6,5,3,2,4],[1,0,8,7,6,5,3,2,4],[0,1,2,3,4,5,6,7,8,9],[10,0,1,2,3,4,5,6,7,8,9]] [⟨some 15,none,.faddr 1 (.t 3)⟩,⟨some 16,none,.load false 1 (.t 15)⟩,⟨some 17,none,.faddr 1 (.t 1)⟩,⟨some 18,none,.load false 1 (.t 17)⟩,⟨some 19,none,.mv (.t 4)⟩,⟨some 20,none,.iaddr 2 (.t 18) (.t 19)⟩,⟨some 21,none,.load true 2 (.t 20)⟩,⟨some 22,none,.call 135 [(.t 21)]⟩,⟨(some 23),none,(.mkrow 33 2 [(.str ⟨#[]⟩),.nil] 1 [(0,(.t 22))])⟩,⟨(some 24),none,(.append 33 2 40 [(.str ⟨#[]⟩),.nil] (.t 16) (.t 23))⟩,⟨some 25,none,.faddr 1 (.t 3)⟩,⟨none,none,(.store 1 (.t 25) (.t 24))⟩])) (.reg [⟨some 13,none,.mv (.t 4)⟩,⟨some 14,none,.bin .add false (.t 13) (.c (.int .i64 1))⟩,⟨some 4,none,.mv (.t 14)⟩])))))) (.seq (.reg [⟨some 26,none,.load true 2 (.t 3)⟩,⟨none,none,(.store 2 (.t 2) (.t 26))⟩]) .ret))))
theorem WT:codeOf Tryz.prog 135=some ⟨27,Oz,[(.cell 2 true 2)]⟩:=by kernel_rfl
theorem Cv:modes 135=⟨[],.frz,none,false⟩:=by unfold modes; rfl
theorem WU (xs:List Tm) (hl:xs.length≤1099511627776) (h:∀ x∈xs,E 187 [x.sv] []=some (x.osv,x.obs)):E 260 [.arr (xs.map Tm.d)] []=some (.ref 0,[.row 33 2 (xs.map Tm.o)]):=by
 cases xs with
 | nil =>
  refine Ad Jy Gm (of_decide_eq_true rfl) ?_
  simp (disch:=omega) only [Gl,go_sem,Aa]
 | cons x0 xs0 =>
 generalize hxs:x0 :: xs0=xs at *
 have hpos:0<xs.length:=by rw [←hxs]; simp
 refine Ad Jy Gm (of_decide_eq_true rfl) ?_
 simp (disch:=omega) only [Gl,go_sem,Aa]
 refine go_loop (α:=Int) (fun a=>⟨slots 26 0 [(3,.ref 0),(12,.arr (xs.map Tm.d)),(13,.int .i64 xs.length),(14,.int .i64 a)],[.row 33 2 (FW Tm.o [.str ⟨#[]⟩,.ow []] xs a.toNat)]⟩) (fun a=>∃ k:Nat,a=k∧k≤(xs).length) (fun a=>(xs).length-(a).toNat) 0 ⟨0,rfl,zF _⟩ (by simp (disch:=omega) only [go_sem,Aa,HM,yD]) ?_
 rintro i ⟨k,hi,hk⟩
 have hni:i.toNat=k:=by omega
 have hni1:(i+1).toNat=k+1:=by omega
 rcases zB k (xs).length with hlt | hge
 ·have hg:=get_at Tm.d hlt
  rw [Tm.d_eq] at hg
  have hz:=Jt Tm.o [.str ⟨#[]⟩,.ow []] hlt
  have hc:=h xs[k] (zD hlt)
  have hs:=Ju Tm.o [.str ⟨#[]⟩,.ow []] hlt
  rw [Tm.o_eq] at hs
  simp (disch:=omega) only [go_sem,Aa,hni,hg,hc,hz,Jr,AZ,Tm.osv,Tm.obs]
  refine ⟨i+1,⟨k+1,by omega,hlt⟩,by omega,?_⟩
  simp (disch:=omega) only [go_sem,Aa,hni1,hs]
 ·obtain rfl:k=xs.length:=by omega
  simp (disch:=omega) only [go_sem,Aa,hni,Js]
theorem Y0 (x:Tm) (h:E 260 [.arr (x.args.map Tm.d)] []=some (.ref 0,[.row 33 2 (x.args.map Tm.o)])):E 187 [x.sv] []=some (x.osv,x.obs):=by
 refine Ad QY AZ (of_decide_eq_true rfl) ?_
 simp (disch:=omega) only [K3,go_sem,Aa,h,Gm]
theorem Ke (x:Tm) (hn:x.nodes≤1099511627776):E 187 [x.sv] []=some (x.osv,x.obs) :=
 Y0 x (WU x.args (by have:=Tm.An x; have:=Tm.length_le x.args; omega) fun y hy=>Ke y (by have:=Tm.AW hy; have:=Tm.An x; omega))
termination_by SizeOf.sizeOf x
decreasing_by exact Tm.lt_of_mem hy
def Qgm (res:RM) (n0:Nat) (rs:List RX) (Q:SV × List Ob→Prop) (x:X) (st:St):Prop:=∃ out,Ug res n0 rs out x st∧Q out
theorem exq {α:Type} {a:α} {Q:α→Prop}:(∃ out,some a=some out∧Q out)=Q a:=propext ⟨fun ⟨o,h,q⟩=>by obtain rfl:=yP h; exact q,fun q=>⟨a,rfl,q⟩⟩
theorem QfI {res:RM} {n0:Nat} {rs:List RX} {Q:SV × List Ob→Prop} {sl:List SV} {ob:List Ob}:Qgm res n0 rs Q .ret ⟨sl,ob⟩=∃ out,Om res n0 ob (NQ ⟨sl,ob⟩ rs)=some out∧Q out:=rfl
theorem QfJ {res:RM} {n0:Nat} {rs:List RX} {Q:SV × List Ob→Prop} {sl:List SV} {ob:List Ob}:Qgm res n0 rs Q .normal ⟨sl,ob⟩=∃ out,Om res n0 ob (NQ ⟨sl,ob⟩ rs)=some out∧Q out:=rfl
attribute [go_sem] QfI QfJ exq
def Tm.osh (x:Tm):List OT:=[.str x.name,.sh (x.args.map Tm.d)]
theorem Tm.ST (x:Tm):x.osh=[.str x.name,.sh (x.args.map Tm.d)]:=rfl
theorem Tm.O0:∀ xs:List Tm,OT.AA (xs.map Tm.osh)=true
 | []=>rfl
 | x :: xs=>by rw [zK,Tm.ST]; simp [OT.AA,OT.CB,OT.full,Tm.O0 xs]
theorem Tm.WV:∀ xs:List Tm,OT.erss (xs.map Tm.osh)=xs.map Tm.d
 | []=>rfl
 | x :: xs=>by rw [zK,zK,Tm.ST,Tm.d_eq]; simp [OT.erss,OT.ers,OT.er,Tm.WV xs]
theorem DX {α β:Type} (f:α→β) {xs:List α} {k:Nat} (h:k<xs.length):(xs.take k).map f++[f xs[k]]=(xs.take (k+1)).map f:=by
 rw [yG h,yF]; rfl
theorem Qd4 (x:Tm) (hn:x.nodes≤1099511627776) (ih:∀ y∈x.args,E 135 [y.sv] []=some (y.sv,[])):E 135 [x.sv] []=some (x.sv,[]):=by
 have hl:=Tm.length_le x.args
 have hne:=Tm.An x
 have h10:((1:Int)=0)=False:=by simp
 have hfu:=Tm.O0 x.args
 have her:=Tm.WV x.args
 refine Ad WT Cv (of_decide_eq_true rfl) ?_
 simp (disch:=omega) only [Oz,go_sem,Aa]
 refine go_loop (α:=Int) (fun a=>⟨slots 27 0 [(1,.ptr 0 0),(2,.ptr 1 0),(3,.ptr 2 0),(4,.int .i64 a)],(if a=0 then [.box 33 [.str x.name,.arr (x.args.map Tm.d)],.box 33 [.str ⟨#[]⟩,.nil],.box 33 [.str x.name,.nil]] else [.box 33 [.str x.name,.arr (x.args.map Tm.d)],.box 33 [.str ⟨#[]⟩,.nil],.box 33 [.str x.name,.ref 3],.row 33 2 ((x.args.take a.toNat).map Tm.osh)])⟩) (fun a=>∃ k:Nat,a=k∧k≤(x.args).length) (fun a=>(x.args).length-(a).toNat) 0 ⟨0,rfl,zF _⟩ (by simp (disch:=omega) only [go_sem,Aa,eq_self,if_true]) ?_
 rintro i ⟨k,hi,hk⟩
 have hni:i.toNat=k:=by omega
 have hni1:(i+1).toNat=k+1:=by omega
 rcases zB k (x.args).length with hlt | hge
 ·have hg:=get_at Tm.d hlt
  rw [Tm.d_eq] at hg
  have hc:=ih x.args[k] (zD hlt)
  have hs:=DX Tm.osh hlt
  rw [Tm.ST] at hs
  rcases zH k with h0 | h0
  ·subst h0
   obtain rfl:i=0:=hi
   rw [z7,zL,zU] at hs
   simp (disch:=omega) only [go_sem,Aa,hni,hg,hc,Cv,eq_self,if_true]
   refine ⟨1,⟨1,rfl,hlt⟩,by omega,?_⟩
   simp (disch:=omega) only [go_sem,Aa,h10,if_false,hs]
  ·have hi0:(i=0)=False:=by simp; omega
   have hi1:(i+1=0)=False:=by simp; omega
   have htl:(x.args.take k).length=k:=by rw [zQ]; omega
   simp (disch:=omega) only [go_sem,Aa,hni,hg,hc,Cv,hi0,if_false,htl]
   refine ⟨i+1,⟨k+1,by omega,hlt⟩,by omega,?_⟩
   simp (disch:=omega) only [go_sem,Aa,hni1,hi1,if_false,hs]
 ·obtain rfl:k=x.args.length:=by omega
  have ht:x.args.take x.args.length=x.args:=zR
  rcases zH x.args.length with h0 | h0
  ·have hx:x.args=[]:=zE h0
   obtain rfl:i=0:=by omega
   simp (disch:=omega) only [go_sem,Aa,hni,hx,eq_self,if_true,zL,zY]
  ·have hi0:(i=0)=False:=by simp; omega
   simp (disch:=omega) only [go_sem,Aa,hni,hi0,if_false,ht,hfu,her]
theorem O1 (x:Tm) (hn:x.nodes≤1099511627776):E 135 [x.sv] []=some (x.sv,[]) :=
 Qd4 x hn fun y hy=>O1 y (by have:=Tm.AW hy; have:=Tm.An x; omega)
termination_by SizeOf.sizeOf x
decreasing_by exact Tm.lt_of_mem hy
def HU:SC:=(.seq (.reg [⟨some 1,none,.boxv 122 3 (.t 0)⟩,⟨(some 2),none,(.alloc 122 [(.bool false),(.str ⟨#[]⟩),.nil])⟩]) (.seq (.dreg [[],[0],[],[2],[3,2],[1,0,4,3,2],[5,1,0,4,3,2]] [⟨some 3,none,.faddr 0 (.t 1)⟩,⟨some 4,none,.load false 1 (.t 3)⟩,⟨some 5,none,.faddr 1 (.t 1)⟩,⟨some 6,none,.load true 2 (.t 5)⟩,⟨some 7,none,.call 187 [(.t 6)]⟩,⟨(some 8),none,(.build [(.bool false),(.str ⟨#[]⟩),.nil] [(0,(1,(.t 4))),(1,(2,(.t 7)))])⟩,⟨none,none,(.store 3 (.t 2) (.t 8))⟩]) .ret))
theorem N0:codeOf Tryz.prog 159=some ⟨9,HU,[(.cell 2 true 3)]⟩:=by kernel_rfl
theorem CT:modes 159=⟨[],.own [none,none,some (33,2)],none,false⟩:=by unfold modes; rfl
def HV:SC:=(.seq (.reg [⟨some 2,none,.boxv 122 3 (.t 0)⟩,⟨some 3,none,.boxv 122 3 (.t 1)⟩,⟨some 4,none,.mv (.c (.bool false))⟩]) (.seq (.reg [⟨some 5,none,.faddr 0 (.t 2)⟩,⟨some 6,none,.load false 1 (.t 5)⟩,⟨some 7,none,.faddr 0 (.t 3)⟩,⟨some 8,none,.load false 1 (.t 7)⟩,⟨some 9,none,.bin .eql true (.t 6) (.t 8)⟩,⟨some 10,none,.mv (.t 9)⟩,⟨(some 11),(some (10,true)),(.faddr 1 (.t 2))⟩,⟨(some 12),(some (10,true)),(.load true 2 (.t 11))⟩,⟨(some 13),(some (10,true)),(.faddr 1 (.t 3))⟩,⟨(some 14),(some (10,true)),(.load true 2 (.t 13))⟩,⟨(some 15),(some (10,true)),(.call 208 [(.t 12),(.t 14)])⟩,⟨some 16,none,.pick (.t 10) (.t 15) (.c (.bool false))⟩,⟨some 4,none,.mv (.t 16)⟩]) .ret))
theorem N1:codeOf Tryz.prog 217=some ⟨17,HV,[(.tmp 4)]⟩:=by kernel_rfl
theorem N2:modes 217=⟨[],.asis,none,false⟩:=by unfold modes; rfl
def K4:SC:=(.seq (.reg [⟨some 2,none,.alloc 60 [.nil]⟩]) (.seq (.reg [⟨some 6,none,.build [.nil] []⟩,⟨some 3,none,.alloc 60 [.nil]⟩,⟨none,none,(.store 1 (.t 3) (.t 6))⟩]) (.seq (.seq (.reg [⟨some 7,none,.mv (.t 0)⟩,⟨some 8,none,.len false (.t 7)⟩,⟨some 9,none,.mv (.c (.int .i64 0))⟩]) (.block 0 (.loop [0,0,1,1,0,0,0,1,1,1,0,0,0,0,0,0,0,0,0,0,0,0,0,0,0,0,0,0,0] (.seq (.reg [⟨some 10,none,.bin .lss false (.t 9) (.t 8)⟩]) (.seq (.cond (.t 10) .skip (.exit 0)) (.seq (.block 1 (.seq (.reg [⟨some 11,none,.iaddr 3 (.t 7) (.t 9)⟩,⟨some 12,none,.load true 3 (.t 11)⟩,⟨(some 5),none,(.alloc 122 [(.bool false),(.str ⟨#[]⟩),.nil])⟩,⟨none,none,(.store 3 (.t 5) (.t 12))⟩]) (.dreg [[],[0],[],[2],[3,2],[1,0,4,3,2],[0,1,2,3,4,5],[6,0,1,2,3,4,5]] [⟨some 13,none,.faddr 0 (.t 3)⟩,⟨some 14,none,.load false 1 (.t 13)⟩,⟨some 15,none,.load true 3 (.t 5)⟩,⟨some 16,none,.call 159 [(.t 15)]⟩,⟨(some 17),none,(.mkrow 122 3 [(.bool false),(.str ⟨#[]⟩),.nil] 1 [(0,(.t 16))])⟩,⟨(some 18),none,(.append 122 3 48 [(.bool false),(.str ⟨#[]⟩),.nil] (.t 14) (.t 17))⟩,⟨some 19,none,.faddr 0 (.t 3)⟩,⟨none,none,(.store 1 (.t 19) (.t 18))⟩]))) (.reg [⟨some 20,none,.bin .add false (.t 9) (.c (.int .i64 1))⟩,⟨some 9,none,.mv (.t 20)⟩]))))))) (.seq (.reg [⟨some 21,none,.faddr 0 (.t 3)⟩,⟨some 22,none,.load false 1 (.t 21)⟩,⟨some 23,none,.call 287 [(.t 22),(.c (.fn 203 []))]⟩]) (.seq (.reg [⟨some 24,none,.faddr 0 (.t 3)⟩,⟨some 25,none,.load false 1 (.t 24)⟩,⟨some 26,none,.call 288 [(.t 25),(.c (.fn 217 []))]⟩,⟨some 27,none,.faddr 0 (.t 3)⟩,⟨none,none,(.store 1 (.t 27) (.t 26))⟩]) (.seq (.reg [⟨some 28,none,.load true 1 (.t 3)⟩,⟨none,none,(.store 1 (.t 2) (.t 28))⟩]) .ret))))))
theorem QZ:codeOf Tryz.prog 222=some ⟨29,K4,[(.cell 2 true 1)]⟩:=by kernel_rfl
theorem Dg:modes 222=⟨[],.own [some (122,3)],none,false⟩:=by unfold modes; rfl
def MW:SC:=(.seq (.reg [⟨some 2,none,.alloc 60 [.nil]⟩]) (.seq (.reg [⟨(some 7),none,(.mkrow 122 3 [(.bool false),(.str ⟨#[]⟩),.nil] 0 [])⟩,⟨some 3,none,.mv (.t 7)⟩]) (.seq (.seq (.reg [⟨some 4,none,.mv (.c (.int .i64 0))⟩]) (.block 0 (.loop [1,0,1,1,1,0,0,0,0,0,0,0,0,0,0,0,0,0,0,0,0,0,0,0,0,0,0,0,0,0,0,0,0,0,0,0,0,0,0,0,0,0,0,0,0,0,0,0,0,0,0,0,0,0,0,0,0,0,0,0,0,0,0,0,0,0,0,0,0,0,0,0,0,0] (.seq (.seq (.reg [⟨some 8,none,.mv (.t 4)⟩,⟨some 9,none,.mv (.t 0)⟩,⟨some 10,none,.len false (.t 9)⟩,⟨some 11,none,.bin .lss false (.t 8) (.t 10)⟩]) (.cond (.t 11) .skip (.exit 0))) (.seq (.block 1 (.seq (.reg [⟨some 5,none,.mv (.c (.int .i64 0))⟩]) (.seq (.block 2 (.loop [1,0,1,1,1,1,0,0,0,0,0,0,0,0,0,0,0,0,0,0,0,0,0,0,0,0,0,0,0,0,0,0,0,0,0,0,0,0,0,0,0,0,0,0,0,0,0,0,0,0,0,0,0,0,0,0,0,0,0,0,0,0,0,0,0,0,0,0,0,0,0,0,0,0] (.seq (.seq (.dreg [[],[],[1],[0,2,1],[3,0,2,1],[4,3,0,2,1],[4,3,0,2,1],[5,4,3,0,2,1,6],[7,5,4,3,0,2,1,6],[4,3,0,2,1],[4,3,0,2,1],[9,4,3,0,2,1,10],[11,9,4,3,0,2,1,10],[8,7,5,4,3,0,2,1,6,12,11,9,10],[13,8,7,5,4,3,0,2,1,6,12,11,9,10],[4,3,0,2,1,14,13,8,7,5,6,12,11,9,10]] [⟨some 14,none,.mv (.t 5)⟩,⟨some 15,none,.mv (.t 3)⟩,⟨some 16,none,.len false (.t 15)⟩,⟨some 17,none,.bin .lss false (.t 14) (.t 16)⟩,⟨some 18,none,.mv (.t 17)⟩,⟨(some 19),(some (18,true)),(.mv (.t 3))⟩,⟨(some 20),(some (18,true)),(.mv (.t 5))⟩,⟨(some 21),(some (18,true)),(.iaddr 3 (.t 19) (.t 20))⟩,⟨(some 22),(some (18,true)),(.load true 3 (.t 21))⟩,⟨(some 23),(some (18,true)),(.mv (.t 0))⟩,⟨(some 24),(some (18,true)),(.mv (.t 4))⟩,⟨(some 25),(some (18,true)),(.iaddr 3 (.t 23) (.t 24))⟩,⟨(some 26),(some (18,true)),(.load true 3 (.t 25))⟩,⟨(some 27),(some (18,true)),(.call 195 [(.t 22),(.t 26)])⟩,⟨(some 28),(some (18,true)),(.bin .lss false (.t 27) (.c (.int .i64 0)))⟩,⟨some 29,none,.pick (.t 18) (.t 28) (.c (.bool false))⟩]) (.cond (.t 29) .skip (.exit 2))) (.block 3 (.reg [⟨some 30,none,.mv (.t 5)⟩,⟨some 31,none,.bin .add false (.t 30) (.c (.int .i64 1))⟩,⟨some 5,none,.mv (.t 31)⟩]))))) (.seq (.seq (.dreg [[],[],[1],[0,2,1],[3,0,2,1],[4,3,0,2,1],[4,3,0,2,1],[5,4,3,0,2,1,6],[7,5,4,3,0,2,1,6],[4,3,0,2,1],[4,3,0,2,1],[9,4,3,0,2,1,10],[11,9,4,3,0,2,1,10],[8,7,5,4,3,0,2,1,6,12,11,9,10],[13,8,7,5,4,3,0,2,1,6,12,11,9,10],[4,3,0,2,1,14,13,8,7,5,6,12,11,9,10]] [⟨some 32,none,.mv (.t 5)⟩,⟨some 33,none,.mv (.t 3)⟩,⟨some 34,none,.len false (.t 33)⟩,⟨some 35,none,.bin .lss false (.t 32) (.t 34)⟩,⟨some 36,none,.mv (.t 35)⟩,⟨(some 37),(some (36,true)),(.mv (.t 3))⟩,⟨(some 38),(some (36,true)),(.mv (.t 5))⟩,⟨(some 39),(some (36,true)),(.iaddr 3 (.t 37) (.t 38))⟩,⟨(some 40),(some (36,true)),(.load true 3 (.t 39))⟩,⟨(some 41),(some (36,true)),(.mv (.t 0))⟩,⟨(some 42),(some (36,true)),(.mv (.t 4))⟩,⟨(some 43),(some (36,true)),(.iaddr 3 (.t 41) (.t 42))⟩,⟨(some 44),(some (36,true)),(.load true 3 (.t 43))⟩,⟨(some 45),(some (36,true)),(.call 195 [(.t 40),(.t 44)])⟩,⟨(some 46),(some (36,true)),(.bin .eql false (.t 45) (.c (.int .i64 0)))⟩,⟨some 47,none,.pick (.t 36) (.t 46) (.c (.bool false))⟩]) (.cond (.t 47) (.exit 1) .skip)) (.seq (.dreg [[],[],[0,1],[2,0,1],[3,2,0,1],[],[],[5,6],[7,5,6],[8,7,5,6],[9,8,7,5,6],[4,3,2,0,1,10,9,8,7,5,6],[],[12,11,4,3,2,0,1,10,9,8,7,5,6]] [⟨some 48,none,.mv (.t 0)⟩,⟨some 49,none,.mv (.t 4)⟩,⟨some 50,none,.iaddr 3 (.t 48) (.t 49)⟩,⟨some 51,none,.faddr 0 (.t 50)⟩,⟨some 52,none,.load false 1 (.t 51)⟩,⟨some 53,none,.mv (.t 0)⟩,⟨some 54,none,.mv (.t 4)⟩,⟨some 55,none,.iaddr 3 (.t 53) (.t 54)⟩,⟨some 56,none,.faddr 1 (.t 55)⟩,⟨some 57,none,.load true 2 (.t 56)⟩,⟨some 58,none,.call 135 [(.t 57)]⟩,⟨(some 59),none,(.build [(.bool false),(.str ⟨#[]⟩),.nil] [(0,(1,(.t 52))),(1,(2,(.t 58)))])⟩,⟨(some 6),none,(.alloc 122 [(.bool false),(.str ⟨#[]⟩),.nil])⟩,⟨none,none,(.store 3 (.t 6) (.t 59))⟩]) (.dreg [[],[],[],[1,2],[0,3,1,2],[],[5],[4,0,3,1,2,6,5],[],[],[8,9],[7,4,0,3,1,2,6,5,10,8,9],[11,7,4,0,3,1,2,6,5,10,8,9]] [⟨(some 60),none,(.mkrow 122 3 [(.bool false),(.str ⟨#[]⟩),.nil] 0 [])⟩,⟨some 61,none,.mv (.t 3)⟩,⟨some 62,none,.mv (.t 5)⟩,⟨some 63,none,.slice false 3 (.t 61) none (some (.t 62))⟩,⟨(some 64),none,(.append 122 3 48 [(.bool false),(.str ⟨#[]⟩),.nil] (.t 60) (.t 63))⟩,⟨some 65,none,.load true 3 (.t 6)⟩,⟨(some 66),none,(.mkrow 122 3 [(.bool false),(.str ⟨#[]⟩),.nil] 1 [(0,(.t 65))])⟩,⟨(some 67),none,(.append 122 3 48 [(.bool false),(.str ⟨#[]⟩),.nil] (.t 64) (.t 66))⟩,⟨some 68,none,.mv (.t 3)⟩,⟨some 69,none,.mv (.t 5)⟩,⟨some 70,none,.slice false 3 (.t 68) (some (.t 69)) none⟩,⟨(some 71),none,(.append 122 3 48 [(.bool false),(.str ⟨#[]⟩),.nil] (.t 67) (.t 70))⟩,⟨some 3,none,.mv (.t 71)⟩])))))) (.reg [⟨some 12,none,.mv (.t 4)⟩,⟨some 13,none,.bin .add false (.t 12) (.c (.int .i64 1))⟩,⟨some 4,none,.mv (.t 13)⟩])))))) (.seq (.reg [⟨some 72,none,.mv (.t 3)⟩,⟨some 73,none,.build [.nil] [(0,(1,(.t 72)))]⟩,⟨none,none,(.store 1 (.t 2) (.t 73))⟩]) .ret))))
theorem Um:codeOf Tryz.prog 218=some ⟨74,MW,[(.cell 2 true 1)]⟩:=by kernel_rfl
theorem Dt:modes 218=⟨[],.frl [10],none,false⟩:=by unfold modes; rfl
theorem MX (x:Lt) (hn:x.atom.nodes≤1099511627776):E 159 [x.sv] []=some (x.osv,x.obs):=by
 have h:=Ke x.atom hn
 refine Ad N0 CT (of_decide_eq_true rfl) ?_
 simp (disch:=omega) only [HU,go_sem,Aa,h,AZ,Tm.osv,Tm.obs]
theorem Lt.QfK (x y:Lt):dec (x=y)=(bif TX x.pos y.pos then dec (x.atom=y.atom) else false):=by
 obtain ⟨p,a⟩:=x
 obtain ⟨q,b⟩:=y
 have e:((⟨p,a⟩:Lt)=⟨q,b⟩) ↔ (p=q∧a=b):=by rw [Lt.mk.injEq]
 rw [F6 e]
 cases p <;> cases q
 ·show _=dec (a=b)
  exact F6 (and_iff_right rfl)
 ·exact Ay fun h=>by cases h.1
 ·exact Ay fun h=>by cases h.1
 ·show _=dec (a=b)
  exact F6 (and_iff_right rfl)
theorem Un (x y:Lt) (hnx:x.atom.nodes≤1099511627776) (hny:y.atom.nodes≤1099511627776):E 217 [x.sv,y.sv] []=some (.bool (dec (x=y)),[]):=by
 have h:=EG x.atom y.atom hnx hny
 have b1:(false == true)=false:=rfl
 have b2:(true == false)=false:=rfl
 rw [Lt.QfK]
 cases hp:x.pos <;> cases hq:y.pos
 all_goals
  refine Ad N1 N2 (of_decide_eq_true rfl) ?_
  simp (disch:=omega) only [HV,go_sem,Aa,h,hp,hq,b1,b2,TX,Ae]
def Lt.fine (x:Lt):Prop:=x.atom.cok=true∧x.atom.nodes≤1099511627776
theorem AL:modes 287=⟨[true],.asis,some Is,false⟩:=by unfold modes; rfl
theorem QeP (t:TypeId) (l:List Lt) (hl:l.length≤1099511627776) (hc:∀ x∈l,x.fine):E 287 [.ref 0,.fn 203 []] [.row t 3 (l.map Lt.o)]=some (.tup [],[.row t 3 ((NZ l).map Lt.o)]):=by
 rw [GT (g:=Is) (congrArg FM.ext AL)]
 unfold Is
 simp only
 rw [At ⟨by first | trivial | rfl,by first | trivial | rfl,by simpa using hl,l,rfl,fun x hx y hy=>Ox x y (hc x hx).1 (hc y hy).1 (hc x hx).2 (hc y hy).2⟩,cond_true,Rr]
theorem Qcr:E 287 [.nil,.fn 203 []] []=some (.tup [],[]):=by
 rw [GT (g:=Is) (congrArg FM.ext AL)]
 unfold Is
 simp only
 rw [At (by first | trivial | rfl),cond_true]
theorem AF:modes 288=⟨[true],.asis,some Ex,false⟩:=by unfold modes; rfl
theorem Qas (t:TypeId) (l:List Lt) (hl:l.length≤1099511627776) (hc:∀ x∈l,x.fine):E 288 [.ref 0,.fn 217 []] [.row t 3 (l.map Lt.o)]=some (.ref 1,[.gone,.row t 3 ((HK l).map Lt.o)]):=by
 rw [GT (g:=Ex) (congrArg FM.ext AF)]
 unfold Ex
 simp only
 rw [At ⟨by first | trivial | rfl,by first | trivial | rfl,by simpa using hl,l,rfl,fun x hx y hy=>E_told (Un x y (hc x hx).2 (hc y hy).2)⟩,cond_true,Rr]
theorem WW:E 288 [.nil,.fn 217 []] []=some (.nil,[]):=by
 rw [GT (g:=Ex) (congrArg FM.ext AF)]
 unfold Ex
 simp only
 rw [At (by first | trivial | rfl),cond_true]
noncomputable def mkC (l:List Lt):Cl:=⟨HK (NZ l)⟩
theorem QeQ:(mkC []).lits=[]:=by
 have e0:NZ []=[]:=List.mergeSort_nil
 unfold mkC
 rw [e0]; rfl
theorem N3 (l:List Lt):Dl (mkC l).lits:=Wx (Q7 l)
theorem R7 (l:List Lt) (z:Lt):z∈(mkC l).lits ↔ z∈l:=by
 show z∈HK (NZ l) ↔ _
 rw [Qce]
 exact (Hw l).mem_iff
theorem Qbq (l:List Lt):(mkC l).lits.length≤l.length:=by
 show (HK (NZ l)).length≤_
 rw [P7]
 have:=Qbd (HJ (NZ l)) (NZ l).length
 rw [(Hw l).length_eq] at this
 exact Nat.le_trans (by rw [(Hw l).length_eq]; exact zO _) this
theorem SU (l:List Lt) (hl:l.length≤1048576) (hf:∀ x∈l,x.fine):E 222 [.arr (l.map Lt.d)] []=some ((mkC l).osv,(mkC l).obs):=by
 have h10:((1:Int)=0)=False:=by simp
 have hsn:=Qcr
 have hcn:=WW
 have hs1:=QeP 122 l (by omega) hf
 have hs2:=Qas 122 (NZ l) (by rw [(Hw l).length_eq]; omega) (fun x hx=>hf x ((Hw l).mem_iff.1 hx))
 refine Ad QZ Dg (of_decide_eq_true rfl) ?_
 simp (disch:=omega) only [K4,go_sem,Aa]
 refine go_loop (α:=Int) (fun a=>⟨slots 29 0 [(2,.ptr 0 0),(3,.ptr 1 0),(7,.arr (l.map Lt.d)),(8,.int .i64 l.length),(9,.int .i64 a)],(if a=0 then [.box 60 [.nil],.box 60 [.nil]] else [.box 60 [.nil],.box 60 [.ref 2],.row 122 3 ((l.take a.toNat).map Lt.o)])⟩) (fun a=>∃ k:Nat,a=k∧k≤(l).length) (fun a=>(l).length-(a).toNat) 0 ⟨0,rfl,zF _⟩ (by simp (disch:=omega) only [go_sem,Aa,eq_self,if_true]) ?_
 rintro i ⟨k,hi,hk⟩
 have hni:i.toNat=k:=by omega
 have hni1:(i+1).toNat=k+1:=by omega
 rcases zB k (l).length with hlt | hge
 ·have hg:=get_at Lt.d hlt
  rw [Lt.d_eq] at hg
  have hc:=MX l[k] (hf _ (zD hlt)).2
  have hs:=DX Lt.o hlt
  rw [Lt.o_eq] at hs
  rcases zH k with h0 | h0
  ·subst h0
   obtain rfl:i=0:=hi
   rw [z7,zL,zU] at hs
   simp (disch:=omega) only [go_sem,Aa,hni,hg,hc,CT,eq_self,if_true]
   refine ⟨1,⟨1,rfl,hlt⟩,by omega,?_⟩
   simp (disch:=omega) only [go_sem,Aa,h10,if_false,hs]
  ·have hi0:(i=0)=False:=by simp; omega
   have hi1:(i+1=0)=False:=by simp; omega
   have htl:(l.take k).length=k:=by rw [zQ]; omega
   simp (disch:=omega) only [go_sem,Aa,hni,hg,hc,CT,hi0,if_false,htl]
   refine ⟨i+1,⟨k+1,by omega,hlt⟩,by omega,?_⟩
   simp (disch:=omega) only [go_sem,Aa,hni1,hi1,if_false,hs]
 ·obtain rfl:k=l.length:=by omega
  have ht:l.take l.length=l:=zR
  rcases zH l.length with h0 | h0
  ·have hx:l=[]:=zE h0
   obtain rfl:i=0:=by omega
   have hm:(mkC l).lits=[]:=by rw [hx]; exact QeQ
   simp (disch:=omega) only [go_sem,Aa,hni,eq_self,if_true,hsn,hcn,hm,zL,AL,AF]
  ·have hi0:(i=0)=False:=by simp; omega
   have hm:(HK (NZ l))=(mkC l).lits:=rfl
   simp (disch:=omega) only [go_sem,Aa,hni,hi0,if_false,ht,hs1,hs2,hm,AL,AF]
noncomputable def Dy:List Lt→Lt→Nat
 | [],_=>0
 | y :: r,x=>if y.cmp x < 0 then Dy r x+1 else 0
noncomputable def Ik:List Lt→Lt→List Lt
 | [],x=>[x]
 | y :: r,x=>if y.cmp x < 0 then y :: Ik r x else if y.cmp x=0 then y :: r else x :: y :: r
theorem Qbr (x:Lt):∀ xs:List Lt,Dy xs x≤xs.length
 | []=>zO _
 | y :: r=>by
  rw [Dy]
  have:=Qbr x r
  split <;> simp <;> omega
theorem Qcs {xs:List Lt} {x:Lt} {k:Nat} (h:k+Dy (xs.drop k) x=Dy xs x) (hk:k<xs.length):(xs[k].cmp x<0∧k+1+Dy (xs.drop (k+1)) x=Dy xs x)∨(¬ xs[k].cmp x<0∧k=Dy xs x):=by
 rw [zG hk,Dy] at h
 by_cases hq:xs[k].cmp x<0
 ·rw [if_pos hq] at h; exact .inl ⟨hq,by omega⟩
 ·rw [if_neg hq] at h; exact .inr ⟨hq,by omega⟩
theorem SW {x:Lt}:∀ {xs:List Lt} (hlt:Dy xs x<xs.length),xs[Dy xs x].cmp x=0→Ik xs x=xs
 | [],hlt,_=>by simp at hlt
 | y :: r,hlt,h=>by
  rw [Ik]
  by_cases hq:y.cmp x<0
  ·have e:Dy (y :: r) x=Dy r x+1:=by rw [Dy,if_pos hq]
   rw [if_pos hq]
   simp only [e,zP,yR] at hlt h
   rw [SW (by omega) h]
  ·have e:Dy (y :: r) x=0:=by rw [Dy,if_neg hq]
   simp only [e,yS] at h
   rw [if_neg hq,if_pos h]
theorem SY {x:Lt}:∀ {xs:List Lt},(∀ hlt:Dy xs x<xs.length,xs[Dy xs x].cmp x≠0)→Ik xs x=xs.take (Dy xs x)++[x]++xs.drop (Dy xs x)
 | [],_=>rfl
 | y :: r,h=>by
  rw [Ik]
  by_cases hq:y.cmp x<0
  ·have e:Dy (y :: r) x=Dy r x+1:=by rw [Dy,if_pos hq]
   rw [if_pos hq,e,List.take_succ_cons,List.drop_succ_cons,yB,yB]
   rw [SY fun hlt=>?_]
   have:=h (by rw [e]; simpa using hlt)
   simp only [e,yR] at this
   exact this
  ·have e:Dy (y :: r) x=0:=by rw [Dy,if_neg hq]
   have:=h (by rw [e]; simp)
   simp only [e,yS] at this
   rw [if_neg hq,if_neg this,e]
   rfl
theorem O2 (x z:Lt):∀ xs:List Lt,z∈Ik xs x ↔ z=x∨z∈xs
 | []=>by simp [Ik]
 | y :: r=>by
  rw [Ik]
  split
  ·rw [yL,O2 x z r,yL]
   constructor
   ·rintro (h | h | h) <;> simp [h]
   ·rintro (h | h | h) <;> simp [h]
  ·split
   ·rename_i h0
    have e:y=x:=(Lt.cmp_ord y x x).zero.1 h0
    subst e
    simp
   ·simp
theorem QD (x:Lt):∀ {xs:List Lt},Dl xs→Dl (Ik xs x)
 | [],_=>List.pairwise_singleton _ _
 | y :: r,h=>by
  obtain ⟨h1,h2⟩:=zZ.1 h
  rw [Ik]
  split
  ·rename_i hq
   refine zZ.2 ⟨fun z hz=>?_,QD x h2⟩
   rcases (O2 x z r).1 hz with rfl | hz
   ·exact hq
   ·exact h1 z hz
  ·split
   ·exact h
   ·rename_i hq h0
    have ha:=(Lt.cmp_ord y x x).anti
    have hxy:x.cmp y<0:=by omega
    refine zZ.2 ⟨fun z hz=>?_,h⟩
    rcases yL.1 hz with rfl | hz
    ·exact hxy
    ·exact (Lt.cmp_ord x y z).trans hxy (h1 z hz)
theorem Y1 (x:Lt):∀ xs:List Lt,(Ik xs x).length≤xs.length+1
 | []=>zO _
 | y :: r=>by
  rw [Ik]
  have:=Y1 x r
  split
  ·simpa using this
  ·split <;> simp
noncomputable def Lx (out l:List Lt):List Lt:=l.foldl Ik out
theorem Vr (z:Lt):∀ (l out:List Lt),z∈Lx out l ↔ z∈out∨z∈l
 | [],out=>by simp [Lx]
 | x :: l,out=>by
  show z∈Lx (Ik out x) l ↔ _
  rw [Vr z l,O2,yL]
  constructor
  ·rintro ((h | h) | h) <;> simp [h]
  ·rintro (h | h | h) <;> simp [h]
theorem O3:∀ (l:List Lt) {out:List Lt},Dl out→Dl (Lx out l)
 | [],_,h=>h
 | x :: l,_,h=>O3 l (QD x h)
theorem Qct (l:List Lt):Lx [] l=(mkC l).lits:=JV (O3 l xA) (N3 l) fun z=>by
 rw [Vr,R7]; simp
theorem Lt.ot_take (xs:List Lt) (k:Nat):((xs.map Lt.d).take k).map (fun x=>x.map D.ot)=(xs.take k).map fun b=>b.d.map D.ot:=by
 rw [←List.map_take,yN]; rfl
theorem Lt.ot_drop (xs:List Lt) (k:Nat):((xs.map Lt.d).drop k).map (fun x=>x.map D.ot)=(xs.drop k).map fun b=>b.d.map D.ot:=by
 rw [←List.map_drop,yN]; rfl
theorem Lt.al3 (xs:List Lt):((xs.map fun b=>b.d.map D.ot).all fun l=>l.length == 3)=true:=by
 rw [List.all_map,zN]
 intro x _
 show ((x.d.map D.ot).length == 3)=true
 rw [Lt.d_eq]; rfl
theorem Lt.ald3 (xs:List Lt):((xs.map Lt.d).all fun l=>l.length == 3)=true:=by
 rw [List.all_map,zN]
 intro x _
 show (x.d.length == 3)=true
 rw [Lt.d_eq]; rfl
theorem Lt.dfu:∀ xs:List Lt,OT.AA (xs.map fun b=>b.d.map D.ot)=true
 | []=>rfl
 | x :: xs=>by rw [zK,Lt.d_eq]; simp [OT.AA,OT.CB,OT.full,D.ot,Lt.dfu xs]
theorem Lt.der:∀ xs:List Lt,OT.erss (xs.map fun b=>b.d.map D.ot)=xs.map Lt.d
 | []=>rfl
 | x :: xs=>by rw [zK,zK,Lt.d_eq]; simp [OT.erss,OT.ers,OT.er,D.ot,Lt.der xs]
theorem SZ (l:List Lt) (hl:l.length≤1048576) (hf:∀ x∈l,x.fine):E 218 [.arr (l.map Lt.d)] []=some ((mkC l).sv,[]):=by
 have hsv:(mkC l).sv=.agg [.arr ((Lx [] l).map Lt.d)]:=by rw [Qct]
 rw [hsv]
 refine Ad Um Dt (of_decide_eq_true rfl) ?_
 simp (disch:=omega) only [MW,go_sem,Aa]
 refine go_loop (α:=Int × List Lt) (fun a=>⟨slots 74 0 [(0,.arr (l.map Lt.d)),(2,.ptr 0 0),(3,.arr (a.2.map Lt.d)),(4,.int .i64 a.1)],[.box 60 [.nil]]⟩) (fun a=>∃ k:Nat,a.1=k∧k≤l.length∧Lx a.2 (l.drop k)=Lx [] l∧a.2.length≤k∧∀ y∈a.2,y.fine) (fun a=>l.length-a.1.toNat) (0,[]) ⟨0,rfl,zF _,by rw [zJ],zO _,fun y hy=>by cases hy⟩ (by simp (disch:=omega) only [go_sem,Aa]) ?_
 rintro ⟨i,out⟩ ⟨k,hi,hk,hR,hol,hof⟩
 dsimp only at hi hR hol hof
 have hni:i.toNat=k:=by omega
 rcases zB k l.length with hlt | hge
 ·have hg:=get_at Lt.d hlt
  rw [Lt.d_eq] at hg
  have hxf:=hf l[k] (zD hlt)
  have hxn:∀ out2:List Lt,Ik out l[k]=out2→Lx out2 (l.drop (k+1))=Lx [] l:=fun out2 h=>by
   rw [zG hlt] at hR
   rw [←h]
   exact hR
  simp (disch:=omega) only [go_sem,Aa,hni,hg]
  refine go_loop (α:=Int) (fun a=>⟨slots 74 0 [(0,.arr (l.map Lt.d)),(2,.ptr 0 0),(3,.arr (out.map Lt.d)),(4,.int .i64 i),(5,.int .i64 a)],[.box 60 [.nil]]⟩) (fun a=>∃ m:Nat,a=m∧m≤out.length∧m+Dy (out.drop m) l[k]=Dy out l[k]) (fun a=>out.length-a.toNat) 0 ⟨0,rfl,zF _,by rw [zJ,Nat.zero_add]⟩ (by simp (disch:=omega) only [go_sem,Aa]) ?_
  rintro j ⟨m,hj,hm,hR2⟩
  have hnj:j.toNat=m:=by omega
  have ho:=O1 l[k].atom hxf.2
  have e1:=Lt.ot_take out (Dy out l[k])
  have e2:=Lt.ot_drop out (Dy out l[k])
  have e3:=Lt.al3 (out.take (Dy out l[k]))
  have e4:=Lt.al3 (out.drop (Dy out l[k]))
  have e5:=Lt.ald3 out
  have l1:=Qbr l[k] out
  have e6:(out.map Lt.d).take out.length=out.map Lt.d:=yI (by simp)
  have e7:(out.take (Dy out l[k])).length=Dy out l[k]:=by rw [zQ]; omega
  have e8:(out.drop (Dy out l[k])).length=out.length-Dy out l[k]:=List.length_drop
  have hfu:=Lt.dfu (Ik out l[k])
  have her:=Lt.der (Ik out l[k])
  have hpl:=Y1 l[k] out
  have hpf:∀ y∈Ik out l[k],y.fine:=fun y hy=>by
   rcases (O2 l[k] y out).1 hy with rfl | hy
   ·exact hxf
   ·exact hof y hy
  rcases zB m out.length with hltm | hgem
  ·have hgm:=get_at Lt.d hltm
   rw [Lt.d_eq] at hgm
   have hof2:=hof out[m] (zD hltm)
   have hc:=Ow out[m] l[k] hof2.1 hxf.1 hof2.2 hxf.2
   rcases Qcs hR2 hltm with ⟨q,hR'⟩ | ⟨q,hm'⟩
   ·simp (disch:=omega) only [go_sem,Aa,hni,hg,hnj,hgm,hc,Bt,q]
    exact ⟨j+1,⟨m+1,by omega,hltm,hR'⟩,by omega,by first | trivial | rfl⟩
   ·subst hm'
    by_cases h0:out[Dy out l[k]].cmp l[k]=0
    ·have hp:=SW hltm h0
     rw [h0] at hc
     simp (disch:=omega) only [go_sem,Aa,hni,hg,hnj,hgm,hc,Bt,q,h0]
     exact ⟨(i+1,out),⟨k+1,by dsimp only; omega,hlt,hxn _ hp,by dsimp only; omega,hof⟩,by dsimp only; omega,by first | trivial | rfl⟩
    ·have hp:=SY (fun _=>h0)
     have hx2:(out.take (Dy out l[k])).map (fun b=>b.d.map D.ot)++[[OT.bool l[k].pos,.str l[k].atom.name,.sh (l[k].atom.args.map Tm.d)]]++(out.drop (Dy out l[k])).map (fun b=>b.d.map D.ot)=(Ik out l[k]).map fun b=>b.d.map D.ot:=by
      rw [hp]
      simp only [yF,zK,y3,yB,zU]
      rw [Lt.d_eq]; rfl
     simp (disch:=omega) only [go_sem,Aa,hni,hg,hnj,hgm,hc,Bt,q,h0,e1,e2,e3,e4,e5,e6,e7,e8,hx2,hfu,her,ho,zV,yD,Cv]
     exact ⟨(i+1,Ik out l[k]),⟨k+1,by dsimp only; omega,hlt,hxn _ rfl,by dsimp only; omega,hpf⟩,by dsimp only; omega,by first | trivial | rfl⟩
  ·obtain rfl:m=out.length:=by omega
   have hk':out.length=Dy out l[k]:=by rw [←hR2,zI (zO _)]; simp [Dy]
   have hp:=SY (x:=l[k]) (xs:=out) (fun hlt=>by omega)
   have hx2:(out.take (Dy out l[k])).map (fun b=>b.d.map D.ot)++[[OT.bool l[k].pos,.str l[k].atom.name,.sh (l[k].atom.args.map Tm.d)]]++(out.drop (Dy out l[k])).map (fun b=>b.d.map D.ot)=(Ik out l[k]).map fun b=>b.d.map D.ot:=by
    rw [hp]
    simp only [yF,zK,y3,yB,zU]
    rw [Lt.d_eq]; rfl
   rw [hk'] at hnj
   simp (disch:=omega) only [go_sem,Aa,hni,hg,hnj,e1,e2,e3,e4,e5,e6,e7,e8,hx2,hfu,her,ho,zV,yD,Cv]
   exact ⟨(i+1,Ik out l[k]),⟨k+1,by dsimp only; omega,hlt,hxn _ rfl,by dsimp only; omega,hpf⟩,by dsimp only; omega,by first | trivial | rfl⟩
 ·rw [zI hge] at hR
  have hR:out=Lx [] l:=hR
  rw [←hR]
  simp (disch:=omega) only [go_sem,Aa,hni]
theorem Ta:∀ x y:List UInt8,Op.bytesLess x y=true→Op.bytesLess y x=false
 | [],[],h=>by simp [Op.bytesLess] at h
 | [],_ :: _,_=>rfl
 | _ :: _,[],h=>by simp [Op.bytesLess] at h
 | a :: x,b :: y,h=>by
  simp only [Op.bytesLess,Bool.or_eq_true,decide_eq_true_eq,zA,beq_iff_eq] at h
  simp only [Op.bytesLess,Bool.or_eq_false_iff,decide_eq_false_iff_not]
  rcases h with h | ⟨rfl,h⟩
  ·have h2:¬ b<a:=by intro h3; exact absurd (UInt8.lt_trans h h3) (UInt8.lt_irrefl _)
   have h3:(b == a)=false:=by
    rw [beq_eq_false_iff_ne]; rintro rfl; exact UInt8.lt_irrefl _ h
   exact ⟨h2,by rw [h3]; rfl⟩
  ·exact ⟨UInt8.lt_irrefl _,by rw [Ta x y h]; simp⟩
theorem Tc:∀ x y:List UInt8,Op.bytesLess x y=false→Op.bytesLess y x=false→x=y
 | [],[],_,_=>rfl
 | [],_ :: _,h,_=>by simp [Op.bytesLess] at h
 | _ :: _,[],_,h=>by simp [Op.bytesLess] at h
 | a :: x,b :: y,h,k=>by
  simp only [Op.bytesLess,Bool.or_eq_false_iff,decide_eq_false_iff_not] at h k
  have hab:a=b:=by
   have h1:=h.1; have h2:=k.1
   rw [UInt8.lt_iff_toNat_lt] at h1 h2
   exact UInt8.toNat_inj.1 (by omega)
  subst hab
  have h1:Op.bytesLess x y=false:=by simpa using h.2
  have h2:Op.bytesLess y x=false:=by simpa using k.2
  rw [Tc x y h1 h2]
theorem Ly {a b:ByteArray} (h:strLt a b=true):strLt b a=false:=Ta _ _ h
theorem Lz {a b:ByteArray} (h:strLt a b=false) (h':strLt b a=false):a=b:=Px (Tc _ _ h h')
theorem Jz (a b:ByteArray):(strLt a b || dec (a=b))=!strLt b a:=by
 cases h:strLt b a with
 | false =>
  cases h2:strLt a b with
  | false=>rw [At (Lz h2 h)]; rfl
  | true=>rfl
 | true =>
  rw [Ly h,Ay (by rintro rfl; rw [HS] at h; cases h)]
  rfl
theorem Td:∀ x y z:List UInt8,Op.bytesLess x y=true→Op.bytesLess y z=true→Op.bytesLess x z=true
 | _,_,[],_,h=>by simp [Op.bytesLess] at h
 | [],[],_ :: _,h,_=>by simp [Op.bytesLess] at h
 | [],_ :: _,_ :: _,_,_=>rfl
 | _ :: _,[],_ :: _,h,_=>by simp [Op.bytesLess] at h
 | a :: x,b :: y,c :: z,h,k=>by
  simp only [Op.bytesLess,Bool.or_eq_true,decide_eq_true_eq,zA,beq_iff_eq] at h k ⊢
  rcases h with h | ⟨rfl,h⟩
  ·rcases k with k | ⟨rfl,k⟩
   ·exact .inl (UInt8.lt_trans h k)
   ·exact .inl h
  ·rcases k with k | ⟨rfl,k⟩
   ·exact .inl k
   ·exact .inr ⟨rfl,Td x y z h k⟩
theorem L1 {a b c:ByteArray} (h:strLt a b=true) (k:strLt b c=true):strLt a c=true:=Td _ _ _ h k
theorem Y2 {a b:ByteArray} (h:strLt a b=true):¬ a=b:=by rintro rfl; rw [HS] at h; cases h
theorem Y3 (a b:ByteArray):dec (ED a b<0)=strLt a b:=by
 unfold ED
 cases strLt a b
 ·cases dec (a=b)
  ·exact Ay (by simp)
  ·exact Ay (by simp)
 ·exact At (by simp)
theorem Qcu (a b:ByteArray):dec (ED a b=0)=dec (a=b):=by
 unfold ED
 cases h:strLt a b
 ·cases h2:dec (a=b)
  ·exact Ay (by simp)
  ·exact At (by simp)
 ·rw [Ay (Y2 h)]
  exact Ay (by simp)
theorem wrap_u64 {n:Int} (h0:0≤n) (h1:n≤18446744073709551615):IntKind.u64.wrap n=n:=XE (by
 have e1:IntKind.u64.min=0:=by decide
 have e2:IntKind.u64.max=18446744073709551615:=by decide
 unfold inK
 rw [e1,e2]
 exact ⟨h0,h1⟩)
noncomputable def Il (x:Bd):Bool:=Ao x.var&&(x.term.valid&&!dec (x.term.name=x.var))
noncomputable def Y4 (xs:List Bd) (k:Nat):Bool:=match xs[k]? with
 | none=>true
 | some x=>Il x&&(match k with
  | 0=>true
  | j+1=>match xs[j]? with
   | none=>true
   | some y=>strLt y.var x.var)
noncomputable def J0 (xs:List Bd):Nat→Bool
 | 0=>true
 | k+1=>J0 xs k&&Y4 xs k
theorem Qcv {xs:List Bd} {k n:Nat} (h:J0 xs k=false) (hn:k≤n):J0 xs n=false:=by
 induction n with
 | zero =>
      obtain rfl:k=0:=by omega
      exact h
 | succ n ih =>
  rcases zB n k with h1 | h1
  ·obtain rfl:k=n+1:=by omega
   exact h
  ·rw [J0,ih h1]; rfl
theorem J1 {xs:List Bd} (h:0<xs.length):Y4 xs 0=Il xs[0]:=by
 unfold Y4
 rw [zT h]
 simp
theorem Hy {xs:List Bd} {j:Nat} (h:j+1<xs.length):Y4 xs (j+1)=(Il xs[j+1]&&strLt xs[j].var xs[j+1].var):=by
 unfold Y4
 rw [zT h]
 simp only [zT (show j<xs.length by omega)]
theorem Qbs {xs:List Bd} {k j:Nat} (h:J0 xs k=true) (hj:j<k):Y4 xs j=true:=by
 induction k with
 | zero=>omega
 | succ k ih =>
  rw [J0,zA] at h
  rcases zB j k with h1 | h1
  ·exact ih h.1 h1
  ·obtain rfl:j=k:=by omega
   exact h.2
theorem QeR {xs:List Bd} {j:Nat} (hl:j<xs.length) (h:Y4 xs j=true):Il xs[j]=true:=by
 cases j with
 | zero=>rw [←J1 hl]; exact h
 | succ j=>rw [Hy hl,zA] at h; exact h.1
noncomputable def Sb.ok (x:Sb):Bool:=decide (x.binds.length≤12)&&J0 x.binds x.binds.length
theorem Sb.not_ok {x:Sb} {k:Nat} (h:J0 x.binds k=true) (h':Y4 x.binds k=false) (hk:k<x.binds.length):x.ok=false:=by
 have:J0 x.binds x.binds.length=false:=Qcv (k:=k+1) (by rw [J0,h,h']; rfl) (by omega)
 unfold Sb.ok
 rw [this,zM]
def Sb.tame (x:Sb):Prop:=x.binds.length≤1099511627776∧∀ y∈x.binds,y.term.nodes≤1099511627776
theorem Sb.tame_at {x:Sb} (h:x.tame) {k:Nat} (hk:k<x.binds.length):x.binds[k].term.nodes≤1099511627776:=h.2 _ (zD hk)
def E5:SC:=(.seq (.reg [⟨some 1,none,.boxv 142 1 (.t 0)⟩,⟨some 2,none,.mv (.c (.bool false))⟩]) (.seq (.seq (.reg [⟨some 5,none,.faddr 0 (.t 1)⟩,⟨some 6,none,.load false 1 (.t 5)⟩,⟨some 7,none,.len false (.t 6)⟩,⟨some 8,none,.mv (.c (.int .i64 0))⟩]) (.block 0 (.loop [0,1,0,0,0,0,1,1,1,0,0,0,0,0,0,0,0,0,0,0,0,0,0,0,0,0,0,0,0,0,0,0,0,0,0,0,0,0,0,0,0,0,0,0,0,0,0,0,0,0,0,0] (.seq (.reg [⟨some 9,none,.bin .lss false (.t 8) (.t 7)⟩]) (.seq (.cond (.t 9) .skip (.exit 0)) (.seq (.block 1 (.seq (.reg [⟨some 10,none,.mv (.t 8)⟩,⟨some 11,none,.iaddr 3 (.t 6) (.t 8)⟩,⟨some 12,none,.load true 3 (.t 11)⟩,⟨(some 4),none,(.alloc 227 [(.str ⟨#[]⟩),(.str ⟨#[]⟩),.nil])⟩,⟨some 3,none,.mv (.t 10)⟩,⟨none,none,(.store 3 (.t 4) (.t 12))⟩]) (.seq (.dreg [[],[0],[1,0],[2,1,0],[3,2,1,0],[4,3,2,1,0],[5,4,3,2,1,0],[6,5,4,3,2,1,0],[7,6,5,4,3,2,1,0],[8,7,6,5,4,3,2,1,0],[7,6,5,4,3,2,1,0],[10,7,6,5,4,3,2,1,0],[7,6,5,4,3,2,1,0],[12,7,6,5,4,3,2,1,0],[11,10,7,6,5,4,3,2,1,0,13,12],[14,11,10,7,6,5,4,3,2,1,0,13,12],[15,14,11,10,7,6,5,4,3,2,1,0,13,12],[9,8,7,6,5,4,3,2,1,0,16,15,14,11,10,13,12],[7,6,5,4,3,2,1,0,17,9,8,16,15,14,11,10,13,12],[4,3,2,1,0,18,7,6,5,17,9,8,16,15,14,11,10,13,12],[19,4,3,2,1,0,18,7,6,5,17,9,8,16,15,14,11,10,13,12],[20,19,4,3,2,1,0,18,7,6,5,17,9,8,16,15,14,11,10,13,12],[21,20,19,4,3,2,1,0,18,7,6,5,17,9,8,16,15,14,11,10,13,12],[22,21,20,19,4,3,2,1,0,18,7,6,5,17,9,8,16,15,14,11,10,13,12],[23,22,21,20,19,4,3,2,1,0,18,7,6,5,17,9,8,16,15,14,11,10,13,12],[20,19,4,3,2,1,0,18,7,6,5,17,9,8,16,15,14,11,10,13,12,24,23,22,21],[25,20,19,4,3,2,1,0,18,7,6,5,17,9,8,16,15,14,11,10,13,12,24,23,22,21],[26,25,20,19,4,3,2,1,0,18,7,6,5,17,9,8,16,15,14,11,10,13,12,24,23,22,21],[27,26,25,20,19,4,3,2,1,0,18,7,6,5,17,9,8,16,15,14,11,10,13,12,24,23,22,21],[28,27,26,25,20,19,4,3,2,1,0,18,7,6,5,17,9,8,16,15,14,11,10,13,12,24,23,22,21],[26,25,20,19,4,3,2,1,0,18,7,6,5,17,9,8,16,15,14,11,10,13,12,24,23,22,21],[30,26,25,20,19,4,3,2,1,0,18,7,6,5,17,9,8,16,15,14,11,10,13,12,24,23,22,21],[29,28,27,26,25,20,19,4,3,2,1,0,18,7,6,5,17,9,8,16,15,14,11,10,13,12,24,23,22,21,31,30],[26,25,20,19,4,3,2,1,0,18,7,6,5,17,9,8,16,15,14,11,10,13,12,24,23,22,21,32,29,28,27,31,30]] [⟨some 13,none,.faddr 0 (.t 4)⟩,⟨some 14,none,.load false 1 (.t 13)⟩,⟨some 15,none,.call 177 [(.t 14)]⟩,⟨some 16,none,.un .not (.t 15)⟩,⟨some 17,none,.mv (.t 16)⟩,⟨(some 18),(some (17,false)),(.mv (.t 3))⟩,⟨(some 19),(some (17,false)),(.bin .gtr false (.t 18) (.c (.int .i64 0)))⟩,⟨(some 20),(some (17,false)),(.mv (.t 19))⟩,⟨(some 21),(some (20,true)),(.faddr 0 (.t 4))⟩,⟨(some 22),(some (20,true)),(.load false 1 (.t 21))⟩,⟨(some 23),(some (20,true)),(.faddr 0 (.t 1))⟩,⟨(some 24),(some (20,true)),(.load false 1 (.t 23))⟩,⟨(some 25),(some (20,true)),(.mv (.t 3))⟩,⟨(some 26),(some (20,true)),(.bin .sub false (.t 25) (.c (.int .i64 1)))⟩,⟨(some 27),(some (20,true)),(.iaddr 3 (.t 24) (.t 26))⟩,⟨(some 28),(some (20,true)),(.faddr 0 (.t 27))⟩,⟨(some 29),(some (20,true)),(.load false 1 (.t 28))⟩,⟨(some 30),(some (20,true)),(.bin .leq false (.t 22) (.t 29))⟩,⟨(some 31),(some (17,false)),(.pick (.t 20) (.t 30) (.c (.bool false)))⟩,⟨some 32,none,.pick (.t 17) (.c (.bool true)) (.t 31)⟩,⟨some 33,none,.mv (.t 32)⟩,⟨(some 34),(some (33,false)),(.faddr 1 (.t 4))⟩,⟨(some 35),(some (33,false)),(.load true 2 (.t 34))⟩,⟨(some 36),(some (33,false)),(.call 246 [(.t 35)])⟩,⟨(some 37),(some (33,false)),(.un .not (.t 36))⟩,⟨some 38,none,.pick (.t 33) (.c (.bool true)) (.t 37)⟩,⟨some 39,none,.mv (.t 38)⟩,⟨(some 40),(some (39,false)),(.faddr 1 (.t 4))⟩,⟨(some 41),(some (39,false)),(.faddr 0 (.t 40))⟩,⟨(some 42),(some (39,false)),(.load false 1 (.t 41))⟩,⟨(some 43),(some (39,false)),(.faddr 0 (.t 4))⟩,⟨(some 44),(some (39,false)),(.load false 1 (.t 43))⟩,⟨(some 45),(some (39,false)),(.bin .eql false (.t 42) (.t 44))⟩,⟨some 46,none,.pick (.t 39) (.c (.bool true)) (.t 45)⟩]) (.cond (.t 46) (.seq (.reg [⟨some 2,none,.mv (.c (.bool false))⟩]) .ret) .skip)))) (.reg [⟨some 47,none,.bin .add false (.t 8) (.c (.int .i64 1))⟩,⟨some 8,none,.mv (.t 47)⟩]))))))) (.seq (.reg [⟨some 48,none,.faddr 0 (.t 1)⟩,⟨some 49,none,.load false 1 (.t 48)⟩,⟨some 50,none,.len false (.t 49)⟩,⟨some 51,none,.bin .leq false (.t 50) (.c (.int .i64 12))⟩,⟨some 2,none,.mv (.t 51)⟩]) .ret)))
theorem HW:codeOf Tryz.prog 279=some ⟨52,E5,[(.tmp 2)]⟩:=by kernel_rfl
theorem Ax:modes 279=⟨[],.asis,none,false⟩:=by unfold modes; rfl
def MY:SC:=(.seq (.reg [⟨some 1,none,.boxv 142 1 (.t 0)⟩,⟨some 2,none,.mv (.c (.bool false))⟩]) (.seq (.seq (.reg [⟨some 3,none,.mv (.c (.int .i64 0))⟩]) (.block 0 (.loop [0,1,0,1,0,0,0,0,0,0,0,0,0,0,0,0,0,0,0,0,0,0,0,0,0,0,0,0,0,0,0,0,0,0,0,0,0,0,0,0,0,0,0,0,0,0,0,0,0,0,0,0,0,0,0] (.seq (.seq (.reg [⟨some 5,none,.mv (.t 3)⟩,⟨some 6,none,.faddr 0 (.t 1)⟩,⟨some 7,none,.load false 1 (.t 6)⟩,⟨some 8,none,.len false (.t 7)⟩,⟨some 9,none,.bin .lss false (.t 5) (.t 8)⟩]) (.cond (.t 9) .skip (.exit 0))) (.seq (.block 1 (.seq (.reg [⟨some 12,none,.faddr 0 (.t 1)⟩,⟨some 13,none,.load false 1 (.t 12)⟩,⟨some 14,none,.mv (.t 3)⟩,⟨some 15,none,.iaddr 3 (.t 13) (.t 14)⟩,⟨some 16,none,.load true 3 (.t 15)⟩,⟨(some 4),none,(.alloc 227 [(.str ⟨#[]⟩),(.str ⟨#[]⟩),.nil])⟩,⟨none,none,(.store 3 (.t 4) (.t 16))⟩]) (.seq (.dreg [[],[0],[1,0],[2,1,0],[3,2,1,0],[4,3,2,1,0],[5,4,3,2,1,0],[6,5,4,3,2,1,0],[7,6,5,4,3,2,1,0],[4,3,2,1,0,8,7,6,5],[9,4,3,2,1,0,8,7,6,5],[10,9,4,3,2,1,0,8,7,6,5],[11,10,9,4,3,2,1,0,8,7,6,5],[12,11,10,9,4,3,2,1,0,8,7,6,5],[10,9,4,3,2,1,0,8,7,6,5],[14,10,9,4,3,2,1,0,8,7,6,5],[13,12,11,10,9,4,3,2,1,0,8,7,6,5,15,14],[10,9,4,3,2,1,0,8,7,6,5,16,13,12,11,15,14],[17,10,9,4,3,2,1,0,8,7,6,5,16,13,12,11,15,14],[18,17,10,9,4,3,2,1,0,8,7,6,5,16,13,12,11,15,14],[19,18,17,10,9,4,3,2,1,0,8,7,6,5,16,13,12,11,15,14],[20,19,18,17,10,9,4,3,2,1,0,8,7,6,5,16,13,12,11,15,14],[21,20,19,18,17,10,9,4,3,2,1,0,8,7,6,5,16,13,12,11,15,14],[22,21,20,19,18,17,10,9,4,3,2,1,0,8,7,6,5,16,13,12,11,15,14],[21,20,19,18,17,10,9,4,3,2,1,0,8,7,6,5,16,13,12,11,15,14],[24,21,20,19,18,17,10,9,4,3,2,1,0,8,7,6,5,16,13,12,11,15,14],[23,22,21,20,19,18,17,10,9,4,3,2,1,0,8,7,6,5,16,13,12,11,15,14,25,24],[26,23,22,21,20,19,18,17,10,9,4,3,2,1,0,8,7,6,5,16,13,12,11,15,14,25,24],[27,26,23,22,21,20,19,18,17,10,9,4,3,2,1,0,8,7,6,5,16,13,12,11,15,14,25,24],[21,20,19,18,17,10,9,4,3,2,1,0,8,7,6,5,16,13,12,11,15,14],[29,21,20,19,18,17,10,9,4,3,2,1,0,8,7,6,5,16,13,12,11,15,14],[28,27,26,23,22,21,20,19,18,17,10,9,4,3,2,1,0,8,7,6,5,16,13,12,11,15,14,25,24,30,29],[21,20,19,18,17,10,9,4,3,2,1,0,8,7,6,5,16,13,12,11,15,14,31,28,27,26,23,22,25,24,30,29],[18,17,10,9,4,3,2,1,0,8,7,6,5,16,13,12,11,15,14,32,21,20,19,31,28,27,26,23,22,25,24,30,29]] [⟨some 17,none,.faddr 0 (.t 4)⟩,⟨some 18,none,.load false 1 (.t 17)⟩,⟨some 19,none,.call 191 [(.t 18)]⟩,⟨some 20,none,.un .not (.t 19)⟩,⟨some 21,none,.mv (.t 20)⟩,⟨(some 22),(some (21,false)),(.faddr 1 (.t 4))⟩,⟨(some 23),(some (21,false)),(.load true 2 (.t 22))⟩,⟨(some 24),(some (21,false)),(.call 266 [(.t 23)])⟩,⟨(some 25),(some (21,false)),(.un .not (.t 24))⟩,⟨some 26,none,.pick (.t 21) (.c (.bool true)) (.t 25)⟩,⟨some 27,none,.mv (.t 26)⟩,⟨(some 28),(some (27,false)),(.faddr 1 (.t 4))⟩,⟨(some 29),(some (27,false)),(.faddr 0 (.t 28))⟩,⟨(some 30),(some (27,false)),(.load false 1 (.t 29))⟩,⟨(some 31),(some (27,false)),(.faddr 0 (.t 4))⟩,⟨(some 32),(some (27,false)),(.load false 1 (.t 31))⟩,⟨(some 33),(some (27,false)),(.bin .eql false (.t 30) (.t 32))⟩,⟨some 34,none,.pick (.t 27) (.c (.bool true)) (.t 33)⟩,⟨some 35,none,.mv (.t 34)⟩,⟨(some 36),(some (35,false)),(.mv (.t 3))⟩,⟨(some 37),(some (35,false)),(.bin .gtr false (.t 36) (.c (.int .i64 0)))⟩,⟨(some 38),(some (35,false)),(.mv (.t 37))⟩,⟨(some 39),(some (38,true)),(.faddr 0 (.t 1))⟩,⟨(some 40),(some (38,true)),(.load false 1 (.t 39))⟩,⟨(some 41),(some (38,true)),(.mv (.t 3))⟩,⟨(some 42),(some (38,true)),(.bin .sub false (.t 41) (.c (.int .i64 1)))⟩,⟨(some 43),(some (38,true)),(.iaddr 3 (.t 40) (.t 42))⟩,⟨(some 44),(some (38,true)),(.faddr 0 (.t 43))⟩,⟨(some 45),(some (38,true)),(.load false 1 (.t 44))⟩,⟨(some 46),(some (38,true)),(.faddr 0 (.t 4))⟩,⟨(some 47),(some (38,true)),(.load false 1 (.t 46))⟩,⟨(some 48),(some (38,true)),(.bin .geq false (.t 45) (.t 47))⟩,⟨(some 49),(some (35,false)),(.pick (.t 38) (.t 48) (.c (.bool false)))⟩,⟨some 50,none,.pick (.t 35) (.c (.bool true)) (.t 49)⟩]) (.cond (.t 50) (.seq (.reg [⟨some 2,none,.mv (.c (.bool false))⟩]) .ret) .skip)))) (.reg [⟨some 10,none,.mv (.t 3)⟩,⟨some 11,none,.bin .add false (.t 10) (.c (.int .i64 1))⟩,⟨some 3,none,.mv (.t 11)⟩])))))) (.seq (.reg [⟨some 51,none,.faddr 0 (.t 1)⟩,⟨some 52,none,.load false 1 (.t 51)⟩,⟨some 53,none,.len false (.t 52)⟩,⟨some 54,none,.bin .leq false (.t 53) (.c (.int .i64 12))⟩,⟨some 2,none,.mv (.t 54)⟩]) .ret)))
theorem Uo:codeOf Tryz.prog 310=some ⟨55,MY,[(.tmp 2)]⟩:=by kernel_rfl
theorem Cw:modes 310=⟨[],.asis,none,false⟩:=by unfold modes; rfl
def MZ:SC:=(.seq (.reg [⟨some 2,none,.boxv 142 1 (.t 0)⟩,⟨some 4,none,.mv (.c (.int .i64 0))⟩]) (.seq (.seq (.reg [⟨some 5,none,.mv (.c (.int .i64 0))⟩]) (.block 0 (.loop [0,1,1,0,0,1,0,0,0,0,0,0,0,0,0,0,0,0,0,0,0,0] (.seq (.seq (.reg [⟨some 6,none,.mv (.t 5)⟩,⟨some 7,none,.faddr 0 (.t 2)⟩,⟨some 8,none,.load false 1 (.t 7)⟩,⟨some 9,none,.len false (.t 8)⟩,⟨some 10,none,.bin .lss false (.t 6) (.t 9)⟩]) (.cond (.t 10) .skip (.exit 0))) (.seq (.block 1 (.seq (.reg [⟨some 13,none,.faddr 0 (.t 2)⟩,⟨some 14,none,.load false 1 (.t 13)⟩,⟨some 15,none,.mv (.t 5)⟩,⟨some 16,none,.iaddr 3 (.t 14) (.t 15)⟩,⟨some 17,none,.faddr 0 (.t 16)⟩,⟨some 18,none,.load false 1 (.t 17)⟩,⟨some 19,none,.mv (.t 1)⟩,⟨some 20,none,.bin .eql false (.t 18) (.t 19)⟩]) (.cond (.t 20) (.seq (.reg [⟨some 21,none,.mv (.t 5)⟩,⟨some 4,none,.mv (.t 21)⟩]) .ret) .skip))) (.reg [⟨some 11,none,.mv (.t 5)⟩,⟨some 12,none,.bin .add false (.t 11) (.c (.int .i64 1))⟩,⟨some 5,none,.mv (.t 12)⟩])))))) (.seq (.reg [⟨some 4,none,.mv (.c (.int .i64 (-(0+1))))⟩]) .ret)))
theorem Up:codeOf Tryz.prog 239=some ⟨22,MZ,[(.tmp 4)]⟩:=by kernel_rfl
theorem BQ:modes 239=⟨[],.asis,none,false⟩:=by unfold modes; rfl
theorem Ek (x:Sb) (hn:x.tame):E 279 [x.sv] []=some (.bool x.ok,[]):=by
  have hl:=hn.1
  refine Ad HW Ax (of_decide_eq_true rfl) ?_
  simp (disch:=omega) only [E5,go_sem,Aa]
  refine go_loop (α:=Int) (fun a=>⟨slots 52 0 [(1,.ptr 0 0),(6,.arr (x.binds.map Bd.d)),(7,.int .i64 x.binds.length),(8,.int .i64 a)],[.box 142 [.arr (x.binds.map Bd.d)]]⟩) (fun a=>∃ k:Nat,a=k∧k≤(x.binds).length∧J0 x.binds k=true) (fun a=>(x.binds).length-(a).toNat) 0 ⟨0,rfl,zF _,by rw [J0]⟩ (by simp (disch:=omega) only [go_sem,Aa]) ?_
  rintro i ⟨k,hi,hk,hR⟩
  have hni:i.toNat=k:=by omega
  have hni1:(i+1).toNat=k+1:=by omega
  rcases zB k (x.binds).length with hlt | hge
  · have hg:=get_at Bd.d hlt
    rw [Bd.d_eq] at hg
    have hv:=MT x.binds[k].term (Sb.tame_at hn hlt)
    cases k with
    | zero =>
      obtain rfl:i=0:=hi
      cases hA:Ao x.binds[0].var <;> cases hV:x.binds[0].term.valid <;> cases hD:dec (x.binds[0].term.name=x.binds[0].var)
      all_goals
        first
        | (have e:x.ok=false:=Sb.not_ok hR (by rw [J1 hlt,Il,hA,hV,hD]; rfl) hlt
           rw [e]
           simp (disch:=omega) only [go_sem,Aa,hni,hg,hv,hA,hV,hD,AK,Br,EE]
           done)
        | (simp (disch:=omega) only [go_sem,Aa,hni,hg,hv,hA,hV,hD,AK,Br,EE]
           exact ⟨1,⟨1,rfl,hlt,by rw [J0,hR,J1 hlt,Il,hA,hV,hD]; rfl⟩,by omega,by first | trivial | rfl⟩)
    | succ j =>
      have hj:j<x.binds.length:=by omega
      have hg2:=get_at Bd.d hj
      rw [Bd.d_eq] at hg2
      have hni2:(i-1).toNat=j:=by omega
      have hLe:=Jz x.binds[j+1].var x.binds[j].var
      cases hS:strLt x.binds[j].var x.binds[j+1].var <;> cases hA:Ao x.binds[j+1].var <;> cases hV:x.binds[j+1].term.valid <;> cases hD:dec (x.binds[j+1].term.name=x.binds[j+1].var)
      all_goals
        first
        | (have e:x.ok=false:=Sb.not_ok hR (by rw [Hy hlt,Il,hA,hV,hD,hS]; rfl) hlt
           rw [e]
           simp (disch:=omega) only [go_sem,Aa,hni,hg,hv,hA,hV,hD,AK,Br,EE,hS,hni2,hg2,hLe]
           done)
        | (simp (disch:=omega) only [go_sem,Aa,hni,hg,hv,hA,hV,hD,AK,Br,EE,hS,hni2,hg2,hLe]
           exact ⟨i+1,⟨j+1+1,by omega,hlt,by rw [J0,hR,Hy hlt,Il,hA,hV,hD,hS]; rfl⟩,by omega,by first | trivial | rfl⟩)
  · obtain rfl:k=x.binds.length:=by omega
    simp (disch:=omega) only [go_sem,Aa,hni]
    unfold Sb.ok
    rw [hR,yK,KX]
    exact decide_eq_decide.2 (by omega)
theorem O4 (x:Sb) (hn:x.tame):E 310 [x.sv] []=some (.bool x.ok,[]):=by
  have hl:=hn.1
  refine Ad Uo Cw (of_decide_eq_true rfl) ?_
  simp (disch:=omega) only [MY,go_sem,Aa]
  refine go_loop (α:=Int) (fun a=>⟨slots 55 0 [(1,.ptr 0 0),(3,.int .i64 a)],[.box 142 [.arr (x.binds.map Bd.d)]]⟩) (fun a=>∃ k:Nat,a=k∧k≤(x.binds).length∧J0 x.binds k=true) (fun a=>(x.binds).length-(a).toNat) 0 ⟨0,rfl,zF _,by rw [J0]⟩ (by simp (disch:=omega) only [go_sem,Aa]) ?_
  rintro i ⟨k,hi,hk,hR⟩
  have hni:i.toNat=k:=by omega
  have hni1:(i+1).toNat=k+1:=by omega
  rcases zB k (x.binds).length with hlt | hge
  · have hg:=get_at Bd.d hlt
    rw [Bd.d_eq] at hg
    have hv:=SP x.binds[k].term (Sb.tame_at hn hlt)
    cases k with
    | zero =>
      obtain rfl:i=0:=hi
      cases hA:Ao x.binds[0].var <;> cases hV:x.binds[0].term.valid <;> cases hD:dec (x.binds[0].term.name=x.binds[0].var)
      all_goals
        first
        | (have e:x.ok=false:=Sb.not_ok hR (by rw [J1 hlt,Il,hA,hV,hD]; rfl) hlt
           rw [e]
           simp (disch:=omega) only [go_sem,Aa,hni,hg,hv,hA,hV,hD,Bg,Ah,Am]
           done)
        | (simp (disch:=omega) only [go_sem,Aa,hni,hg,hv,hA,hV,hD,Bg,Ah,Am]
           exact ⟨1,⟨1,rfl,hlt,by rw [J0,hR,J1 hlt,Il,hA,hV,hD]; rfl⟩,by omega,by first | trivial | rfl⟩)
    | succ j =>
      have hj:j<x.binds.length:=by omega
      have hg2:=get_at Bd.d hj
      rw [Bd.d_eq] at hg2
      have hni2:(i-1).toNat=j:=by omega
      have hLe:=Jz x.binds[j+1].var x.binds[j].var
      cases hS:strLt x.binds[j].var x.binds[j+1].var <;> cases hA:Ao x.binds[j+1].var <;> cases hV:x.binds[j+1].term.valid <;> cases hD:dec (x.binds[j+1].term.name=x.binds[j+1].var)
      all_goals
        first
        | (have e:x.ok=false:=Sb.not_ok hR (by rw [Hy hlt,Il,hA,hV,hD,hS]; rfl) hlt
           rw [e]
           simp (disch:=omega) only [go_sem,Aa,hni,hg,hv,hA,hV,hD,Bg,Ah,Am,hS,hni2,hg2,hLe]
           done)
        | (simp (disch:=omega) only [go_sem,Aa,hni,hg,hv,hA,hV,hD,Bg,Ah,Am,hS,hni2,hg2,hLe]
           exact ⟨i+1,⟨j+1+1,by omega,hlt,by rw [J0,hR,Hy hlt,Il,hA,hV,hD,hS]; rfl⟩,by omega,by first | trivial | rfl⟩)
  · obtain rfl:k=x.binds.length:=by omega
    simp (disch:=omega) only [go_sem,Aa,hni]
    unfold Sb.ok
    rw [hR,yK,KX]
    exact decide_eq_decide.2 (by omega)
theorem Y5 (x:Sb) (n:ByteArray) (hl:x.binds.length≤1099511627776):E 239 [x.sv,.str n] []=some (.int .i64 (Dd (fun b=>dec (b.var=n)) x.binds 0),[]):=by
 refine Ad Up BQ (of_decide_eq_true rfl) ?_
 simp (disch:=omega) only [MZ,go_sem,Aa]
 refine go_loop (α:=Int) (fun a=>⟨slots 22 0 [(1,.str n),(2,.ptr 0 0),(5,.int .i64 a)],[.box 142 [.arr (x.binds.map Bd.d)]]⟩) (fun a=>∃ k:Nat,a=k∧k≤(x.binds).length∧Dd (fun b=>dec (b.var=n)) (x.binds.drop k) a=Dd (fun b=>dec (b.var=n)) x.binds 0) (fun a=>(x.binds).length-(a).toNat) 0 ⟨0,rfl,zF _,by rw [zJ]⟩ (by simp (disch:=omega) only [go_sem,Aa]) ?_
 rintro i ⟨k,hi,hk,hR⟩
 have hni:i.toNat=k:=by omega
 have hni1:(i+1).toNat=k+1:=by omega
 rcases zB k (x.binds).length with hlt | hge
 ·have hg:=get_at Bd.d hlt
  rw [Bd.d_eq] at hg
  rw [zG hlt,Dd] at hR
  cases hp:dec (x.binds[k].var=n) with
  | true =>
   rw [hp] at hR
   simp (disch:=omega) only [go_sem,Aa,hni,hg,hp]
   simpa using hR
  | false =>
   rw [hp] at hR
   simp (disch:=omega) only [go_sem,Aa,hni,hg,hp]
   exact ⟨i+1,⟨k+1,by omega,hlt,by simpa using hR⟩,by omega,by first | trivial | rfl⟩
 ·rw [zI hge,Dd] at hR
  simp (disch:=omega) only [go_sem,Aa,hni]
  exact hR
def O5 (xs:List Bd):Prop:=∀ j k (h:j<k) (hk:k<xs.length),strLt xs[j].var xs[k].var=true
theorem QeS {xs:List Bd} (h:J0 xs xs.length=true):O5 xs:=by
 intro j k hjk hk
 induction k with
 | zero=>omega
 | succ k ih =>
  have h1:=Qbs h hk
  rw [Hy hk,zA] at h1
  rcases zB j k with h2 | h2
  ·exact L1 (ih h2 (by omega)) h1.2
  ·obtain rfl:j=k:=by omega
   exact h1.2
theorem Sb.K5 {x:Sb} (h:x.ok=true):O5 x.binds:=by
 unfold Sb.ok at h
 rw [zA] at h
 exact QeS h.2
def Bo:List Bd→ByteArray→Nat
 | [],_=>0
 | x :: xs,n=>if strLt x.var n then Bo xs n+1 else 0
theorem WX (n:ByteArray):∀ xs:List Bd,Bo xs n≤xs.length
 | []=>zO _
 | x :: xs=>by
  have:=WX n xs
  rw [Bo]; simp only [zP]; split <;> omega
theorem L2 (n:ByteArray):∀ (xs:List Bd) (j:Nat) (h:j<xs.length),j<Bo xs n→strLt xs[j].var n=true
 | [],j,h,_=>absurd h (by simp)
 | x :: xs,j,h,hj=>by
  rw [Bo] at hj
  split at hj
  ·rename_i hx
   cases j with
   | zero=>exact hx
   | succ j=>exact L2 n xs j (by simpa using h) (by omega)
  ·omega
theorem WY (n:ByteArray):∀ (xs:List Bd) (h:Bo xs n<xs.length),strLt (xs[Bo xs n]).var n=false
 | [],h=>absurd h (by simp)
 | x :: xs,h=>by
  cases hx:strLt x.var n with
  | false =>
   have e:Bo (x :: xs) n=0:=by rw [Bo,if_neg (by rw [hx]; simp)]
   simp only [e,yS]; exact hx
  | true =>
   have e:Bo (x :: xs) n=Bo xs n+1:=by rw [Bo,if_pos hx]
   have h2:Bo xs n<xs.length:=by rw [e] at h; simpa using h
   simp only [e,yR]; exact WY n xs h2
theorem Qd5 {xs:List Bd} (hs:O5 xs) (n:ByteArray) {m:Nat} (h:m<xs.length):strLt xs[m].var n=true ↔ m<Bo xs n:=by
 constructor
 ·intro h1
  rcases zB m (Bo xs n) with h2 | h2
  ·exact h2
  ·have h3:=WY n xs (by omega)
   rcases zB (Bo xs n) m with h4 | h4
   ·rw [L1 (hs _ _ h4 h) h1] at h3; cases h3
   ·have e:Bo xs n=m:=by omega
    simp only [e] at h3
    rw [h1] at h3; cases h3
 ·exact L2 n xs m h
noncomputable def El (xs:List Bd) (n:ByteArray):Bool:=match xs[Bo xs n]? with
 | none=>false
 | some b=>dec (b.var=n)
def E6:SC:=(.seq (.reg [⟨some 2,none,.boxv 227 3 (.t 0)⟩,⟨some 4,none,.mv (.c (.int .i64 0))⟩]) (.seq (.reg [⟨some 5,none,.faddr 0 (.t 2)⟩,⟨some 6,none,.load false 1 (.t 5)⟩,⟨some 7,none,.mv (.t 1)⟩,⟨some 8,none,.call 283 [(.t 6),(.t 7)]⟩,⟨some 4,none,.mv (.t 8)⟩]) .ret))
theorem HX:codeOf Tryz.prog 317=some ⟨9,E6,[(.tmp 4)]⟩:=by kernel_rfl
theorem BU:modes 317=⟨[],.asis,none,false⟩:=by unfold modes; rfl
theorem CU:Ih Tryz.prog 317=true:=by kernel_rfl
def Be:SC:=(.seq (.reg [⟨some 6,none,.mv (.c (.int .i64 0))⟩,⟨some 7,none,.mv (.c (.bool false))⟩]) (.seq (.reg [⟨some 12,none,.mv (.t 0)⟩,⟨some 13,none,.len false (.t 12)⟩,⟨some 8,none,.mv (.t 13)⟩]) (.seq (.reg [⟨some 14,none,.mv (.t 8)⟩,⟨some 9,none,.mv (.c (.int .i64 0))⟩,⟨some 10,none,.mv (.t 14)⟩]) (.seq (.block 0 (.loop [1,1,1,0,0,0,0,0,1,1,1,0,0,0,0,0,0,0,0,0,0,0,0,0,0,0,0,0,0,0,0,0,0,0,0,0,0,0,0,0,0,0,0,0,0,0,0,0,0] (.seq (.seq (.reg [⟨some 15,none,.mv (.t 9)⟩,⟨some 16,none,.mv (.t 10)⟩,⟨some 17,none,.bin .lss false (.t 15) (.t 16)⟩]) (.cond (.t 17) .skip (.exit 0))) (.block 1 (.seq (.reg [⟨some 18,none,.mv (.t 9)⟩,⟨some 19,none,.mv (.t 10)⟩,⟨some 20,none,.bin .add false (.t 18) (.t 19)⟩,⟨some 21,none,.conv .u64 (.t 20)⟩,⟨some 22,none,.bin .shr false (.t 21) (.c (.int .u64 1))⟩,⟨some 23,none,.conv .i64 (.t 22)⟩,⟨some 11,none,.mv (.t 23)⟩]) (.seq (.reg [⟨some 24,none,.mv (.t 2)⟩,⟨some 25,none,.mv (.t 0)⟩,⟨some 26,none,.mv (.t 11)⟩,⟨some 27,none,.iaddr 3 (.t 25) (.t 26)⟩,⟨some 28,none,.load true 3 (.t 27)⟩,⟨some 29,none,.mv (.t 1)⟩,⟨some 30,none,.callv (.t 24) [(.t 28),(.t 29)]⟩,⟨some 31,none,.bin .lss false (.t 30) (.c (.int .i64 0))⟩]) (.cond (.t 31) (.reg [⟨some 32,none,.mv (.t 11)⟩,⟨some 33,none,.bin .add false (.t 32) (.c (.int .i64 1))⟩,⟨some 9,none,.mv (.t 33)⟩]) (.reg [⟨some 34,none,.mv (.t 11)⟩,⟨some 10,none,.mv (.t 34)⟩])))))))) (.seq (.reg [⟨some 35,none,.mv (.t 9)⟩,⟨some 36,none,.mv (.t 9)⟩,⟨some 37,none,.mv (.t 8)⟩,⟨some 38,none,.bin .lss false (.t 36) (.t 37)⟩,⟨some 39,none,.mv (.t 38)⟩,⟨(some 40),(some (39,true)),(.mv (.t 2))⟩,⟨(some 41),(some (39,true)),(.mv (.t 0))⟩,⟨(some 42),(some (39,true)),(.mv (.t 9))⟩,⟨(some 43),(some (39,true)),(.iaddr 3 (.t 41) (.t 42))⟩,⟨(some 44),(some (39,true)),(.load true 3 (.t 43))⟩,⟨(some 45),(some (39,true)),(.mv (.t 1))⟩,⟨(some 46),(some (39,true)),(.callv (.t 40) [(.t 44),(.t 45)])⟩,⟨(some 47),(some (39,true)),(.bin .eql false (.t 46) (.c (.int .i64 0)))⟩,⟨some 48,none,.pick (.t 39) (.t 47) (.c (.bool false))⟩,⟨some 6,none,.mv (.t 35)⟩,⟨some 7,none,.mv (.t 48)⟩]) .ret)))))
theorem Cr:codeOf Tryz.prog 316=some ⟨49,Be,[(.tmp 6),(.tmp 7)]⟩:=by kernel_rfl
theorem AE:modes 316=⟨[],.asis,none,false⟩:=by unfold modes; rfl
def Du:SC:=(.seq (.reg [⟨some 2,none,.boxv 142 1 (.t 0)⟩,⟨(some 4),none,(.alloc 33 [(.str ⟨#[]⟩),.nil])⟩,⟨some 5,none,.mv (.c (.bool false))⟩]) (.seq (.reg [⟨some 9,none,.faddr 0 (.t 2)⟩,⟨some 10,none,.load false 1 (.t 9)⟩,⟨some 11,none,.mv (.t 1)⟩,⟨some 12,none,.call 316 [(.t 10),(.t 11),(.c (.fn 317 []))]⟩,⟨some 8,none,.mv (.t 12)⟩,⟨some 13,none,.ext (.t 8) 0⟩,⟨some 14,none,.ext (.t 8) 1⟩,⟨some 6,none,.mv (.t 13)⟩,⟨some 7,none,.mv (.t 14)⟩]) (.seq (.seq (.reg [⟨some 15,none,.mv (.t 7)⟩,⟨some 16,none,.un .not (.t 15)⟩]) (.cond (.t 16) (.seq (.reg [⟨(some 17),none,(.build [(.str ⟨#[]⟩),.nil] [])⟩,⟨none,none,(.store 2 (.t 4) (.t 17))⟩,⟨some 5,none,.mv (.c (.bool false))⟩]) .ret) .skip)) (.seq (.reg [⟨some 18,none,.faddr 0 (.t 2)⟩,⟨some 19,none,.load false 1 (.t 18)⟩,⟨some 20,none,.mv (.t 6)⟩,⟨some 21,none,.iaddr 3 (.t 19) (.t 20)⟩,⟨some 22,none,.faddr 1 (.t 21)⟩,⟨some 23,none,.load true 2 (.t 22)⟩,⟨none,none,(.store 2 (.t 4) (.t 23))⟩,⟨some 5,none,.mv (.c (.bool true))⟩]) .ret))))
theorem Fb:codeOf Tryz.prog 280=some ⟨24,Du,[(.cell 4 true 2),(.tmp 5)]⟩:=by kernel_rfl
theorem A5:modes 280=⟨[],.frz,none,false⟩:=by unfold modes; rfl
theorem Qbt (b:Bd) (n:ByteArray):E 317 [b.sv,.str n] []=some (.int .i64 (ED b.var n),[]):=by
 have h:=Kc b.var n
 refine Ad HX BU (of_decide_eq_true rfl) ?_
 simp (disch:=omega) only [E6,go_sem,Aa,h,A8]
theorem Vs (xs:List Bd) (n:ByteArray) (hl:xs.length≤1099511627776) (hs:O5 xs):E 316 [.arr (xs.map Bd.d),.str n,.fn 317 []] []=some (.tup [.int .i64 (Bo xs n:Nat),.bool (El xs n)],[]):=by
 have hlow:=WX n xs
 obtain ⟨L,hL⟩:∃ L:Int,L=(Bo xs n:Nat):=⟨_,rfl⟩
 rw [←hL]
 refine Ad Cr AE (of_decide_eq_true rfl) ?_
 simp (disch:=omega) only [Be,go_sem,Aa]
 refine go_loop (α:=Int × Int) (fun a=>⟨slots 49 0 [(0,.arr (xs.map Bd.d)),(1,.str n),(2,.fn 317 []),(8,.int .i64 xs.length),(9,.int .i64 a.1),(10,.int .i64 a.2)],[]⟩) (fun a=>0≤a.1∧a.1≤L∧L≤a.2∧a.2≤xs.length) (fun a=>(a.2-a.1).toNat) (0,xs.length) ⟨by simp,by dsimp only; omega,by dsimp only; omega,by dsimp only; omega⟩ (by simp (disch:=omega) only [go_sem,Aa]) ?_
 rintro ⟨i,j⟩ ⟨h0,h1,h2,h3⟩
 dsimp only at h0 h1 h2 h3
 rcases Int.lt_or_le i j with hij | hij
 ·obtain ⟨m,hm⟩:∃ m:Nat,(i+j) / 2=(m:Int):=⟨((i+j) / 2).toNat,by omega⟩
  have hlt:m<xs.length:=by omega
  have hni:(m:Int).toNat=m:=yQ m
  have hg:=get_at Bd.d hlt
  rw [Bd.d_eq] at hg
  have hc:=Qbt xs[m] n
  have hw:IntKind.u64.wrap (i+j)=i+j:=wrap_u64 (by omega) (by omega)
  have hi:=Qd5 hs n hlt
  obtain ⟨M,hM⟩:∃ M:Int,(i+j) / 2=M:=⟨_,rfl⟩
  have hni:M.toNat=m:=by omega
  cases hq:strLt xs[m].var n with
  | true =>
   have hi2:=hi.1 hq
   simp (disch:=omega) only [go_sem,Aa,hw,hni,hg,hc,CU,BU,Y3,hq,hM]
   exact ⟨(M+1,j),⟨by dsimp only; omega,by dsimp only; omega,by dsimp only; omega,by dsimp only; omega⟩,by dsimp only; omega,by first | trivial | rfl⟩
  | false =>
   have hi2:¬ m<Bo xs n:=by rw [←hi,hq]; simp
   simp (disch:=omega) only [go_sem,Aa,hw,hni,hg,hc,CU,BU,Y3,hq,hM]
   exact ⟨(i,M),⟨by dsimp only; omega,by dsimp only; omega,by dsimp only; omega,by dsimp only; omega⟩,by dsimp only; omega,by first | trivial | rfl⟩
 ·obtain rfl:i=L:=by omega
  rcases zB (Bo xs n) xs.length with hlt | hge
  ·have hg:=get_at Bd.d hlt
   rw [Bd.d_eq] at hg
   have hni:i.toNat=Bo xs n:=by omega
   have hc:=Qbt xs[Bo xs n] n
   have hh:El xs n=dec (xs[Bo xs n].var=n):=by unfold El; rw [zT hlt]
   rw [hh]
   simp (disch:=omega) only [go_sem,Aa,hni,hg,hc,CU,BU,Qcu]
  ·have hh:El xs n=false:=by unfold El; rw [yT hge]
   rw [hh]
   simp (disch:=omega) only [go_sem,Aa]
theorem Y6 {α:Type} (p:α→Bool):∀ (xs:List α) (k:Nat) (i:Int) (h:k<xs.length),(∀ j (hj:j<k),p xs[j]=false)→p xs[k]=true→Dd p xs i=i+k
 | [],k,i,h,_,_=>absurd h (by simp)
 | x :: xs,0,i,h,_,hp=>by rw [Dd,if_pos (show p x=true from hp)]; simp
 | x :: xs,k+1,i,h,hb,hp=>by
  have h0:p x=false:=hb 0 (by omega)
  have:=Y6 p xs k (i+1) (by simpa using h) (fun j hj=>hb (j+1) (by omega)) hp
  rw [Dd,if_neg (by rw [h0]; simp),this]; omega
theorem WZ {α:Type} (p:α→Bool):∀ (xs:List α) (i:Int),(∀ j (hj:j<xs.length),p xs[j]=false)→Dd p xs i=-1
 | [],i,_=>by rw [Dd]
 | x :: xs,i,h=>by
  have h0:p x=false:=h 0 (by simp)
  rw [Dd,if_neg (by rw [h0]; simp)]
  exact WZ p xs (i+1) fun j hj=>h (j+1) (by simpa using hj)
theorem Te {xs:List Bd} (hs:O5 xs) (n:ByteArray):Dd (fun b=>dec (b.var=n)) xs 0=if El xs n then ((Bo xs n:Nat):Int) else -1:=by
 have before:∀ j (hj:j<xs.length),j<Bo xs n→dec (xs[j].var=n)=false:=fun j hj hL=>Ay (Y2 (L2 n xs j hj hL))
 rcases zB (Bo xs n) xs.length with hlt | hge
 ·have hh:El xs n=dec (xs[Bo xs n].var=n):=by unfold El; rw [zT hlt]
  cases hq:dec (xs[Bo xs n].var=n) with
  | true =>
   rw [hh,hq,if_pos rfl,Y6 _ xs (Bo xs n) 0 hlt (fun j hj=>before j (by omega) hj) hq]; omega
  | false =>
   rw [hh,hq,if_neg (by simp)]
   refine WZ _ xs 0 fun j hj=>?_
   rcases Nat.lt_trichotomy j (Bo xs n) with h | h | h
   ·exact before j hj h
   ·subst h; exact hq
   ·refine Ay fun e=>?_
    have h1:=hs _ _ h hj
    rw [e,WY n xs hlt] at h1
    cases h1
 ·have hh:El xs n=false:=by unfold El; rw [yT hge]
  rw [hh,if_neg (by simp)]
  exact WZ _ xs 0 fun j hj=>before j hj (by omega)
theorem Iz {xs:List Bd} {n:ByteArray} (h:El xs n=true):Bo xs n<xs.length:=by
 rcases zB (Bo xs n) xs.length with h1 | h1
 ·exact h1
 ·unfold El at h; rw [yT h1] at h; cases h
noncomputable def Sb.look (x:Sb) (n:ByteArray):Option Tm:=if h:El x.binds n=true then some (x.binds[Bo x.binds n]'(Iz h)).term else none
theorem Tf (x:Sb) (hx:O5 x.binds) (n:ByteArray) (hl:x.binds.length≤1099511627776) (hh:El x.binds n=true) (hlt:Bo x.binds n<x.binds.length):E 280 [x.sv,.str n] []=some (.tup [(x.binds[Bo x.binds n]).term.sv,.bool true],[]):=by
 have hb:=Vs x.binds n hl hx
 have hg:=get_at Bd.d hlt
 rw [Bd.d_eq] at hg
 have hni:((Bo x.binds n:Nat):Int).toNat=Bo x.binds n:=yQ _
 refine Ad Fb A5 (of_decide_eq_true rfl) ?_
 simp (disch:=omega) only [Du,go_sem,Aa,hb,hni,hg,hh,AE]
theorem Vt (x:Sb) (hx:O5 x.binds) (n:ByteArray) (hl:x.binds.length≤1099511627776) (hh:El x.binds n=false):E 280 [x.sv,.str n] []=some (.tup [.agg [.str ⟨#[]⟩,.arr []],.bool false],[]):=by
 have hb:=Vs x.binds n hl hx
 refine Ad Fb A5 (of_decide_eq_true rfl) ?_
 simp (disch:=omega) only [Du,go_sem,Aa,hb,hh,AE]
theorem Qat (x:Sb) (hx:x.ok=true) (n:ByteArray) (hl:x.binds.length≤1099511627776) (hh:El x.binds n=true) (hlt:Bo x.binds n<x.binds.length):E 280 [x.sv,.str n] []=some (.tup [(x.binds[Bo x.binds n]).term.sv,.bool true],[]):=Tf x (Sb.K5 hx) n hl hh hlt
theorem Qcw (x:Sb) (hx:x.ok=true) (n:ByteArray) (hl:x.binds.length≤1099511627776) (hh:El x.binds n=false):E 280 [x.sv,.str n] []=some (.tup [.agg [.str ⟨#[]⟩,.arr []],.bool false],[]):=Vt x (Sb.K5 hx) n hl hh
mutual
noncomputable def Tm.ap (f:ByteArray→Option Tm):Tm→Tm
 | .mk name args=>if Ao name then (f name).getD (.mk name []) else .mk name (Tm.apL f args)
noncomputable def Tm.apL (f:ByteArray→Option Tm):List Tm→List Tm
 | []=>[]
 | x :: xs=>Tm.ap f x :: Tm.apL f xs
end
theorem Tm.I1 (f:ByteArray→Option Tm) (x:Tm):x.ap f=if Ao x.name then (f x.name).getD (.mk x.name []) else .mk x.name (Tm.apL f x.args):=by
 obtain ⟨name,args⟩:=x
 rw [Tm.ap]; rfl
theorem Tm.R8 (f:ByteArray→Option Tm):∀ xs:List Tm,(Tm.apL f xs).length=xs.length
 | []=>by rw [Tm.apL]
 | x :: xs=>by rw [Tm.apL]; simp only [zP,Tm.R8 f xs]
theorem Tm.O6 (f:ByteArray→Option Tm):∀ xs:List Tm,Tm.apL f xs=xs.map (Tm.ap f)
 | []=>by rw [Tm.apL]; rfl
 | x :: xs=>by rw [Tm.apL,Tm.O6 f xs]; rfl
def okF (f:ByteArray→Option Tm):Prop:=∀ n t,f n=some t→t.names=true∧t.nodes≤30
theorem Tm.O7 (f:ByteArray→Option Tm):∀ xs:List Tm,(∀ y∈xs,(y.ap f).names=true)→Tm.Ez (Tm.apL f xs)=true
 | [],_=>by rw [Tm.apL,Tm.Ez]
 | x :: xs,h=>by rw [Tm.apL,Tm.Ez,h x (by simp),Tm.O7 f xs fun y hy=>h y (by simp [hy])]; rfl
theorem Tm.L3 {f:ByteArray→Option Tm} (hf:okF f) (x:Tm) (hx:x.names=true):(x.ap f).names=true:=by
 rw [Tm.I1]
 rw [Tm.EZ] at hx
 split
 ·rename_i hv
  cases hq:f x.name with
  | none =>
   rw [y6,Tm.EZ]
   show (if Ao x.name then _ else _)=true
   rw [if_pos hv]; rfl
  | some t=>exact (hf _ _ hq).1
 ·rename_i hv
  rw [if_neg hv,zA,zA] at hx
  rw [Tm.EZ]
  show (if Ao x.name then _ else Fy x.name&&decide ((Tm.apL f x.args).length≤4)&&Tm.Ez (Tm.apL f x.args))=true
  rw [if_neg hv,Tm.R8,hx.1.1,hx.1.2,Tm.O7 f x.args fun y hy=>Tm.L3 hf y (by
   have:=hx.2
   rw [Tm.D6,zN] at this
   exact this y hy)]
  rfl
termination_by SizeOf.sizeOf x
decreasing_by exact Tm.lt_of_mem hy
theorem Tm.Y7 {f:ByteArray→Option Tm}:∀ xs:List Tm,(∀ y∈xs,(y.ap f).nodes≤30*y.nodes)→Tm.Bf (Tm.apL f xs)≤30*Tm.Bf xs
 | [],_=>by rw [Tm.apL,Tm.Bf]; omega
 | x :: xs,h=>by
  have h1:=h x (by simp)
  have h2:=Tm.Y7 xs fun y hy=>h y (by simp [hy])
  rw [Tm.apL,Tm.Bf,Tm.Bf]; omega
theorem Tm.J2 {f:ByteArray→Option Tm} (hf:okF f) (x:Tm):(x.ap f).nodes≤30*x.nodes:=by
 have hp:=Tm.Mt x
 rw [Tm.I1]
 split
 ·cases hq:f x.name with
  | none =>
   have:(Tm.mk x.name []).nodes=1+Tm.Bf []:=Tm.An (Tm.mk x.name [])
   rw [Tm.Bf] at this
   rw [y6]; omega
  | some t=>have:=(hf _ _ hq).2; rw [Option.getD_some]; omega
 ·have h1:(Tm.mk x.name (Tm.apL f x.args)).nodes=1+Tm.Bf (Tm.apL f x.args):=Tm.An (Tm.mk x.name (Tm.apL f x.args))
  have h2:=Tm.Y7 (f:=f) x.args fun y hy=>Tm.J2 hf y
  have h3:=Tm.An x
  omega
termination_by SizeOf.sizeOf x
decreasing_by exact Tm.lt_of_mem hy
theorem Tm.Qd6 {f:ByteArray→Option Tm} (hf:okF f) (x:Tm) (hx:(x.valid || x.atom)=true):((x.ap f).valid || (x.ap f).atom)=(x.ap f).small:=by
 cases hs:(x.ap f).small with
 | false =>
  have h1:(x.ap f).valid=false:=by unfold Tm.valid; rw [hs]; rfl
  have h2:(x.ap f).atom=false:=by
   unfold Tm.atom; split
   ·rw [hs,zM,yM]
   ·rw [h1,zM]
  rw [h1,h2]; rfl
 | true =>
  cases hn:x.names with
  | true =>
   have:(x.ap f).valid=true:=by unfold Tm.valid; rw [hs,Tm.L3 hf x hn]; rfl
   rw [this]; rfl
  | false =>
   have hv:x.valid=false:=by unfold Tm.valid; rw [hn,zM]
   rw [hv,y5] at hx
   unfold Tm.atom at hx
   split at hx
   ·rename_i he
    rw [zA,zA] at hx
    have hname:x.name=⟨#[61]⟩:=by unfold Tm.eqn at he; exact Ar.1 he
    have hnv0:Ao ⟨#[61]⟩=false:=by kernel_rfl
    have hnv:¬ (Ao x.name=true):=by rw [hname,hnv0]; simp
    have e:x.ap f=.mk x.name (Tm.apL f x.args):=by rw [Tm.I1,if_neg hnv]
    have:(x.ap f).atom=true:=by
     have he2:(x.ap f).eqn=true:=by rw [e]; exact he
     unfold Tm.atom
     rw [if_pos he2,hs]
     rw [e]
     show ((Tm.apL f x.args).length == 2&&true&&Tm.Ez (Tm.apL f x.args))=true
     rw [Tm.R8,hx.1.1,Tm.O7 f x.args fun y hy=>Tm.L3 hf y (by
      have:=hx.2
      rw [Tm.D6,zN] at this
      exact this y hy)]
     rfl
    rw [this,Bool.or_true]
   ·rw [hv,zM] at hx; cases hx
theorem Tm.EH {x:Tm} (h:x.names=true) (hv:Ao x.name=true):x.args=[]:=by
 rw [Tm.EZ,if_pos hv] at h
 exact zE (by simpa using h)
theorem Tm.Eg {x:Tm} (h:x.names=true) {y:Tm} (hy:y∈x.args):y.names=true:=by
 rw [Tm.EZ] at h
 split at h
 ·have:x.args=[]:=zE (by simpa using h)
  rw [this] at hy; cases hy
 ·rw [zA,Tm.D6,zN] at h
  exact h.2 y hy
theorem Sb.K6 {x:Sb} (h:x.ok=true) {k:Nat} (hk:k<x.binds.length):Il x.binds[k]=true:=by
 unfold Sb.ok at h
 rw [zA] at h
 exact QeR hk (Qbs h.2 hk)
theorem Y8 {x:Bd} (h:Il x=true):Ao x.var=true:=by unfold Il at h; rw [zA] at h; exact h.1
theorem DM {x:Bd} (h:Il x=true):x.term.valid=true:=by unfold Il at h; rw [zA,zA] at h; exact h.2.1
theorem Xa {xs:List Bd} {n:ByteArray} (h:El xs n=true) (hlt:Bo xs n<xs.length):(xs[Bo xs n]).var=n:=by
 have hh:El xs n=dec (xs[Bo xs n].var=n):=by unfold El; rw [zT hlt]
 rw [hh] at h
 exact Ar.1 h
theorem Sb.FF {x:Sb} (h:x.ok=true):okF x.look:=by
 intro n t ht
 unfold Sb.look at ht
 split at ht
 ·rename_i hh
  have hv:=DM (Sb.K6 h (Iz hh))
  obtain rfl:=yP ht
  unfold Tm.valid Tm.small at hv
  rw [zA,zA,decide_eq_true_eq] at hv
  exact ⟨hv.2,hv.1.1⟩
 ·cases ht
theorem Sb.L4 {x:Sb} {n:ByteArray} (h:El x.binds n=true) (hlt:Bo x.binds n<x.binds.length):x.look n=some (x.binds[Bo x.binds n]).term:=by
 unfold Sb.look; rw [dif_pos h]
theorem Sb.R9 {x:Sb} {n:ByteArray} (h:El x.binds n=false):x.look n=none:=by
 unfold Sb.look; rw [dif_neg (by rw [h]; simp)]
def Sb.fine (s:Sb):Prop:=O5 s.binds∧∀ b∈s.binds,Ao b.var=true
theorem Sb.Xb {s:Sb} (h:s.ok=true):s.fine:=⟨Sb.K5 h,fun b hb=>by
 obtain ⟨k,hk,rfl⟩:=zX hb
 exact Y8 (Sb.K6 h hk)⟩
def Ck:SC:=(.seq (.reg [⟨some 2,none,.boxv 142 1 (.t 0)⟩,⟨some 3,none,.boxv 33 2 (.t 1)⟩,⟨(some 4),none,(.alloc 33 [(.str ⟨#[]⟩),.nil])⟩]) (.seq (.seq (.reg [⟨some 10,none,.faddr 1 (.t 3)⟩,⟨some 11,none,.load false 1 (.t 10)⟩,⟨some 12,none,.len false (.t 11)⟩,⟨some 13,none,.bin .eql false (.t 12) (.c (.int .i64 0))⟩]) (.cond (.t 13) (.seq (.seq (.reg [⟨some 15,none,.load true 1 (.t 2)⟩,⟨some 16,none,.faddr 0 (.t 3)⟩,⟨some 17,none,.load false 1 (.t 16)⟩,⟨some 18,none,.call 280 [(.t 15),(.t 17)]⟩,⟨some 14,none,.mv (.t 18)⟩,⟨some 19,none,.ext (.t 14) 0⟩,⟨some 20,none,.ext (.t 14) 1⟩,⟨(some 5),none,(.alloc 33 [(.str ⟨#[]⟩),.nil])⟩,⟨none,none,(.store 2 (.t 5) (.t 19))⟩,⟨some 6,none,.mv (.t 20)⟩]) (.seq (.reg [⟨some 21,none,.mv (.t 6)⟩]) (.cond (.t 21) (.seq (.reg [⟨some 22,none,.load true 2 (.t 5)⟩,⟨some 23,none,.call 187 [(.t 22)]⟩,⟨none,none,(.store 2 (.t 4) (.t 23))⟩]) .ret) .skip))) (.seq (.reg [⟨some 24,none,.faddr 0 (.t 3)⟩,⟨some 25,none,.load false 1 (.t 24)⟩,⟨(some 26),none,(.build [(.str ⟨#[]⟩),.nil] [(0,(1,(.t 25)))])⟩,⟨none,none,(.store 2 (.t 4) (.t 26))⟩]) .ret)) .skip)) (.seq (.dreg [[],[0],[],[2],[3,2],[4,3,2],[1,0,5,4,3,2],[],[7,6,1,0,5,4,3,2]] [⟨some 27,none,.faddr 0 (.t 3)⟩,⟨some 28,none,.load false 1 (.t 27)⟩,⟨some 29,none,.faddr 1 (.t 3)⟩,⟨some 30,none,.load false 1 (.t 29)⟩,⟨some 31,none,.len false (.t 30)⟩,⟨(some 32),none,(.mkslice 33 2 40 [(.str ⟨#[]⟩),.nil] (.t 31))⟩,⟨(some 33),none,(.build [(.str ⟨#[]⟩),.nil] [(0,(1,(.t 28))),(1,(1,(.t 32)))])⟩,⟨(some 7),none,(.alloc 33 [(.str ⟨#[]⟩),.nil])⟩,⟨none,none,(.store 2 (.t 7) (.t 33))⟩]) (.seq (.seq (.reg [⟨some 34,none,.faddr 1 (.t 3)⟩,⟨some 35,none,.load false 1 (.t 34)⟩,⟨some 36,none,.len false (.t 35)⟩,⟨some 37,none,.mv (.c (.int .i64 0))⟩]) (.block 0 (.loop [0,0,1,0,1,0,0,1,0,0,0,0,0,0,0,0,0,0,0,0,0,0,0,0,0,0,0,0,0,0,0,0,0,0,0,1,1,1,0,0,0,0,0,0,0,0,0,0,0,0,0] (.seq (.reg [⟨some 38,none,.bin .lss false (.t 37) (.t 36)⟩]) (.seq (.cond (.t 38) .skip (.exit 0)) (.seq (.block 1 (.seq (.reg [⟨some 39,none,.mv (.t 37)⟩,⟨some 40,none,.iaddr 2 (.t 35) (.t 37)⟩,⟨some 41,none,.load true 2 (.t 40)⟩,⟨(some 9),none,(.alloc 33 [(.str ⟨#[]⟩),.nil])⟩,⟨some 8,none,.mv (.t 39)⟩,⟨none,none,(.store 2 (.t 9) (.t 41))⟩]) (.dreg [[],[0],[],[],[],[3,4],[1,0,2,3,4,5],[6,1,0,2,3,4,5]] [⟨some 42,none,.faddr 1 (.t 7)⟩,⟨some 43,none,.load false 1 (.t 42)⟩,⟨some 44,none,.mv (.t 8)⟩,⟨some 45,none,.load true 1 (.t 2)⟩,⟨some 46,none,.load true 2 (.t 9)⟩,⟨some 47,none,.call 276 [(.t 45),(.t 46)]⟩,⟨some 48,none,.iaddr 2 (.t 43) (.t 44)⟩,⟨none,none,(.store 2 (.t 48) (.t 47))⟩]))) (.reg [⟨some 49,none,.bin .add false (.t 37) (.c (.int .i64 1))⟩,⟨some 37,none,.mv (.t 49)⟩]))))))) (.seq (.reg [⟨some 50,none,.load true 2 (.t 7)⟩,⟨none,none,(.store 2 (.t 4) (.t 50))⟩]) .ret)))))
theorem De:codeOf Tryz.prog 276=some ⟨51,Ck,[(.cell 4 true 2)]⟩:=by kernel_rfl
theorem Aw:modes 276=⟨[],.own [none,some (33,2)],none,false⟩:=by unfold modes; rfl
def FG:SC:=(.seq (.reg [⟨some 2,none,.boxv 142 1 (.t 0)⟩,⟨some 3,none,.boxv 33 2 (.t 1)⟩,⟨(some 4),none,(.alloc 33 [(.str ⟨#[]⟩),.nil])⟩]) (.seq (.seq (.reg [⟨some 8,none,.faddr 0 (.t 3)⟩,⟨some 9,none,.load false 1 (.t 8)⟩,⟨some 10,none,.call 191 [(.t 9)]⟩]) (.cond (.t 10) (.seq (.seq (.reg [⟨some 11,none,.load true 1 (.t 2)⟩,⟨some 12,none,.faddr 0 (.t 3)⟩,⟨some 13,none,.load false 1 (.t 12)⟩,⟨some 14,none,.call 239 [(.t 11),(.t 13)]⟩,⟨some 5,none,.mv (.t 14)⟩]) (.seq (.reg [⟨some 15,none,.mv (.t 5)⟩,⟨some 16,none,.bin .geq false (.t 15) (.c (.int .i64 0))⟩]) (.cond (.t 16) (.seq (.reg [⟨some 17,none,.faddr 0 (.t 2)⟩,⟨some 18,none,.load false 1 (.t 17)⟩,⟨some 19,none,.mv (.t 5)⟩,⟨some 20,none,.iaddr 3 (.t 18) (.t 19)⟩,⟨some 21,none,.faddr 1 (.t 20)⟩,⟨some 22,none,.load true 2 (.t 21)⟩,⟨some 23,none,.call 135 [(.t 22)]⟩,⟨none,none,(.store 2 (.t 4) (.t 23))⟩]) .ret) .skip))) (.seq (.reg [⟨some 24,none,.faddr 0 (.t 3)⟩,⟨some 25,none,.load false 1 (.t 24)⟩,⟨(some 26),none,(.build [(.str ⟨#[]⟩),.nil] [(0,(1,(.t 25)))])⟩,⟨none,none,(.store 2 (.t 4) (.t 26))⟩]) .ret)) .skip)) (.seq (.reg [⟨some 27,none,.faddr 0 (.t 3)⟩,⟨some 28,none,.load false 1 (.t 27)⟩,⟨(some 29),none,(.build [(.str ⟨#[]⟩),.nil] [(0,(1,(.t 28)))])⟩,⟨(some 6),none,(.alloc 33 [(.str ⟨#[]⟩),.nil])⟩,⟨none,none,(.store 2 (.t 6) (.t 29))⟩]) (.seq (.seq (.reg [⟨some 7,none,.mv (.c (.int .i64 0))⟩]) (.block 0 (.loop [0,0,1,1,1,0,1,1,0,0,0,0,0,0,0,0,0,0,0,0,0,0,0,0,0,0,0,0,0,0,0,0,0,0,0,0,0,0,0,0,0,0,0,0,0,0,0,0,0,0] (.seq (.seq (.reg [⟨some 30,none,.mv (.t 7)⟩,⟨some 31,none,.faddr 1 (.t 3)⟩,⟨some 32,none,.load false 1 (.t 31)⟩,⟨some 33,none,.len false (.t 32)⟩,⟨some 34,none,.bin .lss false (.t 30) (.t 33)⟩]) (.cond (.t 34) .skip (.exit 0))) (.seq (.block 1 (.dreg [[],[0],[],[],[3],[],[4,3,5],[6,4,3,5],[2,7,6,4,3,5],[8,2,7,6,4,3,5],[1,0,9,8,2,7,6,4,3,5],[0,1,2,3,4,5,6,7,8,9,10],[11,0,1,2,3,4,5,6,7,8,9,10]] [⟨some 37,none,.faddr 1 (.t 6)⟩,⟨some 38,none,.load false 1 (.t 37)⟩,⟨some 39,none,.load true 1 (.t 2)⟩,⟨some 40,none,.faddr 1 (.t 3)⟩,⟨some 41,none,.load false 1 (.t 40)⟩,⟨some 42,none,.mv (.t 7)⟩,⟨some 43,none,.iaddr 2 (.t 41) (.t 42)⟩,⟨some 44,none,.load true 2 (.t 43)⟩,⟨some 45,none,.call 173 [(.t 39),(.t 44)]⟩,⟨(some 46),none,(.mkrow 33 2 [(.str ⟨#[]⟩),.nil] 1 [(0,(.t 45))])⟩,⟨(some 47),none,(.append 33 2 40 [(.str ⟨#[]⟩),.nil] (.t 38) (.t 46))⟩,⟨some 48,none,.faddr 1 (.t 6)⟩,⟨none,none,(.store 1 (.t 48) (.t 47))⟩])) (.reg [⟨some 35,none,.mv (.t 7)⟩,⟨some 36,none,.bin .add false (.t 35) (.c (.int .i64 1))⟩,⟨some 7,none,.mv (.t 36)⟩])))))) (.seq (.reg [⟨some 49,none,.load true 2 (.t 6)⟩,⟨none,none,(.store 2 (.t 4) (.t 49))⟩]) .ret)))))
theorem HY:codeOf Tryz.prog 173=some ⟨50,FG,[(.cell 4 true 2)]⟩:=by kernel_rfl
theorem AG:modes 173=⟨[],.frz,none,false⟩:=by unfold modes; rfl
theorem Y9 (s:Sb) (hs:s.fine) (ht:s.tame) (x:Tm) (hx:Ao x.name=true→x.args=[]) (hn:x.nodes≤1099511627776) (ih:∀ y∈x.args,E 276 [s.sv,y.sv] []=some ((y.ap s.look).osv,(y.ap s.look).obs)):E 276 [s.sv,x.sv] []=some ((x.ap s.look).osv,(x.ap s.look).obs):=by
 have hsl:=ht.1
 have hl:=Tm.length_le x.args
 have hne:=Tm.An x
 rcases zH x.args.length with h0 | h0
 ·have hx0:x.args=[]:=zE h0
  cases hh:El s.binds x.name with
  | true =>
   have hlt:=Iz hh
   have hc:=Tf s hs.1 x.name hsl hh hlt
   have hd:=Ke (s.binds[Bo s.binds x.name]).term (Sb.tame_at ht hlt)
   have hv:Ao x.name=true:=by rw [←Xa hh hlt]; exact hs.2 _ (zD hlt)
   have e:x.ap s.look=(s.binds[Bo s.binds x.name]).term:=by rw [Tm.I1,if_pos hv,Sb.L4 hh hlt]; rfl
   rw [e]
   refine Ad De Aw (of_decide_eq_true rfl) ?_
   simp (disch:=omega) only [Ck,go_sem,Aa,hx0,hc,hd,zL,zY,A5,AZ,Tm.osv,Tm.obs]
  | false =>
   have hc:=Vt s hs.1 x.name hsl hh
   have e:x.ap s.look=.mk x.name []:=by
    rw [Tm.I1,Sb.R9 hh,hx0]
    split
    ·rfl
    ·rw [Tm.apL]
   rw [e]
   have e1:(Tm.mk x.name []).osv=.agg [.str x.name,.ref 0]:=rfl
   have e2:(Tm.mk x.name []).obs=[.row 33 2 []]:=rfl
   rw [e1,e2]
   refine Ad De Aw (of_decide_eq_true rfl) ?_
   simp (disch:=omega) only [Ck,go_sem,Aa,hx0,hc,zL,zY,A5]
 ·have hv:¬ Ao x.name=true:=fun h=>by rw [hx h] at h0; simp at h0
  have e:x.ap s.look=.mk x.name (x.args.map (Tm.ap s.look)):=by rw [Tm.I1,if_neg hv,Tm.O6]
  rw [e]
  have e1:(Tm.mk x.name (x.args.map (Tm.ap s.look))).osv=.agg [.str x.name,.ref 0]:=rfl
  have e2:(Tm.mk x.name (x.args.map (Tm.ap s.look))).obs=[.row 33 2 ((x.args.map (Tm.ap s.look)).map Tm.o)]:=rfl
  rw [e1,e2]
  have hrl:List.replicate x.args.length ([.str ⟨#[]⟩,.ow []]:List OT)=FW Tm.o [.str ⟨#[]⟩,.ow []] (x.args.map (Tm.ap s.look)) 0:=by rw [HM,zC]
  refine Ad De Aw (of_decide_eq_true rfl) ?_
  simp (disch:=omega) only [Ck,go_sem,Aa]
  refine go_loop (α:=Int) (fun a=>⟨slots 51 0 [(2,.ptr 0 0),(4,.ptr 1 0),(7,.ptr 2 0),(35,.arr (x.args.map Tm.d)),(36,.int .i64 x.args.length),(37,.int .i64 a)],[.box 142 [.arr (s.binds.map Bd.d)],.box 33 [.str ⟨#[]⟩,.nil],.box 33 [.str x.name,.ref 3],.row 33 2 (FW Tm.o [.str ⟨#[]⟩,.ow []] (x.args.map (Tm.ap s.look)) a.toNat)]⟩) (fun a=>∃ k:Nat,a=k∧k≤(x.args).length) (fun a=>(x.args).length-(a).toNat) 0 ⟨0,rfl,zF _⟩ (by simp (disch:=omega) only [go_sem,Aa,hrl,yD]) ?_
  rintro i ⟨k,hi,hk⟩
  have hni:i.toNat=k:=by omega
  have hni1:(i+1).toNat=k+1:=by omega
  rcases zB k (x.args).length with hlt | hge
  ·have hg:=get_at Tm.d hlt
   rw [Tm.d_eq] at hg
   have hltm:k<(x.args.map (Tm.ap s.look)).length:=by rw [zC]; exact hlt
   have hz:=Jt Tm.o [.str ⟨#[]⟩,.ow []] hltm
   have hc:=ih x.args[k] (zD hlt)
   have hse:=Ju Tm.o [.str ⟨#[]⟩,.ow []] hltm
   rw [Tm.o_eq,yC] at hse
   simp (disch:=omega) only [go_sem,Aa,hni,hg,hc,hz,Jr,zC,Aw,Tm.osv,Tm.obs]
   refine ⟨i+1,⟨k+1,by omega,hlt⟩,by omega,?_⟩
   simp (disch:=omega) only [go_sem,Aa,hni1,hse]
  ·obtain rfl:k=x.args.length:=by omega
   have hend:FW Tm.o [.str ⟨#[]⟩,.ow []] (x.args.map (Tm.ap s.look)) x.args.length=(x.args.map (Tm.ap s.look)).map Tm.o:=by
    have:=Js Tm.o [.str ⟨#[]⟩,.ow []] (xs:=x.args.map (Tm.ap s.look))
    rwa [zC] at this
   simp (disch:=omega) only [go_sem,Aa,hni,hend]
theorem Qbu (s:Sb) (hs:s.fine) (ht:s.tame) (x:Tm) (hx:x.names=true) (hn:x.nodes≤1099511627776):E 276 [s.sv,x.sv] []=some ((x.ap s.look).osv,(x.ap s.look).obs) :=
 Y9 s hs ht x (Tm.EH hx) hn fun y hy=>Qbu s hs ht y (Tm.Eg hx hy) (by have:=Tm.AW hy; have:=Tm.An x; omega)
termination_by SizeOf.sizeOf x
decreasing_by exact Tm.lt_of_mem hy
theorem Qbv (s:Sb) (hs:s.ok=true) (ht:s.tame) (x:Tm) (hx:x.names=true) (hn:x.nodes≤1099511627776):E 276 [s.sv,x.sv] []=some ((x.ap s.look).osv,(x.ap s.look).obs):=Qbu s (Sb.Xb hs) ht x hx hn
theorem Qau (s:Sb) (hs:s.fine) (ht:s.tame) (x:Tm) (hn:x.nodes≤1099511627776) (ih:∀ y∈x.args,E 173 [s.sv,y.sv] []=some ((y.ap s.look).sv,[])):E 173 [s.sv,x.sv] []=some ((x.ap s.look).sv,[]):=by
 have hsl:=ht.1
 have hl:=Tm.length_le x.args
 have hne:=Tm.An x
 have hf:=Y5 s x.name hsl
 rw [Te hs.1] at hf
 cases hv:Ao x.name with
 | true =>
  cases hh:El s.binds x.name with
  | true =>
   have hlt:=Iz hh
   have hg:=get_at Bd.d hlt
   rw [Bd.d_eq] at hg
   have hni:((Bo s.binds x.name:Nat):Int).toNat=Bo s.binds x.name:=yQ _
   have hd:=O1 (s.binds[Bo s.binds x.name]).term (Sb.tame_at ht hlt)
   have e:x.ap s.look=(s.binds[Bo s.binds x.name]).term:=by rw [Tm.I1,if_pos hv,Sb.L4 hh hlt]; rfl
   rw [hh,if_pos rfl] at hf
   rw [e]
   refine Ad HY AG (of_decide_eq_true rfl) ?_
   simp (disch:=omega) only [FG,go_sem,Aa,hv,hf,hg,hni,hd,BQ,Ah,Am,Cv]
  | false =>
   have e:x.ap s.look=.mk x.name []:=by rw [Tm.I1,if_pos hv,Sb.R9 hh]; rfl
   rw [hh,if_neg (by simp)] at hf
   rw [e]
   have e1:(Tm.mk x.name []).sv=.agg [.str x.name,.arr []]:=rfl
   rw [e1]
   refine Ad HY AG (of_decide_eq_true rfl) ?_
   simp (disch:=omega) only [FG,go_sem,Aa,hv,hf,BQ,Ah,Am]
 | false =>
  have e:x.ap s.look=.mk x.name (x.args.map (Tm.ap s.look)):=by rw [Tm.I1,if_neg (by rw [hv]; simp),Tm.O6]
  rw [e]
  have e1:(Tm.mk x.name (x.args.map (Tm.ap s.look))).sv=.agg [.str x.name,.arr ((x.args.map (Tm.ap s.look)).map Tm.d)]:=rfl
  rw [e1]
  have h10:((1:Int)=0)=False:=by simp
  have hfu:=Tm.O0 (x.args.map (Tm.ap s.look))
  have her:=Tm.WV (x.args.map (Tm.ap s.look))
  refine Ad HY AG (of_decide_eq_true rfl) ?_
  simp (disch:=omega) only [FG,go_sem,Aa,hv,BQ,Ah,Am]
  refine go_loop (α:=Int) (fun a=>⟨slots 50 0 [(2,.ptr 0 0),(3,.ptr 1 0),(4,.ptr 2 0),(6,.ptr 3 0),(7,.int .i64 a)],(if a=0 then [.box 142 [.arr (s.binds.map Bd.d)],.box 33 [.str x.name,.arr (x.args.map Tm.d)],.box 33 [.str ⟨#[]⟩,.nil],.box 33 [.str x.name,.nil]] else [.box 142 [.arr (s.binds.map Bd.d)],.box 33 [.str x.name,.arr (x.args.map Tm.d)],.box 33 [.str ⟨#[]⟩,.nil],.box 33 [.str x.name,.ref 4],.row 33 2 (((x.args.map (Tm.ap s.look)).take a.toNat).map Tm.osh)])⟩) (fun a=>∃ k:Nat,a=k∧k≤(x.args).length) (fun a=>(x.args).length-(a).toNat) 0 ⟨0,rfl,zF _⟩ (by simp (disch:=omega) only [go_sem,Aa,eq_self,if_true]) ?_
  rintro i ⟨k,hi,hk⟩
  have hni:i.toNat=k:=by omega
  have hni1:(i+1).toNat=k+1:=by omega
  rcases zB k (x.args).length with hlt | hge
  ·have hg:=get_at Tm.d hlt
   rw [Tm.d_eq] at hg
   have hltm:k<(x.args.map (Tm.ap s.look)).length:=by rw [zC]; exact hlt
   have hc:=ih x.args[k] (zD hlt)
   have hse:=DX Tm.osh hltm
   rw [Tm.ST,yC] at hse
   rcases zH k with h0 | h0
   ·subst h0
    obtain rfl:i=0:=hi
    rw [z7,zL,zU] at hse
    simp (disch:=omega) only [go_sem,Aa,hni,hg,hc,AG,eq_self,if_true]
    refine ⟨1,⟨1,rfl,hlt⟩,by omega,?_⟩
    simp (disch:=omega) only [go_sem,Aa,h10,if_false,hse]
   ·have hi0:(i=0)=False:=by simp; omega
    have hi1:(i+1=0)=False:=by simp; omega
    have htl:((x.args.map (Tm.ap s.look)).take k).length=k:=by rw [zQ]; omega
    simp (disch:=omega) only [go_sem,Aa,hni,hg,hc,AG,hi0,if_false,htl]
    refine ⟨i+1,⟨k+1,by omega,hlt⟩,by omega,?_⟩
    simp (disch:=omega) only [go_sem,Aa,hni1,hi1,if_false,hse]
  ·obtain rfl:k=x.args.length:=by omega
   have hta:(x.args.map (Tm.ap s.look)).take x.args.length=x.args.map (Tm.ap s.look):=by
    have:=zR (l:=x.args.map (Tm.ap s.look))
    rwa [zC] at this
   rcases zH x.args.length with h0 | h0
   ·have hx:x.args=[]:=zE h0
    obtain rfl:i=0:=by omega
    simp (disch:=omega) only [go_sem,Aa,hni,hx,eq_self,if_true,zL,zY]
   ·have hi0:(i=0)=False:=by simp; omega
    simp (disch:=omega) only [go_sem,Aa,hni,hi0,if_false,hta,hfu,her]
theorem Vu (s:Sb) (hs:s.fine) (ht:s.tame) (x:Tm) (hn:x.nodes≤1099511627776):E 173 [s.sv,x.sv] []=some ((x.ap s.look).sv,[]) :=
 Qau s hs ht x hn fun y hy=>Vu s hs ht y (by have:=Tm.AW hy; have:=Tm.An x; omega)
termination_by SizeOf.sizeOf x
decreasing_by exact Tm.lt_of_mem hy
theorem PJ (s:Sb) (hs:s.ok=true) (ht:s.tame) (x:Tm) (hn:x.nodes≤1099511627776):E 173 [s.sv,x.sv] []=some ((x.ap s.look).sv,[]):=Vu s (Sb.Xb hs) ht x hn
noncomputable def Tm.expr (x:Tm):Bool:=x.valid || x.atom
theorem Tm.Tg {x:Tm} (h:x.expr=true):x.small=true:=by
 unfold Tm.expr Tm.atom Tm.valid at h
 cases hs:x.small with
 | true=>rfl
 | false =>
  rw [hs] at h
  split at h <;> simp at h
theorem Tm.As {x:Tm} (h:x.expr=true):x.nodes≤30:=by
 have:=Tm.Tg h
 unfold Tm.small at this
 rw [zA,decide_eq_true_eq] at this
 exact this.1
theorem Tm.Qbw {x:Tm} (h:x.eqn=true):Ao x.name=false:=by
 unfold Tm.eqn at h
 rw [Ar.1 h]
 kernel_rfl
theorem Tm.Kf {x:Tm} (h:x.expr=true):x.names=true∨(x.eqn=true∧Tm.Ez x.args=true):=by
 unfold Tm.expr Tm.valid at h
 cases hn:x.names with
 | true=>exact .inl rfl
 | false =>
  rw [hn,zM,y5] at h
  unfold Tm.atom at h
  split at h
  ·rename_i he
   rw [zA] at h
   exact .inr ⟨he,h.2⟩
  ·unfold Tm.valid at h; rw [hn,zM,zM] at h; cases h
theorem Tm.YA {x:Tm} (h:x.expr=true):Ao x.name=true→x.args=[]:=by
 intro hv
 rcases Tm.Kf h with h1 | ⟨h1,h2⟩
 ·exact Tm.EH h1 hv
 ·rw [Tm.Qbw h1] at hv; cases hv
theorem Tm.J3 {x:Tm} (h:x.expr=true) {y:Tm} (hy:y∈x.args):y.names=true:=by
 rcases Tm.Kf h with h1 | ⟨h1,h2⟩
 ·exact Tm.Eg h1 hy
 ·rw [Tm.D6,zN] at h2; exact h2 y hy
theorem Tm.Th:∀ xs:List Tm,(∀ x∈xs,x.nodes≤1+x.bulk)→Tm.Bf xs≤xs.length+Tm.sumB xs
 | [],_=>by simp [Tm.Bf]
 | x :: xs,h=>by
  have h1:=h x (by simp)
  have h2:=Tm.Th xs fun y hy=>h y (by simp [hy])
  rw [Tm.Bf,Tm.sumB]; simp only [zP]; omega
theorem Tm.Ti (x:Tm):x.nodes≤1+x.bulk:=by
 rw [Tm.An,Tm.bulk_eq]
 have:=Tm.Th x.args fun y hy=>Tm.Ti y
 omega
termination_by SizeOf.sizeOf x
decreasing_by exact Tm.lt_of_mem hy
theorem Vv {s:ByteArray} (h:Ao s=true):s.size≤6:=by
 unfold Ao inB at h
 simp at h
 omega
theorem Vw {s:ByteArray} (h:Fy s=true):s.size≤6:=by
 unfold Fy inB at h
 simp at h
 omega
theorem Tm.N4:∀ xs:List Tm,(∀ x∈xs,x.bulk+1≤8*x.nodes)→xs.length+Tm.sumB xs≤8*Tm.Bf xs
 | [],_=>by simp [Tm.Bf,Tm.sumB]
 | x :: xs,h=>by
  have h1:=h x (by simp)
  have h2:=Tm.N4 xs fun y hy=>h y (by simp [hy])
  rw [Tm.Bf,Tm.sumB]; simp only [zP]; omega
theorem Tm.Tj (x:Tm) (h:x.names=true):x.bulk+1≤8*x.nodes:=by
 have h1:=Tm.N4 x.args fun y hy=>Tm.Tj y (Tm.Eg h hy)
 have h2:x.name.size≤6:=by
  rw [Tm.EZ] at h
  split at h
  ·rename_i hv; exact Vv hv
  ·rw [zA,zA] at h; exact Vw h.1.1
 rw [Tm.An,Tm.bulk_eq]
 omega
termination_by SizeOf.sizeOf x
decreasing_by exact Tm.lt_of_mem hy
theorem Qbx (x:Tm) (hn:x.nodes≤1099511627776):E 311 [x.sv] []=some (.bool x.expr,[]):=by
 have h1:=SP x hn
 have h3:=SQ x hn
 unfold Tm.expr
 cases hv:x.valid with
 | true =>
  rw [hv] at h1
  rw [Bool.true_or]
  refine Ad Ou F9 (of_decide_eq_true rfl) ?_
  simp (disch:=omega) only [Ka,go_sem,Aa,h1,Bg]
 | false =>
  rw [hv] at h1
  rw [y5]
  refine Ad Ou F9 (of_decide_eq_true rfl) ?_
  simp (disch:=omega) only [Ka,go_sem,Aa,h1,h3,Bg,AV]
def CH:SC:=(.seq (.reg [⟨some 2,none,.boxv 142 1 (.t 0)⟩,⟨some 3,none,.boxv 33 2 (.t 1)⟩,⟨(some 4),none,(.alloc 33 [(.str ⟨#[]⟩),.nil])⟩,⟨some 5,none,.mv (.c (.bool false))⟩]) (.seq (.reg [⟨some 7,none,.load true 1 (.t 2)⟩,⟨some 8,none,.load true 2 (.t 3)⟩,⟨some 9,none,.call 276 [(.t 7),(.t 8)]⟩,⟨(some 6),none,(.alloc 33 [(.str ⟨#[]⟩),.nil])⟩,⟨none,none,(.store 2 (.t 6) (.t 9))⟩]) (.seq (.seq (.reg [⟨some 10,none,.load true 2 (.t 6)⟩,⟨some 11,none,.call 244 [(.t 10)]⟩,⟨some 12,none,.un .not (.t 11)⟩]) (.cond (.t 12) (.seq (.reg [⟨(some 13),none,(.build [(.str ⟨#[]⟩),.nil] [])⟩,⟨none,none,(.store 2 (.t 4) (.t 13))⟩,⟨some 5,none,.mv (.c (.bool false))⟩]) .ret) .skip)) (.seq (.reg [⟨some 14,none,.load true 2 (.t 6)⟩,⟨none,none,(.store 2 (.t 4) (.t 14))⟩,⟨some 5,none,.mv (.c (.bool true))⟩]) .ret))))
theorem Er:codeOf Tryz.prog 207=some ⟨15,CH,[(.cell 4 true 2),(.tmp 5)]⟩:=by kernel_rfl
theorem Ab:modes 207=⟨[],.late,none,false⟩:=by unfold modes; rfl
def BA:SC:=(.seq (.reg [⟨some 2,none,.boxv 142 1 (.t 0)⟩,⟨some 3,none,.boxv 33 2 (.t 1)⟩,⟨(some 4),none,(.alloc 33 [(.str ⟨#[]⟩),.nil])⟩,⟨some 5,none,.mv (.c (.bool false))⟩]) (.seq (.seq (.reg [⟨some 7,none,.load true 1 (.t 2)⟩,⟨some 8,none,.call 310 [(.t 7)]⟩,⟨some 9,none,.un .not (.t 8)⟩,⟨some 10,none,.mv (.t 9)⟩,⟨(some 11),(some (10,false)),(.load true 2 (.t 3))⟩,⟨(some 12),(some (10,false)),(.call 311 [(.t 11)])⟩,⟨(some 13),(some (10,false)),(.un .not (.t 12))⟩,⟨some 14,none,.pick (.t 10) (.c (.bool true)) (.t 13)⟩]) (.cond (.t 14) (.seq (.reg [⟨(some 15),none,(.build [(.str ⟨#[]⟩),.nil] [])⟩,⟨none,none,(.store 2 (.t 4) (.t 15))⟩,⟨some 5,none,.mv (.c (.bool false))⟩]) .ret) .skip)) (.seq (.reg [⟨some 16,none,.load true 1 (.t 2)⟩,⟨some 17,none,.load true 2 (.t 3)⟩,⟨some 18,none,.call 173 [(.t 16),(.t 17)]⟩,⟨(some 6),none,(.alloc 33 [(.str ⟨#[]⟩),.nil])⟩,⟨none,none,(.store 2 (.t 6) (.t 18))⟩]) (.seq (.seq (.reg [⟨some 19,none,.load true 2 (.t 6)⟩,⟨some 20,none,.call 311 [(.t 19)]⟩,⟨some 21,none,.un .not (.t 20)⟩]) (.cond (.t 21) (.seq (.reg [⟨(some 22),none,(.build [(.str ⟨#[]⟩),.nil] [])⟩,⟨none,none,(.store 2 (.t 4) (.t 22))⟩,⟨some 5,none,.mv (.c (.bool false))⟩]) .ret) .skip)) (.seq (.reg [⟨some 23,none,.load true 2 (.t 6)⟩,⟨none,none,(.store 2 (.t 4) (.t 23))⟩,⟨some 5,none,.mv (.c (.bool true))⟩]) .ret)))))
theorem Cx:codeOf Tryz.prog 269=some ⟨24,BA,[(.cell 4 true 2),(.tmp 5)]⟩:=by kernel_rfl
theorem Ac:modes 269=⟨[],.frz,none,false⟩:=by unfold modes; rfl
noncomputable def Cb (s:Sb) (x:Tm):Bool:=s.ok&&(x.expr&&(x.ap s.look).small)
noncomputable def AM (s:Sb) (x:Tm):Tm:=if Cb s x then x.ap s.look else .mk ⟨#[]⟩ []
theorem Xc {s:Sb} {x:Tm} (h:Cb s x=false):AM s x=.mk ⟨#[]⟩ []:=by unfold AM; rw [if_neg (by rw [h]; simp)]
theorem E7 {s:Sb} {x:Tm} (h:Cb s x=true):AM s x=x.ap s.look:=by unfold AM; rw [if_pos h]
theorem Xd:(Tm.mk ⟨#[]⟩ []).sv=.agg [.str ⟨#[]⟩,.arr []]:=rfl
theorem Vx (s:Sb) (hs:s.ok=true) (ht:s.tame) (x:Tm) (hx:x.expr=true):E 276 [s.sv,x.sv] []=some ((x.ap s.look).osv,(x.ap s.look).obs):=by
 have hn:=Tm.As hx
 exact Y9 s (Sb.Xb hs) ht x (Tm.YA hx) (by omega) fun y hy=>Qbv s hs ht y (Tm.J3 hx hy) (by have:=Tm.AW hy; have:=Tm.An x; omega)
theorem BK (s:Sb) (hs:s.ok=true) (ht:s.tame) (x:Tm) (hx:x.expr=true) (ho:Cb s x=true):E 207 [s.sv,x.sv] []=some (.tup [(AM s x).osv,.bool true],(AM s x).obs):=by
 have hn:=Tm.As hx
 have hk:=Tm.J2 (Sb.FF hs) x
 have h1:=Vx s hs ht x hx
 have h2:=My (x.ap s.look) (by omega)
 have hq:(x.ap s.look).small=true:=by unfold Cb at ho; rw [zA,zA] at ho; exact ho.2.2
 rw [hq] at h2
 rw [E7 ho]
 refine Ad Er Ab (of_decide_eq_true rfl) ?_
 simp (disch:=omega) only [CH,go_sem,Aa,h1,h2,Tm.osv,Tm.obs,Bl,Aw]
theorem Cs (s:Sb) (hs:s.ok=true) (ht:s.tame) (x:Tm) (hx:x.expr=true) (ho:Cb s x=false):E 207 [s.sv,x.sv] []=some (.tup [.agg [.str ⟨#[]⟩,.nil],.bool false],[]):=by
 have hn:=Tm.As hx
 have hk:=Tm.J2 (Sb.FF hs) x
 have h1:=Vx s hs ht x hx
 have h2:=My (x.ap s.look) (by omega)
 have hq:(x.ap s.look).small=false:=by unfold Cb at ho; rw [hs,hx,yH,yH] at ho; exact ho
 rw [hq] at h2
 refine Ad Er Ab (of_decide_eq_true rfl) ?_
 simp (disch:=omega) only [CH,go_sem,Aa,h1,h2,Tm.osv,Tm.obs,Bl,Aw]
theorem AX (s:Sb) (ht:s.tame) (x:Tm) (hn:x.nodes≤1099511627776):E 269 [s.sv,x.sv] []=some (.tup [(AM s x).sv,.bool (Cb s x)],[]):=by
 have h1:=O4 s ht
 have h2:=Qbx x hn
 cases hs:s.ok with
 | false =>
  have ho:Cb s x=false:=by unfold Cb; rw [hs]; rfl
  rw [hs] at h1
  rw [Xc ho,ho,Xd]
  refine Ad Cx Ac (of_decide_eq_true rfl) ?_
  simp (disch:=omega) only [BA,go_sem,Aa,h1,Cw]
 | true =>
  rw [hs] at h1
  cases hx:x.expr with
  | false =>
   have ho:Cb s x=false:=by unfold Cb; rw [hx,yM,zM]
   rw [hx] at h2
   rw [Xc ho,ho,Xd]
   refine Ad Cx Ac (of_decide_eq_true rfl) ?_
   simp (disch:=omega) only [BA,go_sem,Aa,h1,h2,Cw,F9]
  | true =>
   rw [hx] at h2
   have hn:=Tm.As hx
   have hk:=Tm.J2 (Sb.FF hs) x
   have h3:=PJ s hs ht x (by omega)
   have h4:=Qbx (x.ap s.look) (by omega)
   have h5:(x.ap s.look).expr=(x.ap s.look).small:=Tm.Qd6 (Sb.FF hs) x hx
   rw [h5] at h4
   cases hq:(x.ap s.look).small with
   | true =>
    have ho:Cb s x=true:=by unfold Cb; rw [hs,hx,hq]; rfl
    rw [hq] at h4
    rw [E7 ho,ho]
    refine Ad Cx Ac (of_decide_eq_true rfl) ?_
    simp (disch:=omega) only [BA,go_sem,Aa,h1,h2,h3,h4,Cw,F9,AG]
   | false =>
    have ho:Cb s x=false:=by unfold Cb; rw [hq,zM,zM]
    rw [hq] at h4
    rw [Xc ho,ho,Xd]
    refine Ad Cx Ac (of_decide_eq_true rfl) ?_
    simp (disch:=omega) only [BA,go_sem,Aa,h1,h2,h3,h4,Cw,F9,AG]
theorem Tm.Ct {x:Tm} (h:x.atom=true):x.expr=true:=by unfold Tm.expr; rw [h,Bool.or_true]
theorem Tm.Cu {x:Tm} (h:x.atom=true):x.nodes≤30:=Tm.As (Tm.Ct h)
def GX:SC:=(.seq (.reg [⟨some 1,none,.boxv 60 1 (.t 0)⟩,⟨some 2,none,.alloc 60 [.nil]⟩,⟨some 3,none,.mv (.c (.bool false))⟩]) (.seq (.seq (.reg [⟨some 4,none,.load true 1 (.t 1)⟩,⟨some 5,none,.call 147 [(.t 4)]⟩,⟨some 6,none,.un .not (.t 5)⟩]) (.cond (.t 6) (.seq (.reg [⟨some 7,none,.build [.nil] []⟩,⟨none,none,(.store 1 (.t 2) (.t 7))⟩,⟨some 3,none,.mv (.c (.bool false))⟩]) .ret) .skip)) (.seq (.reg [⟨some 8,none,.load true 1 (.t 1)⟩,⟨none,none,(.store 1 (.t 2) (.t 8))⟩,⟨some 3,none,.mv (.c (.bool true))⟩]) .ret)))
theorem K7:codeOf Tryz.prog 284=some ⟨9,GX,[(.cell 2 true 1),(.tmp 3)]⟩:=by kernel_rfl
theorem Dh:modes 284=⟨[true],.own [some (122,3),none],none,false⟩:=by unfold modes; rfl
def Dw:SC:=(.seq (.reg [⟨some 2,none,.boxv 142 1 (.t 0)⟩,⟨some 4,none,.alloc 60 [.nil]⟩,⟨some 5,none,.mv (.c (.bool false))⟩]) (.seq (.reg [⟨(some 11),none,(.mkrow 122 3 [(.bool false),(.str ⟨#[]⟩),.nil] 0 [])⟩,⟨some 6,none,.mv (.t 11)⟩]) (.seq (.seq (.reg [⟨some 12,none,.mv (.t 1)⟩,⟨some 13,none,.len false (.t 12)⟩,⟨some 14,none,.mv (.c (.int .i64 0))⟩]) (.block 0 (.loop [0,0,1,0,1,0,1,0,0,0,0,0,1,1,1,0,0,0,0,0,0,0,0,0,0,0,0,0,0,0,0,0,0,0,0,0,0,0,0,0,0] (.seq (.reg [⟨some 15,none,.bin .lss false (.t 14) (.t 13)⟩]) (.seq (.cond (.t 15) .skip (.exit 0)) (.seq (.block 1 (.seq (.reg [⟨some 16,none,.iaddr 3 (.t 12) (.t 14)⟩,⟨some 17,none,.load true 3 (.t 16)⟩,⟨(some 8),none,(.alloc 122 [(.bool false),(.str ⟨#[]⟩),.nil])⟩,⟨none,none,(.store 3 (.t 8) (.t 17))⟩]) (.seq (.reg [⟨some 19,none,.load true 1 (.t 2)⟩,⟨some 20,none,.faddr 1 (.t 8)⟩,⟨some 21,none,.load true 2 (.t 20)⟩,⟨some 22,none,.call 207 [(.t 19),(.t 21)]⟩,⟨some 18,none,.mv (.t 22)⟩,⟨some 23,none,.ext (.t 18) 0⟩,⟨some 24,none,.ext (.t 18) 1⟩,⟨(some 9),none,(.alloc 33 [(.str ⟨#[]⟩),.nil])⟩,⟨none,none,(.store 2 (.t 9) (.t 23))⟩,⟨some 10,none,.mv (.t 24)⟩]) (.seq (.seq (.reg [⟨some 25,none,.mv (.t 10)⟩,⟨some 26,none,.un .not (.t 25)⟩]) (.cond (.t 26) (.seq (.reg [⟨some 27,none,.build [.nil] []⟩,⟨none,none,(.store 1 (.t 4) (.t 27))⟩,⟨some 5,none,.mv (.c (.bool false))⟩]) .ret) .skip)) (.reg [⟨some 28,none,.mv (.t 6)⟩,⟨some 29,none,.faddr 0 (.t 8)⟩,⟨some 30,none,.load false 1 (.t 29)⟩,⟨some 31,none,.load true 2 (.t 9)⟩,⟨(some 32),none,(.build [(.bool false),(.str ⟨#[]⟩),.nil] [(0,(1,(.t 30))),(1,(2,(.t 31)))])⟩,⟨(some 33),none,(.mkrow 122 3 [(.bool false),(.str ⟨#[]⟩),.nil] 1 [(0,(.t 32))])⟩,⟨(some 34),none,(.append 122 3 48 [(.bool false),(.str ⟨#[]⟩),.nil] (.t 28) (.t 33))⟩,⟨some 6,none,.mv (.t 34)⟩]))))) (.reg [⟨some 35,none,.bin .add false (.t 14) (.c (.int .i64 1))⟩,⟨some 14,none,.mv (.t 35)⟩]))))))) (.seq (.reg [⟨some 36,none,.mv (.t 6)⟩,⟨some 37,none,.call 222 [(.t 36)]⟩,⟨some 38,none,.call 284 [(.t 37)]⟩,⟨some 39,none,.ext (.t 38) 0⟩,⟨some 40,none,.ext (.t 38) 1⟩,⟨none,none,(.store 1 (.t 4) (.t 39))⟩,⟨some 5,none,.mv (.t 40)⟩]) .ret))))
theorem FT:codeOf Tryz.prog 212=some ⟨41,Dw,[(.cell 4 true 1),(.tmp 5)]⟩:=by kernel_rfl
theorem Bw:modes 212=⟨[],.own [some (122,3),none],none,false⟩:=by unfold modes; rfl
def L5:SC:=(.seq (.reg [⟨some 2,none,.boxv 142 1 (.t 0)⟩,⟨some 4,none,.alloc 60 [.nil]⟩,⟨some 5,none,.mv (.c (.bool false))⟩]) (.seq (.reg [⟨(some 10),none,(.mkrow 122 3 [(.bool false),(.str ⟨#[]⟩),.nil] 0 [])⟩,⟨some 6,none,.mv (.t 10)⟩]) (.seq (.seq (.reg [⟨some 7,none,.mv (.c (.int .i64 0))⟩]) (.block 0 (.loop [0,1,1,0,1,0,1,1,0,0,0,0,0,0,0,0,0,0,0,0,0,0,0,0,0,0,0,0,0,0,0,0,0,0,0,0,0,0,0,0,0,0,0,0,0] (.seq (.seq (.reg [⟨some 11,none,.mv (.t 7)⟩,⟨some 12,none,.mv (.t 1)⟩,⟨some 13,none,.len false (.t 12)⟩,⟨some 14,none,.bin .lss false (.t 11) (.t 13)⟩]) (.cond (.t 14) .skip (.exit 0))) (.seq (.block 1 (.seq (.dreg [[],[],[],[1,2],[3,1,2],[4,3,1,2],[0,5,4,3,1,2],[],[7,6,0,5,4,3,1,2]] [⟨some 17,none,.load true 1 (.t 2)⟩,⟨some 18,none,.mv (.t 1)⟩,⟨some 19,none,.mv (.t 7)⟩,⟨some 20,none,.iaddr 3 (.t 18) (.t 19)⟩,⟨some 21,none,.faddr 1 (.t 20)⟩,⟨some 22,none,.load true 2 (.t 21)⟩,⟨some 23,none,.call 173 [(.t 17),(.t 22)]⟩,⟨(some 8),none,(.alloc 33 [(.str ⟨#[]⟩),.nil])⟩,⟨none,none,(.store 2 (.t 8) (.t 23))⟩]) (.seq (.seq (.reg [⟨some 24,none,.load true 2 (.t 8)⟩,⟨some 25,none,.call 194 [(.t 24)]⟩,⟨some 26,none,.un .not (.t 25)⟩]) (.cond (.t 26) (.seq (.reg [⟨some 27,none,.build [.nil] []⟩,⟨none,none,(.store 1 (.t 4) (.t 27))⟩,⟨some 5,none,.mv (.c (.bool false))⟩]) .ret) .skip)) (.dreg [[],[],[],[1,2],[3,1,2],[4,3,1,2],[],[5,4,3,1,2,6],[7,5,4,3,1,2,6],[0,8,7,5,4,3,1,2,6],[9,0,8,7,5,4,3,1,2,6]] [⟨some 28,none,.mv (.t 6)⟩,⟨some 29,none,.mv (.t 1)⟩,⟨some 30,none,.mv (.t 7)⟩,⟨some 31,none,.iaddr 3 (.t 29) (.t 30)⟩,⟨some 32,none,.faddr 0 (.t 31)⟩,⟨some 33,none,.load false 1 (.t 32)⟩,⟨some 34,none,.load true 2 (.t 8)⟩,⟨(some 35),none,(.build [(.bool false),(.str ⟨#[]⟩),.nil] [(0,(1,(.t 33))),(1,(2,(.t 34)))])⟩,⟨(some 36),none,(.mkrow 122 3 [(.bool false),(.str ⟨#[]⟩),.nil] 1 [(0,(.t 35))])⟩,⟨(some 37),none,(.append 122 3 48 [(.bool false),(.str ⟨#[]⟩),.nil] (.t 28) (.t 36))⟩,⟨some 6,none,.mv (.t 37)⟩])))) (.reg [⟨some 15,none,.mv (.t 7)⟩,⟨some 16,none,.bin .add false (.t 15) (.c (.int .i64 1))⟩,⟨some 7,none,.mv (.t 16)⟩])))))) (.seq (.reg [⟨some 38,none,.mv (.t 6)⟩,⟨some 39,none,.call 218 [(.t 38)]⟩,⟨some 9,none,.alloc 60 [.nil]⟩,⟨none,none,(.store 1 (.t 9) (.t 39))⟩]) (.seq (.seq (.reg [⟨some 40,none,.load true 1 (.t 9)⟩,⟨some 41,none,.call 143 [(.t 40)]⟩,⟨some 42,none,.un .not (.t 41)⟩]) (.cond (.t 42) (.seq (.reg [⟨some 43,none,.build [.nil] []⟩,⟨none,none,(.store 1 (.t 4) (.t 43))⟩,⟨some 5,none,.mv (.c (.bool false))⟩]) .ret) .skip)) (.seq (.reg [⟨some 44,none,.load true 1 (.t 9)⟩,⟨none,none,(.store 1 (.t 4) (.t 44))⟩,⟨some 5,none,.mv (.c (.bool true))⟩]) .ret))))))
theorem Tk:codeOf Tryz.prog 271=some ⟨45,L5,[(.cell 4 true 1),(.tmp 5)]⟩:=by kernel_rfl
theorem FH:modes 271=⟨[],.frz,none,false⟩:=by unfold modes; rfl
theorem Xe (c:Cl) (hn:c.tame) (hv:c.ok=true):E 284 [c.osv] c.obs=some (.tup [c.osv,.bool true],c.obs):=by
 have h:=GW c hn
 rw [hv] at h
 refine Ad K7 Dh (of_decide_eq_true rfl) ?_
 simp (disch:=omega) only [GX,go_sem,Aa,h,C2,Lt.erss,Lt.noss,Lt.fus]
theorem YB (c:Cl) (hn:c.tame) (hv:c.ok=false):E 284 [c.osv] c.obs=some (.tup [.agg [.ref 1],.bool false],[.row 122 3 (c.lits.map Lt.o),.row 122 3 []]):=by
 have h:=GW c hn
 rw [hv] at h
 refine Ad K7 Dh (of_decide_eq_true rfl) ?_
 simp (disch:=omega) only [GX,go_sem,Aa,h,C2,Lt.erss,Lt.noss,Lt.fus]
theorem PK {s:ByteArray} (h:Fy s=true):Ao s=false:=by
 unfold Fy inB at h
 rw [zA,zA,zA,decide_eq_true_eq,decide_eq_true_eq] at h
 have hs:0<s.size:=by omega
 have h1:=HP h.1.1 hs
 unfold Lg at h1
 simp at h1
 have h2:=h1.1
 have hu:S2 (Kz s 0)=false:=by
  unfold Wq at h2
  unfold S2
  simp at h2 ⊢
  omega
 rw [Bool.eq_false_iff]
 intro hv
 unfold Ao at hv
 rw [zA] at hv
 have h1:=HP hv.1 hs
 unfold K0 at h1
 rw [hu] at h1
 simp at h1
theorem Tm.Qby {f:ByteArray→Option Tm} (hf:okF f) (x:Tm) (hx:x.atom=true):(x.ap f).atom=(x.ap f).small:=by
 unfold Tm.atom at hx
 rcases he:x.eqn with _ | _
 ·rw [he,if_neg (by simp),zA] at hx
  have hnv:¬ (Ao x.name=true):=by rw [PK hx.1]; simp
  have e:x.ap f=.mk x.name (Tm.apL f x.args):=by rw [Tm.I1,if_neg hnv]
  have he2:¬ (x.ap f).eqn=true:=by rw [e]; show ¬ x.eqn=true; rw [he]; simp
  have hn:x.names=true:=by
   have:=hx.2
   unfold Tm.valid at this
   rw [zA] at this
   exact this.2
  have h3:=Tm.L3 hf x hn
  unfold Tm.atom
  rw [if_neg he2]
  unfold Tm.valid
  rw [h3,yK]
  have hname:(x.ap f).name=x.name:=by rw [e]; rfl
  rw [hname,hx.1,yH]
 ·rw [he,if_pos rfl,zA,zA] at hx
  have hnv:¬ (Ao x.name=true):=by rw [Tm.Qbw he]; simp
  have e:x.ap f=.mk x.name (Tm.apL f x.args):=by rw [Tm.I1,if_neg hnv]
  have he2:(x.ap f).eqn=true:=by rw [e]; exact he
  unfold Tm.atom
  rw [if_pos he2]
  have h1:((x.ap f).args.length == 2)=true:=by
   rw [e]
   show ((Tm.apL f x.args).length == 2)=true
   rw [Tm.R8]; exact hx.1.1
  have h2:Tm.Ez (x.ap f).args=true:=by
   rw [e]
   exact Tm.O7 f x.args fun y hy=>Tm.L3 hf y (by
    have:=hx.2
    rw [Tm.D6,zN] at this
    exact this y hy)
  rw [h1,h2,yH,yK]
noncomputable def Lt.ap (s:Sb) (x:Lt):Lt:=⟨x.pos,x.atom.ap s.look⟩
noncomputable def Tl (s:Sb) (l:List Lt):Bool:=l.all fun x=>(x.atom.ap s.look).small
noncomputable def EO (s:Sb) (l:List Lt):Bool:=Tl s l&&(mkC (l.map (Lt.ap s))).ok
noncomputable def apC (s:Sb) (l:List Lt):Cl:=if EO s l then mkC (l.map (Lt.ap s)) else ⟨[]⟩
theorem PL {s:Sb} {l:List Lt} (h:EO s l=false):apC s l=⟨[]⟩:=by unfold apC; rw [if_neg (by rw [h]; simp)]
theorem Xf {s:Sb} {l:List Lt} (h:EO s l=true):apC s l=mkC (l.map (Lt.ap s)):=by unfold apC; rw [if_pos h]
theorem Lt.Qbz {s:Sb} (hs:s.ok=true) {x:Lt} (hx:x.atom.atom=true) (hq:(x.atom.ap s.look).small=true):(x.ap s).fine:=by
 have ha:(x.atom.ap s.look).atom=true:=by rw [Tm.Qby (Sb.FF hs) _ hx]; exact hq
 exact ⟨Tm.HQ ha,by
              have:(Lt.ap s x).atom.nodes≤30:=Tm.Cu ha
              omega⟩
theorem YC {l:List Lt} (hl:l.length≤1048576) (hf:∀ x∈l,x.fine):(mkC l).tame:=by
 have:=Qbq l
 exact ⟨by omega,fun y hy=>(hf y ((R7 l y).1 hy)).2⟩
theorem Vy:(Cl.mk []).osv=.agg [.ref 0]:=rfl
theorem Vz:(Cl.mk []).obs=[.row 122 3 []]:=rfl
theorem YD:(Cl.mk []).sv=.agg [.arr []]:=rfl
theorem Uq (s:Sb) (hs:s.ok=true) (ht:s.tame) (l:List Lt) (hl:l.length≤1048576) (hal:∀ x∈l,x.atom.atom=true):E 212 [s.sv,.arr (l.map Lt.d)] []=some (.tup [(apC s l).osv,.bool (EO s l)],(apC s l).obs):=by
 have her:OT.erss (l.map (fun x:Lt=>(Lt.ap s x).d.map D.ot))=(l.map (Lt.ap s)).map Lt.d:=by
  have:=Lt.der (l.map (Lt.ap s))
  rw [yN] at this
  exact this
 have hfu:OT.AA (l.map (fun x:Lt=>(Lt.ap s x).d.map D.ot))=true:=by
  have:=Lt.dfu (l.map (Lt.ap s))
  rw [yN] at this
  exact this
 refine Ad FT Bw (of_decide_eq_true rfl) ?_
 simp (disch:=omega) only [Dw,go_sem,Aa]
 refine go_loop (α:=Int) (fun a=>⟨slots 41 0 [(2,.ptr 0 0),(4,.ptr 1 0),(6,.ref 2),(12,.arr (l.map Lt.d)),(13,.int .i64 l.length),(14,.int .i64 a)],[.box 142 [.arr (s.binds.map Bd.d)],.box 60 [.nil],.row 122 3 ((l.take a.toNat).map (fun x:Lt=>(Lt.ap s x).d.map D.ot))]⟩) (fun a=>∃ k:Nat,a=k∧k≤(l).length∧∀ x∈l.take k,(x.atom.ap s.look).small=true) (fun a=>(l).length-(a).toNat) 0 ⟨0,rfl,zF _,fun x hx=>by simp at hx⟩ (by simp (disch:=omega) only [go_sem,Aa,yD]) ?_
 rintro i ⟨k,hi,hk,hR⟩
 have hni:i.toNat=k:=by omega
 have hni1:(i+1).toNat=k+1:=by omega
 rcases zB k (l).length with hlt | hge
 ·have hg:=get_at Lt.d hlt
  rw [Lt.d_eq] at hg
  have hat:=hal l[k] (zD hlt)
  have hex:=Tm.Ct hat
  have hsn:=DX (fun x:Lt=>(Lt.ap s x).d.map D.ot) hlt
  have hs1:[[OT.bool l[k].pos,.str (l[k].atom.ap s.look).name,.sh ((l[k].atom.ap s.look).args.map Tm.d)]]=[(fun x:Lt=>(Lt.ap s x).d.map D.ot) l[k]]:=by simp only [Lt.d_eq]; rfl
  have htl:(l.take k).length=k:=by rw [zQ]; omega
  cases hq:(l[k].atom.ap s.look).small with
  | true =>
   have ha:=BK s hs ht l[k].atom hex (by unfold Cb; rw [hs,hex,hq]; rfl)
   rw [E7 (by unfold Cb; rw [hs,hex,hq]; rfl)] at ha
   simp (disch:=omega) only [go_sem,Aa,hni,hg,ha,htl,Ab,Dg,Dh]
   refine ⟨i+1,⟨k+1,by omega,hlt,fun x hx=>?_⟩,by omega,?_⟩
   ·rcases yV.1 (by rw [yG hlt] at hx; exact hx) with hx | hx
    ·exact hR x hx
    ·rw [yX.1 hx]; exact hq
   ·simp (disch:=omega) only [go_sem,Aa,hni1,hs1,hsn,and_self]
  | false =>
   have ha:=Cs s hs ht l[k].atom hex (by unfold Cb; rw [hq,zM,zM])
   have hno:EO s l=false:=by
    unfold EO Tl
    rw [show (l.all fun x=>(x.atom.ap s.look).small)=false from ?_,yM]
    rw [List.all_eq_false]
    exact ⟨l[k],zD hlt,by rw [hq]; simp⟩
   rw [PL hno,hno,Vy,Vz]
   simp (disch:=omega) only [go_sem,Aa,hni,hg,ha,Ab,Dg,Dh]
 ·obtain rfl:k=l.length:=by omega
  have htk:l.take l.length=l:=zR
  rw [htk] at hR
  have hal2:Tl s l=true:=by unfold Tl; rw [zN]; exact hR
  have hfine:∀ x∈l.map (Lt.ap s),x.fine:=fun x hx=>by
   obtain ⟨y,hy,rfl⟩:=yJ.1 hx
   exact Lt.Qbz hs (hal y hy) (hR y hy)
  have hlen:(l.map (Lt.ap s)).length≤1048576:=by rw [zC]; exact hl
  have hc:=SU (l.map (Lt.ap s)) hlen hfine
  have htm:=YC hlen hfine
  cases hv:(mkC (l.map (Lt.ap s))).ok with
  | true =>
   have hok:EO s l=true:=by unfold EO; rw [hal2,hv]; rfl
   have hi2:=Xe _ htm hv
   rw [Xf hok,hok]
   simp (disch:=omega) only [go_sem,Aa,hni,htk,hc,hi2,her,hfu,Lt.noss,Ab,Dg,Dh]
  | false =>
   have hok:EO s l=false:=by unfold EO; rw [hv,zM]
   have hi2:=YB _ htm hv
   rw [PL hok,hok,Vy,Vz]
   simp (disch:=omega) only [go_sem,Aa,hni,htk,hc,hi2,her,hfu,Lt.noss,Ab,Dg,Dh]
theorem Tm.Gn {x:Tm} (h:x.atom=true):(Ao x.name=true→x.args=[])∧∀ y∈x.args,y.names=true:=by
 unfold Tm.atom at h
 cases he:x.eqn with
 | true =>
  rw [he,if_pos rfl,zA,zA] at h
  have h2:=h.2
  rw [Tm.D6,zN] at h2
  refine ⟨fun hv=>?_,h2⟩
  have hn:=Ar.1 he
  have hnv0:Ao ⟨#[61]⟩=false:=by kernel_rfl
  rw [hn,hnv0] at hv
  cases hv
 | false =>
  rw [he,if_neg (by simp),zA] at h
  have hnm:x.names=true:=by have h3:=h.2; unfold Tm.valid at h3; rw [zA] at h3; exact h3.2
  exact ⟨fun hv=>Tm.EH hnm hv,fun y hy=>Tm.Eg hnm hy⟩
mutual
noncomputable def Tm.vs:Tm→List ByteArray
 | .mk name args=>bif Ao name then [name] else Tm.vsL args
noncomputable def Tm.vsL:List Tm→List ByteArray
 | []=>[]
 | x :: xs=>Tm.vs x++Tm.vsL xs
end
theorem Tm.FY (x:Tm):x.vs=bif Ao x.name then [x.name] else Tm.vsL x.args:=by
 obtain ⟨n,a⟩:=x
 rw [Tm.vs]; rfl
theorem Tm.vsL_mem {v:ByteArray}:∀ {xs:List Tm},v∈Tm.vsL xs ↔ ∃ x∈xs,v∈x.vs
 | []=>by simp [Tm.vsL]
 | x :: xs=>by rw [Tm.vsL,yV,Tm.vsL_mem (xs:=xs)]; simp
theorem Tm.Qb0:∀ xs:List Tm,(∀ x∈xs,x.vs.length≤x.nodes)→(Tm.vsL xs).length≤Tm.Bf xs
 | [],_=>by simp [Tm.vsL]
 | x :: xs,h=>by
  have h1:=h x (by simp)
  have h2:=Tm.Qb0 xs fun y hy=>h y (by simp [hy])
  rw [Tm.vsL,Tm.Bf,zV]; omega
theorem Tm.vs_len (x:Tm):x.vs.length≤x.nodes:=by
 have h:=Tm.Qb0 x.args fun y hy=>Tm.vs_len y
 rw [Tm.FY,Tm.An]
 cases Ao x.name with
 | true=>simp
 | false=>simp only [cond_false]; omega
termination_by SizeOf.sizeOf x
decreasing_by exact Tm.lt_of_mem hy
noncomputable def M7 (l:List ByteArray) (n:ByteArray):List ByteArray:=bif dec (n∈l) then l else l++[n]
theorem Qd7 (l:List ByteArray) (n:ByteArray):(M7 l n).length≤l.length+1:=by
 unfold M7
 cases dec (n∈l) <;> simp
theorem Qd8 {l:List ByteArray} {n m:ByteArray}:m∈M7 l n ↔ m∈l∨m=n:=by
 unfold M7
 by_cases h:n∈l
 ·rw [At h,cond_true]
  exact ⟨.inl,fun h'=>h'.elim id fun e=>e▸h⟩
 ·rw [Ay h,cond_false]
  simp
theorem Qav {l:List ByteArray} {n:ByteArray} (h:l.Nodup):(M7 l n).Nodup:=by
 unfold M7
 by_cases k:n∈l
 ·rw [At k]; exact h
 ·rw [Ay k,cond_false,List.nodup_append]
  exact ⟨h,by simp,fun a ha b hb e=>by simp at hb; subst hb; subst e; exact k ha⟩
noncomputable def CD (l ns:List ByteArray):List ByteArray:=ns.foldl M7 l
theorem J4:∀ (ns l:List ByteArray),(CD l ns).length≤l.length+ns.length
 | [],l=>by simp [CD]
 | n :: ns,l=>by
  have h:=J4 ns (M7 l n)
  have h2:=Qd7 l n
  simp only [CD,z8,zP] at h ⊢
  omega
theorem YE:∀ {ns l:List ByteArray} {m:ByteArray},m∈CD l ns ↔ m∈l∨m∈ns
 | [],l,m=>by simp [CD]
 | n :: ns,l,m=>by
  have h:=YE (ns:=ns) (l:=M7 l n) (m:=m)
  simp only [CD,z8] at h ⊢
  rw [h,Qd8]
  simp only [yL]
  exact or_assoc
theorem Tn:∀ {ns l:List ByteArray},l.Nodup→(CD l ns).Nodup
 | [],l,h=>h
 | n :: ns,l,h=>Tn (ns:=ns) (Qav h)
theorem O8 (l a b:List ByteArray):CD l (a++b)=CD (CD l a) b:=y4
def DY:SC:=(.seq (.reg [⟨some 4,none,.mv (.c (.int .i64 0))⟩]) (.seq (.seq (.reg [⟨some 6,none,.mv (.t 0)⟩,⟨some 7,none,.len false (.t 6)⟩,⟨some 8,none,.mv (.c (.int .i64 0))⟩]) (.block 0 (.loop [1,1,0,0,0,0,0,1,1,0,0,0,0,0,0,0,0,0,0] (.seq (.reg [⟨some 9,none,.bin .lss false (.t 8) (.t 7)⟩]) (.seq (.cond (.t 9) .skip (.exit 0)) (.seq (.block 1 (.seq (.reg [⟨some 10,none,.mv (.t 8)⟩,⟨some 5,none,.mv (.t 10)⟩]) (.seq (.reg [⟨some 11,none,.mv (.t 1)⟩,⟨some 12,none,.mv (.t 0)⟩,⟨some 13,none,.mv (.t 5)⟩,⟨some 14,none,.iaddr 1 (.t 12) (.t 13)⟩,⟨some 15,none,.load false 1 (.t 14)⟩,⟨some 16,none,.bin .eql false (.t 11) (.t 15)⟩]) (.cond (.t 16) (.seq (.reg [⟨some 17,none,.mv (.t 5)⟩,⟨some 4,none,.mv (.t 17)⟩]) .ret) .skip)))) (.reg [⟨some 18,none,.bin .add false (.t 8) (.c (.int .i64 1))⟩,⟨some 8,none,.mv (.t 18)⟩]))))))) (.seq (.reg [⟨some 4,none,.mv (.c (.int .i64 (-(0+1))))⟩]) .ret)))
theorem GY:codeOf Tryz.prog 259=some ⟨19,DY,[(.tmp 4)]⟩:=by kernel_rfl
theorem DZ:modes 259=⟨[],.asis,none,false⟩:=by unfold modes; rfl
def Dx:SC:=(.seq (.reg [⟨some 4,none,.mv (.c (.bool false))⟩]) (.seq (.reg [⟨some 5,none,.mv (.t 0)⟩,⟨some 6,none,.mv (.t 1)⟩,⟨some 7,none,.call 259 [(.t 5),(.t 6)]⟩,⟨some 8,none,.bin .geq false (.t 7) (.c (.int .i64 0))⟩,⟨some 4,none,.mv (.t 8)⟩]) .ret))
theorem FU:codeOf Tryz.prog 185=some ⟨9,Dx,[(.tmp 4)]⟩:=by kernel_rfl
theorem Cj:modes 185=⟨[],.asis,none,false⟩:=by unfold modes; rfl
theorem Qd9 (xs:List ByteArray) (n:ByteArray) (hl:xs.length≤1099511627776):E 259 [.arr (xs.map fun s=>[D.str s]),.str n] []=some (.int .i64 (Dd (fun s=>dec (n=s)) xs 0),[]):=by
 refine Ad GY DZ (of_decide_eq_true rfl) ?_
 simp (disch:=omega) only [DY,go_sem,Aa]
 refine go_loop (α:=Int) (fun a=>⟨slots 19 0 [(0,.arr (xs.map fun s=>[D.str s])),(1,.str n),(7,.int .i64 xs.length),(8,.int .i64 a)],[]⟩) (fun a=>∃ k:Nat,a=k∧k≤(xs).length∧Dd (fun s=>dec (n=s)) (xs.drop k) a=Dd (fun s=>dec (n=s)) xs 0) (fun a=>(xs).length-(a).toNat) 0 ⟨0,rfl,zF _,by rw [zJ]⟩ (by simp (disch:=omega) only [go_sem,Aa]) ?_
 rintro i ⟨k,hi,hk,hR⟩
 have hni:i.toNat=k:=by omega
 have hni1:(i+1).toNat=k+1:=by omega
 rcases zB k (xs).length with hlt | hge
 ·have hg:=get_at (fun s=>[D.str s]) hlt
  rw [zG hlt,Dd] at hR
  cases hp:dec (n=xs[k]) with
  | true =>
   rw [hp] at hR
   simp (disch:=omega) only [go_sem,Aa,hni,hg,hp]
   simpa using hR
  | false =>
   rw [hp] at hR
   simp (disch:=omega) only [go_sem,Aa,hni,hg,hp]
   exact ⟨i+1,⟨k+1,by omega,hlt,by simpa using hR⟩,by omega,by first | trivial | rfl⟩
 ·rw [zI hge,Dd] at hR
  simp (disch:=omega) only [go_sem,Aa,hni]
  exact hR
theorem YF (xs:List ByteArray) (n:ByteArray) (hl:xs.length≤1099511627776):E 185 [.arr (xs.map fun s=>[D.str s]),.str n] []=some (.bool (dec (n∈xs)),[]):=by
 have h:=Qd9 xs n hl
 have e:dec (n∈xs)=dec (0≤Dd (fun s=>dec (n=s)) xs 0):=by
  rw [Jv]
  by_cases hm:n∈xs
  ·rw [At hm]
   exact (List.any_eq_true.2 ⟨n,hm,At rfl⟩).symm
  ·rw [Ay hm]
   refine Eq.symm (Bool.eq_false_iff.2 fun h=>?_)
   obtain ⟨x,h1,h2⟩:=List.any_eq_true.1 h
   have e:=Ar.1 h2
   subst e
   exact hm h1
 rw [e]
 refine Ad FU Cj (of_decide_eq_true rfl) ?_
 simp (disch:=omega) only [Dx,go_sem,Aa,h,DZ]
theorem PM:∀ (ns l:List ByteArray),l.length≤(CD l ns).length
 | [],l=>by simp [CD]
 | n :: ns,l=>by
  have h:=PM ns (M7 l n)
  have h2:l.length≤(M7 l n).length:=by unfold M7; cases dec (n∈l) <;> simp
  simp only [CD,z8] at h ⊢
  omega
def E8:SC:=(.seq (.reg [⟨some 3,none,.boxv 33 2 (.t 1)⟩,⟨some 4,none,.mv (.c .nil)⟩]) (.seq (.seq (.reg [⟨some 7,none,.faddr 1 (.t 3)⟩,⟨some 8,none,.load false 1 (.t 7)⟩,⟨some 9,none,.len false (.t 8)⟩,⟨some 10,none,.bin .eql false (.t 9) (.c (.int .i64 0))⟩,⟨some 11,none,.mv (.t 10)⟩,⟨(some 12),(some (11,true)),(.load true 2 (.t 3))⟩,⟨(some 13),(some (11,true)),(.call 209 [(.t 12)])⟩,⟨some 14,none,.pick (.t 11) (.t 13) (.c (.bool false))⟩]) (.cond (.t 14) (.seq (.seq (.reg [⟨some 15,none,.mv (.t 0)⟩,⟨some 16,none,.faddr 0 (.t 3)⟩,⟨some 17,none,.load false 1 (.t 16)⟩,⟨some 18,none,.call 185 [(.t 15),(.t 17)]⟩,⟨some 19,none,.un .not (.t 18)⟩]) (.cond (.t 19) (.reg [⟨some 20,none,.mv (.t 0)⟩,⟨some 21,none,.faddr 0 (.t 3)⟩,⟨some 22,none,.load false 1 (.t 21)⟩,⟨(some 23),none,(.mkrow 9 1 [(.str ⟨#[]⟩)] 1 [(0,(.t 22))])⟩,⟨(some 24),none,(.append 9 1 16 [(.str ⟨#[]⟩)] (.t 20) (.t 23))⟩,⟨some 0,none,.mv (.t 24)⟩]) .skip)) (.seq (.reg [⟨some 25,none,.mv (.t 0)⟩,⟨some 4,none,.mv (.t 25)⟩]) .ret)) .skip)) (.seq (.seq (.reg [⟨some 26,none,.faddr 1 (.t 3)⟩,⟨some 27,none,.load false 1 (.t 26)⟩,⟨some 28,none,.len false (.t 27)⟩,⟨some 29,none,.mv (.c (.int .i64 0))⟩]) (.block 0 (.loop [1,0,0,0,0,0,0,0,0,0,0,0,0,0,0,0,0,0,0,0,0,0,0,0,0,0,0,1,1,1,0,0,0,0,0,0,0,0] (.seq (.reg [⟨some 30,none,.bin .lss false (.t 29) (.t 28)⟩]) (.seq (.cond (.t 30) .skip (.exit 0)) (.seq (.block 1 (.seq (.reg [⟨some 31,none,.iaddr 2 (.t 27) (.t 29)⟩,⟨some 32,none,.load true 2 (.t 31)⟩,⟨(some 6),none,(.alloc 33 [(.str ⟨#[]⟩),.nil])⟩,⟨none,none,(.store 2 (.t 6) (.t 32))⟩]) (.reg [⟨some 33,none,.mv (.t 0)⟩,⟨some 34,none,.load true 2 (.t 6)⟩,⟨some 35,none,.call 193 [(.t 33),(.t 34)]⟩,⟨some 0,none,.mv (.t 35)⟩]))) (.reg [⟨some 36,none,.bin .add false (.t 29) (.c (.int .i64 1))⟩,⟨some 29,none,.mv (.t 36)⟩]))))))) (.seq (.reg [⟨some 37,none,.mv (.t 0)⟩,⟨some 4,none,.mv (.t 37)⟩]) .ret))))
theorem FI:codeOf Tryz.prog 193=some ⟨38,E8,[(.tmp 4)]⟩:=by kernel_rfl
theorem D7:modes 193=⟨[true],.asis,none,false⟩:=by unfold modes; rfl
abbrev QeT (x:Tm):Prop:=∀ l:List ByteArray,l.length+x.nodes≤1048576→E 193 [.ref 0,x.sv] [.row 9 1 (l.map fun s=>[OT.str s])]=some ((bif dec (l.length<(CD l x.vs).length) then .ref 1 else .ref 0),(bif dec (l.length<(CD l x.vs).length) then [.gone,.row 9 1 ((CD l x.vs).map fun s=>[OT.str s])] else [.row 9 1 ((CD l x.vs).map fun s=>[OT.str s])]))
theorem To (x:Tm) (hva:Ao x.name=true→x.args=[]) (hc:x.cok=true) (ih:∀ y∈x.args,QeT y):QeT x:=by
 intro l hn
 have hl:=Tm.length_le x.args
 have hne:=Tm.An x
 have hv:=D0 x hc
 have hvs:=Tm.FY x
 rcases zH x.args.length with h0 | h0
 ·have hx0:x.args=[]:=zE h0
  have hz:((x.args.length:Int)=0)=True:=by rw [hx0]; simp
  cases hvv:Ao x.name with
  | true =>
   rw [hvv] at hv hvs
   have h1:=YF l x.name (by omega)
   rw [hvs]
   cases hm:dec (x.name∈l) with
   | true =>
    have e:CD l [x.name]=l:=by simp only [CD,z8,y9,M7,hm,cond_true]
    rw [hm] at h1
    simp only [cond_true,e]
    refine Ad FI D7 (of_decide_eq_true rfl) ?_
    simp (disch:=omega) only [E8,go_sem,Aa,hz,hv,h1,Ak,Cj]
   | false =>
    have e:CD l [x.name]=l++[x.name]:=by simp only [CD,z8,y9,M7,hm,cond_false]
    have hg:l.length<(l++[x.name]).length:=by simp
    rw [hm] at h1
    simp only [cond_true,e,At hg]
    refine Ad FI D7 (of_decide_eq_true rfl) ?_
    simp (disch:=omega) only [E8,go_sem,Aa,hz,hv,h1,Ak,Cj]
    simp only [yF,zK,zL]
  | false =>
   rw [hvv] at hv hvs
   have e:CD l x.vs=l:=by rw [hvs,hx0]; simp only [cond_false,Tm.vsL]; rfl
   rw [e]
   refine Ad FI D7 (of_decide_eq_true rfl) ?_
   simp (disch:=omega) only [E8,go_sem,Aa,hz,hv,Ak]
   refine go_loop (α:=Int) (fun a=>⟨slots 38 0 [(0,.ref 0),(27,.arr (x.args.map Tm.d)),(28,.int .i64 x.args.length),(29,.int .i64 a)],[.row 9 1 (l.map fun s=>[OT.str s])]⟩) (fun a=>∃ k:Nat,a=k∧k≤(x.args).length) (fun a=>(x.args).length-(a).toNat) 0 ⟨0,rfl,zF _⟩ (by simp (disch:=omega) only [go_sem,Aa]) ?_
   rintro i ⟨k,hi,hk⟩
   have hni:i.toNat=k:=by omega
   have hni1:(i+1).toNat=k+1:=by omega
   rcases zB k (x.args).length with hlt | hge
   ·omega
   ·simp (disch:=omega) only [go_sem,Aa,hni]
 ·have hz:((x.args.length:Int)=0)=False:=eq_false (by omega)
  have hvv:Ao x.name=false:=by
   cases h:Ao x.name with
   | false=>rfl
   | true=>rw [hva h] at h0; simp at h0
  rw [hvv] at hvs
  simp only [cond_false] at hvs
  rw [hvs]
  refine Ad FI D7 (of_decide_eq_true rfl) ?_
  simp (disch:=omega) only [E8,go_sem,Aa,hz]
  refine go_loop (α:=Int × (List ByteArray)) (fun a=>⟨slots 38 0 [(0,(bif dec (l.length<(a.2).length) then .ref 1 else .ref 0)),(27,.arr (x.args.map Tm.d)),(28,.int .i64 x.args.length),(29,.int .i64 (a.1))],(bif dec (l.length<(a.2).length) then [.gone,.row 9 1 ((a.2).map fun s=>[OT.str s])] else [.row 9 1 ((a.2).map fun s=>[OT.str s])])⟩) (fun a=>∃ k:Nat,a.1=k∧k≤(x.args).length∧CD (a.2) (Tm.vsL (x.args.drop k))=CD l (Tm.vsL x.args)∧(a.2).length+Tm.Bf (x.args.drop k)≤1048576∧l.length≤(a.2).length) (fun a=>(x.args).length-(a.1).toNat) (0,l) ⟨0,rfl,zF _,by rw [zJ],by rw [zJ]; dsimp only; omega,zO _⟩ (by simp (disch:=omega) only [go_sem,Aa]) ?_
  rintro ⟨i,acc⟩ ⟨k,hi,hk,hR⟩
  dsimp only at hi hR
  have hni:i.toNat=k:=by omega
  have hni1:(i+1).toNat=k+1:=by omega
  rcases zB k (x.args).length with hlt | hge
  ·have hg:=get_at Tm.d hlt
   rw [Tm.d_eq] at hg
   obtain ⟨hR1,hR2,hR3⟩:=hR
   rw [zG hlt,Tm.vsL,O8] at hR1
   rw [zG hlt,Tm.Bf] at hR2
   have hc:=ih x.args[k] (zD hlt) acc (by omega)
   have hlen:=J4 x.args[k].vs acc
   have hgr:=PM x.args[k].vs acc
   have hvl:=Tm.vs_len x.args[k]
   obtain ⟨acc2,ha2⟩:∃ a,a=CD acc x.args[k].vs:=⟨_,rfl⟩
   rw [←ha2] at hc hlen hgr hR1
   rcases zB l.length acc.length with q1 | q1 <;> rcases zB acc.length acc2.length with q2 | q2
   all_goals
    first
     |rw [At q2] at hc
     |rw [Ay (Nat.not_lt.2 q2)] at hc
    simp only [cond_true,cond_false] at hc
    simp (disch:=omega) only [go_sem,Aa,hni,hg,hc,D7]
    refine ⟨(i+1,acc2),⟨k+1,by dsimp only; omega,hlt,hR1,by dsimp only; omega,by dsimp only; omega⟩,by dsimp only; omega,?_⟩
    first | done | simp (disch:=omega) only [go_sem,Aa]
  ·rw [zI hge,Tm.vsL] at hR
   obtain ⟨hR1,hR2,hR3⟩:=hR
   have hR1:acc=CD l (Tm.vsL x.args):=hR1
   rw [←hR1]
   rcases zB l.length acc.length with q1 | q1
   ·simp (disch:=omega) only [go_sem,Aa,hni]
   ·simp (disch:=omega) only [go_sem,Aa,hni]
theorem V3 (x:Tm) (hx:x.names=true) (hc:x.cok=true):QeT x :=
 To x (fun h=>Tm.EH hx h) hc fun y hy=>V3 y (Tm.Eg hx hy) (by rw [Tm.Lj,zA] at hc; exact Tm.HH hc.2 hy)
termination_by SizeOf.sizeOf x
decreasing_by exact Tm.lt_of_mem hy
theorem Qaw (x:Tm) (h:x.atom=true):QeT x :=
 To x (Tm.Gn h).1 (Tm.HQ h) fun y hy=>V3 y ((Tm.Gn h).2 y hy) (Tm.Jx y ((Tm.Gn h).2 y hy))
noncomputable def Lt.vsL:List Lt→List ByteArray
 | []=>[]
 | x :: xs=>x.atom.vs++Lt.vsL xs
theorem Cl.ok_len {x:Cl} (h:x.ok=true):x.lits.length≤8:=by
 unfold Cl.ok at h
 rw [zA,decide_eq_true_eq] at h
 exact h.1
theorem Cl.Kg {x:Cl} (h:x.ok=true) {k:Nat} (hk:k<x.lits.length):x.lits[k].atom.atom=true:=by
 unfold Cl.ok at h
 rw [zA,decide_eq_true_eq] at h
 exact PG h.2 hk hk
theorem Cl.C3 {x:Cl} (h:x.ok=true):∀ y∈x.lits,y.atom.atom=true:=fun y hy=>by
 obtain ⟨k,hk,rfl⟩:=zX hy
 exact Cl.Kg h hk
theorem Cl.vs_len {c:Cl} (hc:c.ok=true):(Lt.vsL c.lits).length≤240:=by
 have hl:=Cl.ok_len hc
 have key:∀ xs:List Lt,(∀ x∈xs,x.atom.nodes≤30)→(Lt.vsL xs).length≤30*xs.length:=by
  intro xs
  induction xs with
  | nil=>intro _; exact zO _
  | cons x xs ih =>
   intro h
   have h1:=h x (by simp)
   have h2:=ih fun y hy=>h y (by simp [hy])
   have h3:=Tm.vs_len x.atom
   rw [Lt.vsL,zV,zP]; omega
 have:=key c.lits fun x hx=>by
  obtain ⟨k,hk,rfl⟩:=zX hx
  exact Tm.Cu (Cl.Kg hc hk)
 omega
def L6:SC:=(.seq (.reg [⟨some 1,none,.boxv 60 1 (.t 0)⟩,⟨some 2,none,.mv (.c .nil)⟩]) (.seq (.reg [⟨(some 6),none,(.mkrow 9 1 [(.str ⟨#[]⟩)] 0 [])⟩,⟨some 3,none,.mv (.t 6)⟩]) (.seq (.seq (.reg [⟨some 7,none,.faddr 0 (.t 1)⟩,⟨some 8,none,.load false 1 (.t 7)⟩,⟨some 9,none,.len false (.t 8)⟩,⟨some 10,none,.mv (.c (.int .i64 0))⟩]) (.block 0 (.loop [0,0,0,1,0,0,0,0,1,1,1,0,0,0,0,0,0,0,0,0] (.seq (.reg [⟨some 11,none,.bin .lss false (.t 10) (.t 9)⟩]) (.seq (.cond (.t 11) .skip (.exit 0)) (.seq (.block 1 (.seq (.reg [⟨some 12,none,.iaddr 3 (.t 8) (.t 10)⟩,⟨some 13,none,.load true 3 (.t 12)⟩,⟨(some 5),none,(.alloc 122 [(.bool false),(.str ⟨#[]⟩),.nil])⟩,⟨none,none,(.store 3 (.t 5) (.t 13))⟩]) (.reg [⟨some 14,none,.mv (.t 3)⟩,⟨some 15,none,.faddr 1 (.t 5)⟩,⟨some 16,none,.load true 2 (.t 15)⟩,⟨some 17,none,.call 193 [(.t 14),(.t 16)]⟩,⟨some 3,none,.mv (.t 17)⟩]))) (.reg [⟨some 18,none,.bin .add false (.t 10) (.c (.int .i64 1))⟩,⟨some 10,none,.mv (.t 18)⟩]))))))) (.seq (.reg [⟨some 19,none,.mv (.t 3)⟩,⟨some 2,none,.mv (.t 19)⟩]) .ret))))
theorem Tp:codeOf Tryz.prog 204=some ⟨20,L6,[(.tmp 2)]⟩:=by kernel_rfl
theorem D8:modes 204=⟨[],.asis,none,false⟩:=by unfold modes; rfl
theorem PN (c:Cl) (hc:c.ok=true):E 204 [c.sv] []=some (.ref 0,[.row 9 1 ((CD [] (Lt.vsL c.lits)).map fun s=>[OT.str s])]):=by
 have hl:=Cl.ok_len hc
 refine Ad Tp D8 (of_decide_eq_true rfl) ?_
 simp (disch:=omega) only [L6,go_sem,Aa]
 refine go_loop (α:=Int × (List ByteArray)) (fun a=>⟨slots 20 0 [(3,.ref 0),(8,.arr (c.lits.map Lt.d)),(9,.int .i64 c.lits.length),(10,.int .i64 (a.1))],[.row 9 1 ((a.2).map fun s=>[OT.str s])]⟩) (fun a=>∃ k:Nat,a.1=k∧k≤(c.lits).length∧CD (a.2) (Lt.vsL (c.lits.drop k))=CD [] (Lt.vsL c.lits)∧(a.2).length≤30*k) (fun a=>(c.lits).length-(a.1).toNat) (0,[]) ⟨0,rfl,zF _,by rw [zJ],zO _⟩ (by simp (disch:=omega) only [go_sem,Aa]) ?_
 rintro ⟨i,acc⟩ ⟨k,hi,hk,hR⟩
 dsimp only at hi hR
 have hni:i.toNat=k:=by omega
 have hni1:(i+1).toNat=k+1:=by omega
 rcases zB k (c.lits).length with hlt | hge
 ·have hg:=get_at Lt.d hlt
  rw [Lt.d_eq] at hg
  obtain ⟨hR1,hR2⟩:=hR
  rw [zG hlt,Lt.vsL,O8] at hR1
  have hnn:=Tm.Cu (Cl.Kg hc hlt)
  have hcl:=Qaw c.lits[k].atom (Cl.Kg hc hlt) acc (by omega)
  have has:c.lits[k].atom.sv=.agg [.str c.lits[k].atom.name,.arr (c.lits[k].atom.args.map Tm.d)]:=rfl
  have hlen:=J4 c.lits[k].atom.vs acc
  have hvl:=Tm.vs_len c.lits[k].atom
  obtain ⟨acc2,ha2⟩:∃ a,a=CD acc c.lits[k].atom.vs:=⟨_,rfl⟩
  rw [←ha2] at hcl hlen hR1
  rcases zB acc.length acc2.length with q2 | q2
  all_goals
   first
    |rw [At q2] at hcl
    |rw [Ay (Nat.not_lt.2 q2)] at hcl
   simp only [cond_true,cond_false] at hcl
   simp (disch:=omega) only [go_sem,Aa,hni,hg,has,hcl,D7]
   refine ⟨(i+1,acc2),⟨k+1,by dsimp only; omega,hlt,hR1,by dsimp only; omega⟩,by dsimp only; omega,?_⟩
   first | trivial | rfl | exact ⟨rfl,rfl⟩
 ·rw [zI hge,Lt.vsL] at hR
  obtain ⟨hR1,hR2⟩:=hR
  have hR1:acc=_:=hR1
  rw [←hR1]
  simp (disch:=omega) only [go_sem,Aa,hni]
theorem Qcx (s:Sb) (hs:s.ok=true) (ht:s.tame) (l:List Lt) (hl:l.length≤1048576) (hal:∀ x∈l,x.atom.atom=true):E 271 [s.sv,.arr (l.map Lt.d)] []=some (.tup [(apC s l).sv,.bool (EO s l)],[]):=by
 have her:OT.erss (l.map (fun x:Lt=>(Lt.ap s x).d.map D.ot))=(l.map (Lt.ap s)).map Lt.d:=by
  have:=Lt.der (l.map (Lt.ap s))
  rw [yN] at this
  exact this
 have hfu:OT.AA (l.map (fun x:Lt=>(Lt.ap s x).d.map D.ot))=true:=by
  have:=Lt.dfu (l.map (Lt.ap s))
  rw [yN] at this
  exact this
 refine Ad Tk FH (of_decide_eq_true rfl) ?_
 simp (disch:=omega) only [L5,go_sem,Aa]
 refine go_loop (α:=Int) (fun a=>⟨slots 45 0 [(1,.arr (l.map Lt.d)),(2,.ptr 0 0),(4,.ptr 1 0),(6,.ref 2),(7,.int .i64 a)],[.box 142 [.arr (s.binds.map Bd.d)],.box 60 [.nil],.row 122 3 ((l.take a.toNat).map (fun x:Lt=>(Lt.ap s x).d.map D.ot))]⟩) (fun a=>∃ k:Nat,a=k∧k≤(l).length∧∀ x∈l.take k,(x.atom.ap s.look).small=true) (fun a=>(l).length-(a).toNat) 0 ⟨0,rfl,zF _,fun x hx=>by simp at hx⟩ (by simp (disch:=omega) only [go_sem,Aa,yD]) ?_
 rintro i ⟨k,hi,hk,hR⟩
 have hni:i.toNat=k:=by omega
 have hni1:(i+1).toNat=k+1:=by omega
 rcases zB k (l).length with hlt | hge
 ·have hg:=get_at Lt.d hlt
  rw [Lt.d_eq] at hg
  have hat:=hal l[k] (zD hlt)
  have hsn:=DX (fun x:Lt=>(Lt.ap s x).d.map D.ot) hlt
  have hs1:[[OT.bool l[k].pos,.str (l[k].atom.ap s.look).name,.sh ((l[k].atom.ap s.look).args.map Tm.d)]]=[(fun x:Lt=>(Lt.ap s x).d.map D.ot) l[k]]:=by simp only [Lt.d_eq]; rfl
  have htl:(l.take k).length=k:=by rw [zQ]; omega
  have hnd:=Tm.Cu hat
  have ha:=PJ s hs ht l[k].atom (by omega)
  have hap:=Tm.J2 (Sb.FF hs) l[k].atom
  have hb:=SQ (l[k].atom.ap s.look) (by omega)
  rw [Tm.Qby (Sb.FF hs) _ hat] at hb
  cases hq:(l[k].atom.ap s.look).small with
  | true =>
   rw [hq] at hb
   simp (disch:=omega) only [go_sem,Aa,hni,hg,ha,hb,htl,AG,AV,Dt,B9]
   refine ⟨i+1,⟨k+1,by omega,hlt,fun x hx=>?_⟩,by omega,?_⟩
   ·rcases yV.1 (by rw [yG hlt] at hx; exact hx) with hx | hx
    ·exact hR x hx
    ·rw [yX.1 hx]; exact hq
   ·simp (disch:=omega) only [go_sem,Aa,hni1,hs1,hsn,and_self]
  | false =>
   rw [hq] at hb
   have hno:EO s l=false:=by
    unfold EO Tl
    rw [show (l.all fun x=>(x.atom.ap s.look).small)=false from ?_,yM]
    rw [List.all_eq_false]
    exact ⟨l[k],zD hlt,by rw [hq]; simp⟩
   rw [PL hno,hno,YD]
   simp (disch:=omega) only [go_sem,Aa,hni,hg,ha,hb,AG,AV,Dt,B9]
 ·obtain rfl:k=l.length:=by omega
  have htk:l.take l.length=l:=zR
  rw [htk] at hR
  have hal2:Tl s l=true:=by unfold Tl; rw [zN]; exact hR
  have hfine:∀ x∈l.map (Lt.ap s),x.fine:=fun x hx=>by
   obtain ⟨y,hy,rfl⟩:=yJ.1 hx
   exact Lt.Qbz hs (hal y hy) (hR y hy)
  have hlen:(l.map (Lt.ap s)).length≤1048576:=by rw [zC]; exact hl
  have hc:=SZ (l.map (Lt.ap s)) hlen hfine
  have hgd:=SS (mkC (l.map (Lt.ap s))) (YC hlen hfine)
  cases hv:(mkC (l.map (Lt.ap s))).ok with
  | true =>
   have hok:EO s l=true:=by unfold EO; rw [hal2,hv]; rfl
   rw [hv] at hgd
   rw [Xf hok,hok]
   simp (disch:=omega) only [go_sem,Aa,hni,htk,hc,hgd,her,hfu,AG,AV,Dt,B9]
  | false =>
   have hok:EO s l=false:=by unfold EO; rw [hv,zM]
   rw [hv] at hgd
   rw [PL hok,hok,YD]
   simp (disch:=omega) only [go_sem,Aa,hni,htk,hc,hgd,her,hfu,AG,AV,Dt,B9]
abbrev SEnv:=ByteArray→Option ByteArray
def Fx (e:SEnv):MF
 | .str s=>match e s with
  | some n=>some (false,[.str n])
  | none=>none
 | .int _=>none
theorem Mz (e:SEnv) (s:ByteArray):Fx e (.str s)=match e s with | some n=>some (false,[.str n]) | none=>none:=rfl
noncomputable def Qcy (e:SEnv) (s n:ByteArray):SEnv:=fun q=>bif dec (q=s) then some n else e q
theorem V4 (e:SEnv) (s n:ByteArray):Pq (Fx e) (.str s) (false,[.str n])=Fx (Qcy e s n):=by
 funext k
 cases k with
 | int i=>rw [JN (fun h=>by cases h)]; rfl
 | str q =>
  rw [NR,Mz,Mz]
  unfold Qcy
  cases dec (q=s) <;> rfl
theorem Qax:Fx (fun _=>none)=nomap:=by
 funext k
 cases k <;> rfl
mutual
noncomputable def Tm.rn (e:SEnv):Tm→Tm
 | .mk n args=>.mk (bif args.isEmpty then (e n).getD n else n) (Tm.rnL e args)
noncomputable def Tm.rnL (e:SEnv):List Tm→List Tm
 | []=>[]
 | x :: xs=>Tm.rn e x :: Tm.rnL e xs
end
theorem Tm.Qb1 (e:SEnv):∀ xs:List Tm,Tm.rnL e xs=xs.map (Tm.rn e)
 | []=>by rw [Tm.rnL]; rfl
 | x :: xs=>by rw [Tm.rnL,Tm.Qb1 e xs]; rfl
theorem Tm.Tq (e:SEnv) (x:Tm):x.rn e=.mk (bif x.args.isEmpty then (e x.name).getD x.name else x.name) (x.args.map (Tm.rn e)):=by
 obtain ⟨n,args⟩:=x
 rw [Tm.rn,Tm.Qb1]; rfl
theorem Tm.YG (e:SEnv) (x:Tm):(x.rn e).nodes=x.nodes:=by
 have key:∀ xs:List Tm,(∀ y∈xs,(y.rn e).nodes=y.nodes)→Tm.Bf (xs.map (Tm.rn e))=Tm.Bf xs:=by
  intro xs
  induction xs with
  | nil=>intro _; rfl
  | cons y ys ih =>
   intro h
   rw [zK,Tm.Bf,Tm.Bf,h y (by simp),ih fun z hz=>h z (by simp [hz])]
 rw [Tm.Tq,Tm.An,Tm.An]
 show 1+Tm.Bf (x.args.map (Tm.rn e))=_
 rw [key x.args fun y hy=>Tm.YG e y]
termination_by SizeOf.sizeOf x
decreasing_by exact Tm.lt_of_mem hy
theorem Qay {n:Int} (h0:0≤n) (h:n<10):F5 n=⟨#[UInt8.ofNat (48+n.toNat)]⟩:=by
 obtain ⟨u,rfl⟩:∃ u:Nat,n=u:=⟨n.toNat,by omega⟩
 unfold F5
 rw [Lib.itoa_nonneg,Lib.decDigits,dif_pos (by omega)]
 rfl
theorem QdA {n:Int} (h:10≤n):F5 n=F5 (n.tdiv 10)++⟨#[UInt8.ofNat (48+(n.tmod 10).toNat)]⟩:=by
 obtain ⟨u,rfl⟩:∃ u:Nat,n=u:=⟨n.toNat,by omega⟩
 have e1:(u:Int).tdiv 10=((u / 10:Nat):Int):=by rw [zW (by omega)]; rfl
 have e2:((u:Int).tmod 10).toNat=u % 10:=by rw [yY (by omega)]; omega
 rw [e1,e2]
 unfold F5
 rw [Lib.itoa_nonneg,Lib.itoa_nonneg,Lib.decDigits,dif_neg (by omega)]
 have key:∀ (x:List UInt8) (y:UInt8),(⟨(x++[y]).toArray⟩:ByteArray)=⟨x.toArray⟩++⟨#[y]⟩:=fun x y=>by
  have e:∀ a b:ByteArray,a.data=b.data→a=b:=fun a b h=>by cases a; cases b; cases h; rfl
  apply e
  simp
 exact key _ _
def pre (p:ByteArray) (n:Int):ByteArray:=p++F5 n
theorem FJ:modes 189=⟨[],.asis,some (M6 Vj),false⟩:=by unfold modes; rfl
theorem QdB (n:Int) (h0:0≤n) (h1:n≤1099511627776):E 189 [.int .i64 n] []=some (.str (F5 n),[]) :=
 Vl (g:=Vj) (congrArg FM.ext FJ) (by simp only [Vj,At (⟨h0,h1⟩:0≤n∧n≤1099511627776),cond_true])
noncomputable def Cl.ns (c:Cl):List ByteArray:=CD [] (Lt.vsL c.lits)
def M8:ByteArray:=⟨#[88]⟩
def GH:ByteArray:=⟨#[89]⟩
theorem Cl.N5 {c:Cl} (h:c.ok=true):c.ns.length≤240:=by
 have h1:=J4 (Lt.vsL c.lits) []
 have h2:=Cl.vs_len h
 unfold Cl.ns
 simp only [zY] at h1
 omega
theorem Cl.ns_nodup (c:Cl):c.ns.Nodup:=Tn List.nodup_nil
theorem Lt.vsL_mem {v:ByteArray}:∀ {xs:List Lt},v∈Lt.vsL xs ↔ ∃ x∈xs,v∈x.atom.vs
 | []=>by simp [Lt.vsL]
 | x :: xs=>by rw [Lt.vsL,yV,Lt.vsL_mem (xs:=xs)]; simp
theorem Cl.QdC {c:Cl} {v:ByteArray}:v∈c.ns ↔ ∃ x∈c.lits,v∈x.atom.vs:=by
 unfold Cl.ns
 rw [YE,Lt.vsL_mem]
 simp
noncomputable def D9 (p:ByteArray) (l:List ByteArray):SEnv:=l.zipIdx.foldl (fun e x=>Qcy e x.1 (pre p (x.2:Nat))) fun _=>none
theorem M0 (p:ByteArray) {l:List ByteArray} {k:Nat} (h:k<l.length):D9 p (l.take (k+1))=Qcy (D9 p (l.take k)) l[k] (pre p (k:Nat)):=by
 unfold D9
 rw [←List.take_append_getElem h,List.zipIdx_append,y4]
 have e:(l.take k).length=k:=by rw [zQ]; omega
 simp only [List.zipIdx_cons,List.zipIdx_nil,z8,y9,e,Nat.zero_add]
theorem Qb2 (p:ByteArray) {l:List ByteArray} (hn:l.Nodup):∀ (n k:Nat) (hk:k<l.length),n≤l.length→k<n→D9 p (l.take n) l[k]=some (pre p (k:Nat))
 | 0,k,hk,_,h=>absurd h (by omega)
 | n+1,k,hk,hl,h=>by
  rw [M0 p (by omega:n<l.length)]
  unfold Qcy
  by_cases e:k=n
  ·subst e
   rw [At rfl,cond_true]
  ·have hne:l[k]≠l[n]:=fun he=>e ((List.getElem_inj hn).1 he)
   rw [Ay hne,cond_false]
   exact Qb2 p hn n k hk (by omega) (by omega)
theorem Tr (p:ByteArray) {l:List ByteArray} (hn:l.Nodup) {k:Nat} (hk:k<l.length):D9 p l l[k]=some (pre p (k:Nat)):=by
 have h:=Qb2 p hn l.length k hk (zO _) hk
 rw [zR] at h
 exact h
theorem YH (p:ByteArray) {l:List ByteArray} {q:ByteArray} (hq:q ∉ l):∀ n,n≤l.length→D9 p (l.take n) q=none
 | 0,_=>by rw [z7]; rfl
 | n+1,h=>by
  rw [M0 p (by omega:n<l.length)]
  unfold Qcy
  rw [Ay (show ¬ q=l[n] from fun e=>hq (by rw [e]; exact zD _)),cond_false]
  exact YH p hq n (by omega)
theorem PO (p:ByteArray) {l:List ByteArray} {q:ByteArray} (hq:q ∉ l):D9 p l q=none:=by
 have h:=YH p hq l.length (zO _)
 rw [zR] at h
 exact h
def O9 (e:SEnv):Prop:=∀ s n,e s=some n→Ao s=true∧Ao n=true
theorem QdD:∀ i:_root_.Fin 300,Ao (pre M8 (i.val:Nat))=true:=by decide +kernel
theorem QdE:∀ i:_root_.Fin 300,Ao (pre GH (i.val:Nat))=true:=by decide +kernel
theorem V5 {p:ByteArray} (hp:∀ i:_root_.Fin 300,Ao (pre p (i.val:Nat))=true) {l:List ByteArray} (hn:l.Nodup) (hl:l.length≤240) (hv:∀ s∈l,Ao s=true):O9 (D9 p l):=fun s n h=>by
 by_cases hs:s∈l
 ·obtain ⟨k,hk,rfl⟩:=zX hs
  rw [Tr p hn hk] at h
  obtain rfl:=yP h
  exact ⟨hv _ hs,hp ⟨k,by omega⟩⟩
 ·rw [PO p hs] at h
  cases h
theorem Tm.QdF {v:ByteArray}:∀ x:Tm,v∈x.vs→Ao v=true
 | .mk n a=>fun h=>by
  rw [Tm.vs] at h
  cases hv:Ao n with
  | true =>
   rw [hv,cond_true,yX] at h
   subst h; exact hv
  | false =>
   rw [hv,cond_false,Tm.vsL_mem] at h
   obtain ⟨y,hy,h⟩:=h
   exact Tm.QdF y h
termination_by x=>SizeOf.sizeOf x
decreasing_by exact Tm.lt_of_mem (x:=.mk n a) hy
theorem Cl.Qaz {c:Cl} {s:ByteArray} (h:s∈c.ns):Ao s=true:=by
 obtain ⟨x,_,h⟩:=Cl.QdC.1 h
 exact Tm.QdF _ h
theorem Tm.Na (e:SEnv) (x:Tm):(x.rn e).name=(bif x.args.isEmpty then (e x.name).getD x.name else x.name)∧(x.rn e).args=x.args.map (Tm.rn e):=by
 rw [Tm.Tq]; exact ⟨rfl,rfl⟩
theorem V6 {e:SEnv} {xs:List Tm} (h:∀ y∈xs,(y.rn e).names=true):Tm.Ez (xs.map (Tm.rn e))=true:=by
 rw [Tm.D6,zN]
 intro z hz
 obtain ⟨y,hy,rfl⟩:=yJ.1 hz
 exact h y hy
theorem Tm.Kh {e:SEnv} (he:O9 e) (x:Tm) (hv:Ao x.name=false):(x.rn e).name=x.name:=by
 rw [(Tm.Na e x).1]
 cases hx:e x.name with
 | none=>cases x.args.isEmpty <;> rfl
 | some n =>
  have:=(he _ _ hx).1
  rw [hv] at this; cases this
theorem Tm.Ts {e:SEnv} (he:O9 e) (x:Tm) (h:x.names=true):(x.rn e).names=true:=by
 have h1:=Tm.Na e x
 rw [Tm.EZ] at h ⊢
 rw [h1.2,zC]
 cases hv:Ao x.name with
 | true =>
  rw [hv,if_pos rfl] at h
  have h0:x.args=[]:=zE (by simpa using h)
  have hn:Ao (x.rn e).name=true:=by
   rw [h1.1,h0]
   show Ao ((e x.name).getD x.name)=true
   cases hx:e x.name with
   | none=>exact hv
   | some n=>exact (he _ _ hx).2
  rw [hn,if_pos rfl]
  exact h
 | false =>
  rw [hv,if_neg (by simp)] at h
  rw [Tm.Kh he x hv,hv,if_neg (by simp)]
  rw [zA] at h ⊢
  refine ⟨h.1,V6 fun y hy=>Tm.Ts he y ?_⟩
  have h2:=h.2
  rw [Tm.D6,zN] at h2
  exact h2 y hy
termination_by SizeOf.sizeOf x
decreasing_by exact Tm.lt_of_mem hy
theorem Tm.Qb3 (e:SEnv) (x:Tm):(x.rn e).deep=x.deep:=by
 have key:∀ xs:List Tm,(∀ y∈xs,(y.rn e).deep=y.deep)→Tm.EN (xs.map (Tm.rn e))=Tm.EN xs:=by
  intro xs
  induction xs with
  | nil=>intro _; rfl
  | cons y ys ih =>
   intro h
   rw [zK,Tm.EN,Tm.EN,h y (by simp),ih fun z hz=>h z (by simp [hz])]
 rw [Tm.Tq,Tm.Mu,Tm.Mu]
 show Tm.EN (x.args.map (Tm.rn e))+1=_
 rw [key x.args fun y hy=>Tm.Qb3 e y]
termination_by SizeOf.sizeOf x
decreasing_by exact Tm.lt_of_mem hy
theorem Tm.YI (e:SEnv) (x:Tm):(x.rn e).small=x.small:=by
 unfold Tm.small
 rw [Tm.YG,Tm.Qb3]
theorem Tm.QeU {e:SEnv} (he:O9 e) (x:Tm) (h:x.atom=true):(x.rn e).atom=true:=by
 have hv:Ao x.name=false:=by
  unfold Tm.atom at h
  split at h
  ·rename_i hq
   have:x.name=⟨#[61]⟩:=Ar.1 hq
   rw [this]; decide +kernel
  ·rw [zA] at h
   exact PK h.1
 have hn:=Tm.Kh he x hv
 have hq:(x.rn e).eqn=x.eqn:=by unfold Tm.eqn; rw [hn]
 unfold Tm.atom at h ⊢
 rw [hq,hn,Tm.YI,(Tm.Na e x).2,zC]
 split at h
 ·rename_i hb
  rw [if_pos hb]
  rw [zA] at h ⊢
  refine ⟨h.1,V6 fun y hy=>Tm.Ts he y ?_⟩
  have h2:=h.2
  rw [Tm.D6,zN] at h2
  exact h2 y hy
 ·rename_i hb
  rw [if_neg hb]
  rw [zA] at h ⊢
  refine ⟨h.1,?_⟩
  have h2:=h.2
  unfold Tm.valid at h2 ⊢
  rw [zA] at h2 ⊢
  exact ⟨by rw [Tm.YI]; exact h2.1,Tm.Ts he x h2.2⟩
noncomputable def Lt.rn (e:SEnv) (x:Lt):Lt:=⟨x.pos,x.atom.rn e⟩
noncomputable def Cl.rn (e:SEnv) (c:Cl):Cl:=mkC (c.lits.map (Lt.rn e))
theorem PP {x:Lt} (h:x.atom.atom=true):x.fine:=⟨Tm.HQ h,by have:=Tm.Cu h; omega⟩
theorem PQ {xs:List Lt}:∀ {k:Nat},Hq xs k=true→k≤xs.length→∀ (j:Nat) (h:j+1<k) (hl:j+1<xs.length),(xs[j]'(by omega)).cmp xs[j+1]<0
 | 0,_,_,j,h,_=>absurd h (by omega)
 | k+1,hk,hle,j,h,hl=>by
  rw [Hq,zA] at hk
  rcases zB (j+1) k with h1 | h1
  ·exact PQ hk.1 (by omega) j h1 hl
  ·obtain rfl:k=j+1:=by omega
   have h2:=hk.2
   rw [EF hl,zA,decide_eq_true_eq] at h2
   exact h2.2
theorem YJ {xs:List Lt} (h:Hq xs xs.length=true):Dl xs:=by
 unfold Dl
 rw [yO]
 intro i j hi hj hij
 obtain ⟨d,rfl⟩:∃ d,j=i+1+d:=⟨j-(i+1),by omega⟩
 clear hij
 induction d with
 | zero=>exact PQ h (zO _) i hj hj
 | succ d ih =>
  have h1:=ih (by omega)
  have h2:=PQ h (zO _) (i+1+d) hj hj
  exact (Lt.cmp_ord _ _ _).trans h1 h2
theorem YK {xs:List Lt} (h2:∀ x∈xs,x.atom.atom=true) (h3:Dl xs):Hq xs xs.length=true:=by
 have key:∀ k,k≤xs.length→Hq xs k=true:=by
  intro k
  induction k with
  | zero=>intro _; rfl
  | succ k ih =>
   intro hk
   rw [Hq,ih (by omega),yH]
   cases k with
   | zero=>rw [Hx (by omega)]; exact h2 _ (zD _)
   | succ k =>
    rw [EF (by omega),h2 _ (zD _),yH,decide_eq_true_eq]
    exact yO.1 h3 k (k+1) (by omega) (by omega) (by omega)
 exact key _ (zO _)
theorem Cl.V7 {c:Cl} (h:c.ok=true):Dl c.lits:=by
 unfold Cl.ok at h
 rw [zA] at h
 exact YJ h.2
theorem Cl.Qgn {l:List Lt} (h1:l.length≤8) (h2:∀ x∈l,x.atom.atom=true) (h3:Dl l):(Cl.mk l).ok=true:=by
 unfold Cl.ok
 rw [zA,decide_eq_true_eq]
 exact ⟨h1,YK h2 h3⟩
theorem QfL {l:List Lt} (h1:l.length≤8) (h2:∀ x∈l,x.atom.atom=true):(mkC l).ok=true :=
 Cl.Qgn (Nat.le_trans (Qbq l) h1) (fun x hx=>h2 x ((R7 l x).1 hx)) (N3 l)
theorem YL {l:List Lt} (h:Dl l):mkC l=⟨l⟩:=by
 have:(mkC l).lits=l:=JV (N3 l) h fun z=>R7 l z
 exact congrArg Cl.mk this
theorem Lt.Tt {e:SEnv} (he:O9 e) {l:List Lt} (h:∀ x∈l,x.atom.atom=true):∀ x∈l.map (Lt.rn e),x.atom.atom=true:=fun z hz=>by
 obtain ⟨x,hx,rfl⟩:=yJ.1 hz
 exact Tm.QeU he _ (h x hx)
theorem Cl.Qb4 {e:SEnv} (he:O9 e) {c:Cl} (h:c.ok=true):(c.rn e).ok=true :=
 QfL (by rw [zC]; exact Cl.ok_len h) (Lt.Tt he (Cl.C3 h))
theorem Cl.xE {c:Cl} (h:c.ok=true):O9 (D9 M8 c.ns):=V5 QdD c.ns_nodup (Cl.N5 h) fun s=>Cl.Qaz
theorem Cl.yE {c:Cl} (h:c.ok=true):O9 (D9 GH c.ns):=V5 QdE c.ns_nodup (Cl.N5 h) fun s=>Cl.Qaz
def OA (l:List ByteArray):Prop:=∀ (i:Nat) (h:i<l.length),l[i]=pre M8 (i:Nat)
noncomputable def Cl.norm (c:Cl):Bool:=dec (OA c.ns)
noncomputable def nz:Nat→Cl→Cl
 | 0,c=>c
 | n+1,c=>bif c.norm then c else nz n (c.rn (D9 M8 c.ns))
theorem Qb5:∀ (n:Nat) {c:Cl},c.ok=true→(nz n c).ok=true
 | 0,c,h=>h
 | n+1,c,h=>by
  rw [nz]
  cases c.norm with
  | true=>exact h
  | false=>exact Qb5 n (Cl.Qb4 (Cl.xE h) h)
def FK:SC:=(.seq (.reg [⟨some 2,none,.boxv 33 2 (.t 0)⟩,⟨(some 4),none,(.alloc 33 [(.str ⟨#[]⟩),.nil])⟩]) (.seq (.reg [⟨some 10,none,.faddr 0 (.t 2)⟩,⟨some 11,none,.load false 1 (.t 10)⟩,⟨(some 12),none,(.build [(.str ⟨#[]⟩),.nil] [(0,(1,(.t 11)))])⟩,⟨(some 5),none,(.alloc 33 [(.str ⟨#[]⟩),.nil])⟩,⟨none,none,(.store 2 (.t 5) (.t 12))⟩]) (.seq (.seq (.reg [⟨some 14,none,.mv (.t 1)⟩,⟨some 15,none,.faddr 0 (.t 2)⟩,⟨some 16,none,.load false 1 (.t 15)⟩,⟨(some 17),none,(.mget true true false [(.str ⟨#[]⟩)] (.t 14) (.t 16))⟩,⟨some 13,none,.mv (.t 17)⟩,⟨some 18,none,.ext (.t 13) 0⟩,⟨some 19,none,.ext (.t 13) 1⟩,⟨some 6,none,.mv (.t 18)⟩,⟨some 7,none,.mv (.t 19)⟩]) (.seq (.reg [⟨some 20,none,.mv (.t 7)⟩,⟨some 21,none,.mv (.t 20)⟩,⟨(some 22),(some (21,true)),(.faddr 1 (.t 2))⟩,⟨(some 23),(some (21,true)),(.load false 1 (.t 22))⟩,⟨(some 24),(some (21,true)),(.len false (.t 23))⟩,⟨(some 25),(some (21,true)),(.bin .eql false (.t 24) (.c (.int .i64 0)))⟩,⟨some 26,none,.pick (.t 21) (.t 25) (.c (.bool false))⟩]) (.cond (.t 26) (.reg [⟨some 27,none,.mv (.t 6)⟩,⟨some 28,none,.faddr 0 (.t 5)⟩,⟨none,none,(.store 1 (.t 28) (.t 27))⟩]) .skip))) (.seq (.seq (.reg [⟨some 29,none,.faddr 1 (.t 2)⟩,⟨some 30,none,.load false 1 (.t 29)⟩,⟨some 31,none,.len false (.t 30)⟩,⟨some 32,none,.mv (.c (.int .i64 0))⟩]) (.block 0 (.loop [0,1,0,0,1,1,0,0,0,0,0,0,0,0,0,0,0,0,0,0,0,0,0,0,0,0,0,0,0,0,1,1,1,0,0,0,0,0,0,0,0,0,0,0,0,0] (.seq (.reg [⟨some 33,none,.bin .lss false (.t 32) (.t 31)⟩]) (.seq (.cond (.t 33) .skip (.exit 0)) (.seq (.block 1 (.seq (.reg [⟨some 34,none,.iaddr 2 (.t 30) (.t 32)⟩,⟨some 35,none,.load true 2 (.t 34)⟩,⟨(some 9),none,(.alloc 33 [(.str ⟨#[]⟩),.nil])⟩,⟨none,none,(.store 2 (.t 9) (.t 35))⟩]) (.dreg [[],[0],[],[],[2,3],[4,2,3],[1,0,5,4,2,3],[0,1,2,3,4,5,6],[7,0,1,2,3,4,5,6]] [⟨some 36,none,.faddr 1 (.t 5)⟩,⟨some 37,none,.load false 1 (.t 36)⟩,⟨some 38,none,.load true 2 (.t 9)⟩,⟨some 39,none,.mv (.t 1)⟩,⟨some 40,none,.call 275 [(.t 38),(.t 39)]⟩,⟨(some 41),none,(.mkrow 33 2 [(.str ⟨#[]⟩),.nil] 1 [(0,(.t 40))])⟩,⟨(some 42),none,(.append 33 2 40 [(.str ⟨#[]⟩),.nil] (.t 37) (.t 41))⟩,⟨some 43,none,.faddr 1 (.t 5)⟩,⟨none,none,(.store 1 (.t 43) (.t 42))⟩]))) (.reg [⟨some 44,none,.bin .add false (.t 32) (.c (.int .i64 1))⟩,⟨some 32,none,.mv (.t 44)⟩]))))))) (.seq (.reg [⟨some 45,none,.load true 2 (.t 5)⟩,⟨none,none,(.store 2 (.t 4) (.t 45))⟩]) .ret)))))
theorem HZ:codeOf Tryz.prog 275=some ⟨46,FK,[(.cell 4 true 2)]⟩:=by kernel_rfl
theorem BB:modes 275=⟨[],.own [none,some (33,2)],none,false⟩:=by unfold modes; rfl
abbrev RnC (e:SEnv) (x:Tm):Prop:=E 275 [x.sv,.mp true (Fx e)] []=some ((x.rn e).osv,(x.rn e).obs)
theorem Qa0 (e:SEnv) (x:Tm) (hn:x.args.length≤1099511627776) (ih:∀ y∈x.args,RnC e y):RnC e x:=by
 unfold RnC
 obtain ⟨nm,hnm⟩:∃ nm,nm=bif x.args.isEmpty then (e x.name).getD x.name else x.name:=⟨_,rfl⟩
 have e0:x.rn e=.mk nm (x.args.map (Tm.rn e)):=by rw [Tm.Tq,hnm]
 have e1:(Tm.mk nm (x.args.map (Tm.rn e))).osv=.agg [.str nm,.ref 0]:=rfl
 have e2:(Tm.mk nm (x.args.map (Tm.rn e))).obs=[.row 33 2 ((x.args.map (Tm.rn e)).map Tm.o)]:=rfl
 rw [e0,e1,e2]
 have h10:((1:Int)=0)=False:=by simp
 cases he:e x.name with
 | none =>
  have hme:Fx e (.str x.name)=none:=by rw [Mz,he]
  have hnn:nm=x.name:=by
   rw [hnm,he]
   cases x.args.isEmpty <;> rfl
  rw [hnn]
  clear hnm e0 e1 e2 hnn nm
  obtain ⟨nm,hnm⟩:∃ nm,nm=x.name:=⟨_,rfl⟩
  rw [←hnm] at hme ⊢
  refine Ad HZ BB (of_decide_eq_true rfl) ?_
  simp (disch:=omega) only [FK,go_sem,Aa,hme,← hnm]
  refine go_loop (α:=Int) (fun a=>⟨slots 46 0 [(1,.mp true (Fx e)),(4,.ptr 0 0),(5,.ptr 1 0),(30,.arr (x.args.map Tm.d)),(31,.int .i64 x.args.length),(32,.int .i64 a)],(if a=0 then [.box 33 [.str ⟨#[]⟩,.nil],.box 33 [.str nm,.nil]] else [.box 33 [.str ⟨#[]⟩,.nil],.box 33 [.str nm,.ref 2],.row 33 2 (((x.args.map (Tm.rn e)).take a.toNat).map Tm.o)])⟩) (fun a=>∃ k:Nat,a=k∧k≤(x.args).length) (fun a=>(x.args).length-(a).toNat) 0 ⟨0,rfl,zF _⟩ (by simp (disch:=omega) only [go_sem,Aa,eq_self,if_true]) ?_
  rintro i ⟨k,hi,hk⟩
  have hni:i.toNat=k:=by omega
  have hni1:(i+1).toNat=k+1:=by omega
  rcases zB k (x.args).length with hlt | hge
  ·have hg:=get_at Tm.d hlt
   rw [Tm.d_eq] at hg
   have hc:=ih x.args[k] (zD hlt)
   have hlm:k<(x.args.map (Tm.rn e)).length:=by rw [zC]; exact hlt
   have hs:=DX Tm.o hlm
   rw [Tm.o_eq,yC] at hs
   rcases zH k with h0 | h0
   ·subst h0
    obtain rfl:i=0:=hi
    rw [z7,zL,zU] at hs
    simp (disch:=omega) only [go_sem,Aa,hni,hg,hc,Tm.osv,Tm.obs,BB,eq_self,if_true]
    refine ⟨1,⟨1,rfl,hlt⟩,by omega,?_⟩
    simp (disch:=omega) only [go_sem,Aa,h10,if_false,hs]
   ·have hi0:(i=0)=False:=by simp; omega
    have hi1:(i+1=0)=False:=by simp; omega
    have htl:((x.args.map (Tm.rn e)).take k).length=k:=by rw [zQ,zC]; omega
    simp (disch:=omega) only [go_sem,Aa,hni,hg,hc,Tm.osv,Tm.obs,BB,hi0,if_false,htl]
    refine ⟨i+1,⟨k+1,by omega,hlt⟩,by omega,?_⟩
    simp (disch:=omega) only [go_sem,Aa,hni1,hi1,if_false,hs]
  ·obtain rfl:k=x.args.length:=by omega
   have ht:(x.args.map (Tm.rn e)).take x.args.length=x.args.map (Tm.rn e):=by rw [←zC (f:=Tm.rn e)]; exact zR
   rcases zH x.args.length with h0 | h0
   ·have hx:x.args=[]:=zE h0
    obtain rfl:i=0:=by omega
    first | omega | simp (disch:=omega) only [go_sem,Aa,hni,hx,eq_self,if_true,zL,zY]
   ·have hi0:(i=0)=False:=by simp; omega
    first | omega | simp (disch:=omega) only [go_sem,Aa,hni,hi0,if_false,ht]
 | some v =>
  have hme:Fx e (.str x.name)=some (false,[.str v]):=by rw [Mz,he]
  rcases zH x.args.length with hz | hz
  ·have hx:x.args=[]:=zE hz
   have hz0:((x.args.length:Int)=0)=True:=by rw [hx]; simp
   have hnn:nm=v:=by rw [hnm,he,hx]; rfl
   rw [hnn]
   clear hnm e0 e1 e2 hnn nm
   obtain ⟨nm,hnm⟩:∃ nm,nm=v:=⟨_,rfl⟩
   rw [←hnm] at hme ⊢
   refine Ad HZ BB (of_decide_eq_true rfl) ?_
   simp (disch:=omega) only [FK,go_sem,Aa,hme,hz0,Qbl]
   refine go_loop (α:=Int) (fun a=>⟨slots 46 0 [(1,.mp true (Fx e)),(4,.ptr 0 0),(5,.ptr 1 0),(30,.arr (x.args.map Tm.d)),(31,.int .i64 x.args.length),(32,.int .i64 a)],(if a=0 then [.box 33 [.str ⟨#[]⟩,.nil],.box 33 [.str nm,.nil]] else [.box 33 [.str ⟨#[]⟩,.nil],.box 33 [.str nm,.ref 2],.row 33 2 (((x.args.map (Tm.rn e)).take a.toNat).map Tm.o)])⟩) (fun a=>∃ k:Nat,a=k∧k≤(x.args).length) (fun a=>(x.args).length-(a).toNat) 0 ⟨0,rfl,zF _⟩ (by simp (disch:=omega) only [go_sem,Aa,eq_self,if_true]) ?_
   rintro i ⟨k,hi,hk⟩
   have hni:i.toNat=k:=by omega
   have hni1:(i+1).toNat=k+1:=by omega
   rcases zB k (x.args).length with hlt | hge
   ·have hg:=get_at Tm.d hlt
    rw [Tm.d_eq] at hg
    have hc:=ih x.args[k] (zD hlt)
    have hlm:k<(x.args.map (Tm.rn e)).length:=by rw [zC]; exact hlt
    have hs:=DX Tm.o hlm
    rw [Tm.o_eq,yC] at hs
    rcases zH k with h0 | h0
    ·subst h0
     obtain rfl:i=0:=hi
     rw [z7,zL,zU] at hs
     simp (disch:=omega) only [go_sem,Aa,hni,hg,hc,Tm.osv,Tm.obs,BB,eq_self,if_true]
     refine ⟨1,⟨1,rfl,hlt⟩,by omega,?_⟩
     simp (disch:=omega) only [go_sem,Aa,h10,if_false,hs]
    ·have hi0:(i=0)=False:=by simp; omega
     have hi1:(i+1=0)=False:=by simp; omega
     have htl:((x.args.map (Tm.rn e)).take k).length=k:=by rw [zQ,zC]; omega
     simp (disch:=omega) only [go_sem,Aa,hni,hg,hc,Tm.osv,Tm.obs,BB,hi0,if_false,htl]
     refine ⟨i+1,⟨k+1,by omega,hlt⟩,by omega,?_⟩
     simp (disch:=omega) only [go_sem,Aa,hni1,hi1,if_false,hs]
   ·obtain rfl:k=x.args.length:=by omega
    have ht:(x.args.map (Tm.rn e)).take x.args.length=x.args.map (Tm.rn e):=by rw [←zC (f:=Tm.rn e)]; exact zR
    rcases zH x.args.length with h0 | h0
    ·have hx:x.args=[]:=zE h0
     obtain rfl:i=0:=by omega
     first | omega | simp (disch:=omega) only [go_sem,Aa,hni,hx,eq_self,if_true,zL,zY]
    ·have hi0:(i=0)=False:=by simp; omega
     first | omega | simp (disch:=omega) only [go_sem,Aa,hni,hi0,if_false,ht]
  ·have hz0:((x.args.length:Int)=0)=False:=eq_false (by omega)
   have hnn:nm=x.name:=by
    rw [hnm]
    cases hx:x.args with
    | nil=>rw [hx] at hz; simp at hz
    | cons a r=>rfl
   rw [hnn]
   clear hnm e0 e1 e2 hnn nm
   obtain ⟨nm,hnm⟩:∃ nm,nm=x.name:=⟨_,rfl⟩
   rw [←hnm] at hme ⊢
   refine Ad HZ BB (of_decide_eq_true rfl) ?_
   simp (disch:=omega) only [FK,go_sem,Aa,hme,hz0,Qbm,← hnm]
   refine go_loop (α:=Int) (fun a=>⟨slots 46 0 [(1,.mp true (Fx e)),(4,.ptr 0 0),(5,.ptr 1 0),(30,.arr (x.args.map Tm.d)),(31,.int .i64 x.args.length),(32,.int .i64 a)],(if a=0 then [.box 33 [.str ⟨#[]⟩,.nil],.box 33 [.str nm,.nil]] else [.box 33 [.str ⟨#[]⟩,.nil],.box 33 [.str nm,.ref 2],.row 33 2 (((x.args.map (Tm.rn e)).take a.toNat).map Tm.o)])⟩) (fun a=>∃ k:Nat,a=k∧k≤(x.args).length) (fun a=>(x.args).length-(a).toNat) 0 ⟨0,rfl,zF _⟩ (by simp (disch:=omega) only [go_sem,Aa,eq_self,if_true]) ?_
   rintro i ⟨k,hi,hk⟩
   have hni:i.toNat=k:=by omega
   have hni1:(i+1).toNat=k+1:=by omega
   rcases zB k (x.args).length with hlt | hge
   ·have hg:=get_at Tm.d hlt
    rw [Tm.d_eq] at hg
    have hc:=ih x.args[k] (zD hlt)
    have hlm:k<(x.args.map (Tm.rn e)).length:=by rw [zC]; exact hlt
    have hs:=DX Tm.o hlm
    rw [Tm.o_eq,yC] at hs
    rcases zH k with h0 | h0
    ·subst h0
     obtain rfl:i=0:=hi
     rw [z7,zL,zU] at hs
     simp (disch:=omega) only [go_sem,Aa,hni,hg,hc,Tm.osv,Tm.obs,BB,eq_self,if_true]
     refine ⟨1,⟨1,rfl,hlt⟩,by omega,?_⟩
     simp (disch:=omega) only [go_sem,Aa,h10,if_false,hs]
    ·have hi0:(i=0)=False:=by simp; omega
     have hi1:(i+1=0)=False:=by simp; omega
     have htl:((x.args.map (Tm.rn e)).take k).length=k:=by rw [zQ,zC]; omega
     simp (disch:=omega) only [go_sem,Aa,hni,hg,hc,Tm.osv,Tm.obs,BB,hi0,if_false,htl]
     refine ⟨i+1,⟨k+1,by omega,hlt⟩,by omega,?_⟩
     simp (disch:=omega) only [go_sem,Aa,hni1,hi1,if_false,hs]
   ·obtain rfl:k=x.args.length:=by omega
    have ht:(x.args.map (Tm.rn e)).take x.args.length=x.args.map (Tm.rn e):=by rw [←zC (f:=Tm.rn e)]; exact zR
    rcases zH x.args.length with h0 | h0
    ·have hx:x.args=[]:=zE h0
     obtain rfl:i=0:=by omega
     first | omega | simp (disch:=omega) only [go_sem,Aa,hni,hx,eq_self,if_true,zL,zY]
    ·have hi0:(i=0)=False:=by simp; omega
     first | omega | simp (disch:=omega) only [go_sem,Aa,hni,hi0,if_false,ht]
theorem V8 (e:SEnv) (x:Tm) (hn:x.nodes≤1099511627776):RnC e x :=
 Qa0 e x (by have:=Tm.length_le x.args; have:=Tm.An x; omega) fun y hy=>V8 e y (by have:=Tm.AW hy; have:=Tm.An x; omega)
termination_by SizeOf.sizeOf x
decreasing_by exact Tm.lt_of_mem hy
def Ki:SC:=(.seq (.reg [⟨(some 2),none,(.mv (.c (.str ⟨#[]⟩)))⟩]) (.seq (.seq (.reg [⟨some 3,none,.mv (.t 0)⟩,⟨some 4,none,.bin .lss false (.t 3) (.c (.int .i64 0))⟩]) (.cond (.t 4) (.seq (.reg [⟨some 5,none,.mv (.t 0)⟩,⟨some 6,none,.un .neg (.t 5)⟩,⟨some 7,none,.call 190 [(.t 6)]⟩,⟨(some 8),none,(.bin .add false (.c (.str ⟨#[45]⟩)) (.t 7))⟩,⟨some 2,none,.mv (.t 8)⟩]) .ret) .skip)) (.seq (.seq (.reg [⟨some 9,none,.mv (.t 0)⟩,⟨some 10,none,.bin .lss false (.t 9) (.c (.int .i64 10))⟩]) (.cond (.t 10) (.seq (.reg [⟨some 11,none,.mv (.t 0)⟩,⟨some 12,none,.mv (.t 0)⟩,⟨some 13,none,.bin .add false (.t 12) (.c (.int .i64 1))⟩,⟨(some 14),none,(.slice true 0 (.c (.str ⟨#[48,49,50,51,52,53,54,55,56,57]⟩)) (some (.t 11)) (some (.t 13)))⟩,⟨some 2,none,.mv (.t 14)⟩]) .ret) .skip)) (.seq (.dreg [[],[0],[1,0],[],[3],[],[5],[6,5],[4,3,7,6,5],[2,1,0,8,4,3,7,6,5],[9,2,1,0,8,4,3,7,6,5]] [⟨some 15,none,.mv (.t 0)⟩,⟨some 16,none,.bin .quo false (.t 15) (.c (.int .i64 10))⟩,⟨some 17,none,.call 190 [(.t 16)]⟩,⟨some 18,none,.mv (.t 0)⟩,⟨some 19,none,.bin .rem false (.t 18) (.c (.int .i64 10))⟩,⟨some 20,none,.mv (.t 0)⟩,⟨some 21,none,.bin .rem false (.t 20) (.c (.int .i64 10))⟩,⟨some 22,none,.bin .add false (.t 21) (.c (.int .i64 1))⟩,⟨(some 23),none,(.slice true 0 (.c (.str ⟨#[48,49,50,51,52,53,54,55,56,57]⟩)) (some (.t 19)) (some (.t 22)))⟩,⟨some 24,none,.bin .add false (.t 17) (.t 23)⟩,⟨some 2,none,.mv (.t 24)⟩]) .ret))))
theorem OB:codeOf Tryz.prog 190=some ⟨25,Ki,[(.tmp 2)]⟩:=by kernel_rfl
theorem DN:modes 190=⟨[],.asis,none,false⟩:=by unfold modes; rfl
theorem Qfw (d:Nat) (h:d<10):(⟨#[48,49,50,51,52,53,54,55,56,57]⟩:ByteArray).extract d (d+1)=⟨#[UInt8.ofNat (48+d)]⟩:=by
 have key:∀ d:_root_.Fin 10,(⟨#[48,49,50,51,52,53,54,55,56,57]⟩:ByteArray).extract d.val (d.val+1)=⟨#[UInt8.ofNat (48+d.val)]⟩:=by decide +kernel
 exact key ⟨d,h⟩
theorem QdG (n:Int) (h0:0≤n) (h1:n≤1099511627776) (ih:10≤n→E 190 [.int .i64 (n.tdiv 10)] []=some (.str (F5 (n.tdiv 10)),[])):E 190 [.int .i64 n] []=some (.str (F5 n),[]):=by
 have hsz:(⟨#[48,49,50,51,52,53,54,55,56,57]⟩:ByteArray).size=10:=rfl
 rcases Int.lt_or_le n 10 with h | h
 ·have e1:=Qfw n.toNat (by omega)
  have e2:(n+1).toNat=n.toNat+1:=by omega
  rw [Qay h0 h]
  refine Ad OB DN (of_decide_eq_true rfl) ?_
  simp (disch:=omega) only [Ki,go_sem,Aa,e1,e2,hsz]
 ·have hc:=ih h
  have hq:n.tdiv 10=n / 10:=zW h0
  have hr:n.tmod 10=n % 10:=yY h0
  have hq2:0≤n.tdiv 10∧n.tdiv 10≤n:=by omega
  have hr2:0≤n.tmod 10∧n.tmod 10<10:=by omega
  have hs:=Gk hq2.1 (by omega:n.tdiv 10≤1099511627776)
  have e1:=Qfw (n.tmod 10).toNat (by omega)
  have e2:(n.tmod 10+1).toNat=(n.tmod 10).toNat+1:=by omega
  rw [QdA h]
  clear hq hr
  have hs1:(⟨#[UInt8.ofNat (48+(n.tmod 10).toNat)]⟩:ByteArray).size=1:=rfl
  refine Ad OB DN (of_decide_eq_true rfl) ?_
  simp (disch:=omega) only [Ki,go_sem,Aa,hc,e1,e2,hsz,hs1,DN]
theorem Xg (n:Int) (h0:0≤n) (h1:n≤1099511627776):E 190 [.int .i64 n] []=some (.str (F5 n),[]) :=
 QdG n h0 h1 fun h=>Xg (n.tdiv 10) (by rw [zW h0]; omega) (by rw [zW h0]; omega)
termination_by n.toNat
decreasing_by rw [zW h0]; omega
def I3:SC:=(.seq (.reg [⟨some 1,none,.boxv 60 1 (.t 0)⟩,⟨some 2,none,.alloc 60 [.nil]⟩]) (.seq (.reg [⟨some 6,none,.build [.nil] []⟩,⟨some 3,none,.alloc 60 [.nil]⟩,⟨none,none,(.store 1 (.t 3) (.t 6))⟩]) (.seq (.seq (.reg [⟨some 7,none,.faddr 0 (.t 1)⟩,⟨some 8,none,.load false 1 (.t 7)⟩,⟨some 9,none,.len false (.t 8)⟩,⟨some 10,none,.mv (.c (.int .i64 0))⟩]) (.block 0 (.loop [0,0,1,1,0,0,0,0,1,1,1,0,0,0,0,0,0,0,0,0,0,0,0] (.seq (.reg [⟨some 11,none,.bin .lss false (.t 10) (.t 9)⟩]) (.seq (.cond (.t 11) .skip (.exit 0)) (.seq (.block 1 (.seq (.reg [⟨some 12,none,.iaddr 3 (.t 8) (.t 10)⟩,⟨some 13,none,.load true 3 (.t 12)⟩,⟨(some 5),none,(.alloc 122 [(.bool false),(.str ⟨#[]⟩),.nil])⟩,⟨none,none,(.store 3 (.t 5) (.t 13))⟩]) (.dreg [[],[0],[],[2],[3,2],[1,0,4,3,2],[0,1,2,3,4,5],[6,0,1,2,3,4,5]] [⟨some 14,none,.faddr 0 (.t 3)⟩,⟨some 15,none,.load false 1 (.t 14)⟩,⟨some 16,none,.load true 3 (.t 5)⟩,⟨some 17,none,.call 159 [(.t 16)]⟩,⟨(some 18),none,(.mkrow 122 3 [(.bool false),(.str ⟨#[]⟩),.nil] 1 [(0,(.t 17))])⟩,⟨(some 19),none,(.append 122 3 48 [(.bool false),(.str ⟨#[]⟩),.nil] (.t 15) (.t 18))⟩,⟨some 20,none,.faddr 0 (.t 3)⟩,⟨none,none,(.store 1 (.t 20) (.t 19))⟩]))) (.reg [⟨some 21,none,.bin .add false (.t 10) (.c (.int .i64 1))⟩,⟨some 10,none,.mv (.t 21)⟩]))))))) (.seq (.reg [⟨some 22,none,.load true 1 (.t 3)⟩,⟨none,none,(.store 1 (.t 2) (.t 22))⟩]) .ret))))
theorem OC:codeOf Tryz.prog 93=some ⟨23,I3,[(.cell 2 true 1)]⟩:=by kernel_rfl
theorem FL:modes 93=⟨[],.own [some (122,3)],none,false⟩:=by unfold modes; rfl
theorem OD (c:Cl) (hl:c.lits.length≤1048576) (hf:∀ x∈c.lits,x.atom.nodes≤1099511627776):E 93 [c.sv] []=some (c.osv,c.obs):=by
 have h10:((1:Int)=0)=False:=by simp
 obtain ⟨l,hcl⟩:∃ l,l=c.lits:=⟨_,rfl⟩
 have e0:c.sv=.agg [.arr (l.map Lt.d)]:=by rw [hcl]; first | done | rfl
 have e1:c.osv=.agg [.ref 0]:=rfl
 have e2:c.obs=[.row 122 3 (l.map Lt.o)]:=by rw [hcl]; first | done | rfl
 rw [e0,e1,e2]
 rw [←hcl] at hl hf
 clear hcl e0 e1 e2
 refine Ad OC FL (of_decide_eq_true rfl) ?_
 simp (disch:=omega) only [I3,go_sem,Aa]
 refine go_loop (α:=Int) (fun a=>⟨slots 23 0 [(2,.ptr 0 0),(3,.ptr 1 0),(8,.arr (l.map Lt.d)),(9,.int .i64 l.length),(10,.int .i64 a)],(if a=0 then [.box 60 [.nil],.box 60 [.nil]] else [.box 60 [.nil],.box 60 [.ref 2],.row 122 3 ((l.take a.toNat).map Lt.o)])⟩) (fun a=>∃ k:Nat,a=k∧k≤(l).length) (fun a=>(l).length-(a).toNat) 0 ⟨0,rfl,zF _⟩ (by simp (disch:=omega) only [go_sem,Aa,eq_self,if_true]) ?_
 rintro i ⟨k,hi,hk⟩
 have hni:i.toNat=k:=by omega
 have hni1:(i+1).toNat=k+1:=by omega
 rcases zB k (l).length with hlt | hge
 ·have hg:=get_at Lt.d hlt
  rw [Lt.d_eq] at hg
  have hc:=MX l[k] (hf _ (zD hlt))
  have hs:=DX Lt.o hlt
  rw [Lt.o_eq] at hs
  rcases zH k with h0 | h0
  ·subst h0
   obtain rfl:i=0:=hi
   rw [z7,zL,zU] at hs
   simp (disch:=omega) only [go_sem,Aa,hni,hg,hc,CT,eq_self,if_true]
   refine ⟨1,⟨1,rfl,hlt⟩,by omega,?_⟩
   simp (disch:=omega) only [go_sem,Aa,h10,if_false,hs]
  ·have hi0:(i=0)=False:=by simp; omega
   have hi1:(i+1=0)=False:=by simp; omega
   have htl:(l.take k).length=k:=by rw [zQ]; omega
   simp (disch:=omega) only [go_sem,Aa,hni,hg,hc,CT,hi0,if_false,htl]
   refine ⟨i+1,⟨k+1,by omega,hlt⟩,by omega,?_⟩
   simp (disch:=omega) only [go_sem,Aa,hni1,hi1,if_false,hs]
 ·obtain rfl:k=l.length:=by omega
  have ht:l.take l.length=l:=zR
  rcases zH l.length with h0 | h0
  ·have hx:l=[]:=zE h0
   obtain rfl:i=0:=by omega
   rw [hx]
   simp (disch:=omega) only [go_sem,Aa,hni,eq_self,if_true,zL]
  ·have hi0:(i=0)=False:=by simp; omega
   simp (disch:=omega) only [go_sem,Aa,hni,hi0,if_false,ht]
def Hi:SC:=(.seq (.reg [⟨some 1,none,.boxv 60 1 (.t 0)⟩,⟨some 2,none,.mv (.c (.bool false))⟩]) (.seq (.seq (.reg [⟨some 5,none,.load true 1 (.t 1)⟩,⟨some 6,none,.call 204 [(.t 5)]⟩,⟨some 7,none,.len false (.t 6)⟩,⟨some 8,none,.mv (.c (.int .i64 0))⟩]) (.block 0 (.loop [0,0,0,0,0,0,1,1,1,0,0,0,0,0,0,0,0,0,0] (.seq (.reg [⟨some 9,none,.bin .lss false (.t 8) (.t 7)⟩]) (.seq (.cond (.t 9) .skip (.exit 0)) (.seq (.block 1 (.seq (.reg [⟨some 10,none,.mv (.t 8)⟩,⟨some 11,none,.iaddr 1 (.t 6) (.t 8)⟩,⟨some 12,none,.load false 1 (.t 11)⟩,⟨some 3,none,.mv (.t 10)⟩,⟨some 4,none,.mv (.t 12)⟩]) (.seq (.reg [⟨some 13,none,.mv (.t 4)⟩,⟨some 14,none,.mv (.t 3)⟩,⟨some 15,none,.call 189 [(.t 14)]⟩,⟨(some 16),none,(.bin .add false (.c (.str ⟨#[88]⟩)) (.t 15))⟩,⟨some 17,none,.bin .neq false (.t 13) (.t 16)⟩]) (.cond (.t 17) (.seq (.reg [⟨some 2,none,.mv (.c (.bool false))⟩]) .ret) .skip)))) (.reg [⟨some 18,none,.bin .add false (.t 8) (.c (.int .i64 1))⟩,⟨some 8,none,.mv (.t 18)⟩]))))))) (.seq (.reg [⟨some 2,none,.mv (.c (.bool true))⟩]) .ret)))
theorem M9:codeOf Tryz.prog 148=some ⟨19,Hi,[(.tmp 2)]⟩:=by kernel_rfl
theorem CE:modes 148=⟨[],.asis,none,false⟩:=by unfold modes; rfl
theorem L7 (c:Cl) (hc:c.ok=true):E 148 [c.sv] []=some (.bool c.norm,[]):=by
 have h1:=PN c hc
 have hn:=Cl.N5 hc
 have hcs:c.sv=.agg [.arr (c.lits.map Lt.d)]:=rfl
 obtain ⟨ns,hns⟩:∃ ns,ns=c.ns:=⟨_,rfl⟩
 rw [show CD [] (Lt.vsL c.lits)=ns from hns.symm] at h1
 have hnm:c.norm=dec (OA ns):=by unfold Cl.norm; rw [hns]
 rw [←hns] at hn
 rw [hnm]
 refine Ad M9 CE (of_decide_eq_true rfl) ?_
 simp (disch:=omega) only [Hi,go_sem,Aa,h1,D8]
 refine go_loop (α:=Int) (fun a=>⟨slots 19 0 [(6,.ref 0),(7,.int .i64 ns.length),(8,.int .i64 a)],[.row 9 1 (ns.map fun s=>[OT.str s])]⟩) (fun a=>∃ k:Nat,a=k∧k≤(ns).length∧∀ (j:Nat),j<k→∀ hj:j<ns.length,ns[j]=pre M8 (j:Nat)) (fun a=>(ns).length-(a).toNat) 0 ⟨0,rfl,zF _,fun j hj=>absurd hj (Nat.not_lt_zero _)⟩ (by simp (disch:=omega) only [go_sem,Aa]) ?_
 rintro i ⟨k,hi,hk,hR⟩
 have hni:i.toNat=k:=by omega
 have hni1:(i+1).toNat=k+1:=by omega
 rcases zB k (ns).length with hlt | hge
 ·have hg:=get_at (fun s=>[OT.str s]) hlt
  have hit:=QdB i (by omega) (by omega)
  have hz:=Gk (show 0≤i by omega) (show i≤1099511627776 by omega)
  have hb:dec ((#[88]:Array UInt8).size+(F5 i).size≤9223372036854775807)=true:=At (by simp; omega)
  by_cases he:ns[k]=pre M8 (k:Nat)
  ·have he':dec (ns[k]=(⟨#[88]⟩:ByteArray)++F5 i)=true:=At (by rw [he,hi]; rfl)
   simp (disch:=omega) only [go_sem,Aa,hni,hg,hit,hb,he',FJ]
   refine ⟨i+1,⟨k+1,by omega,hlt,fun j hj hjl=>?_⟩,by omega,by first | trivial | rfl⟩
   rcases zB j k with h2 | h2
   ·exact hR j h2 hjl
   ·obtain rfl:j=k:=by omega
    exact he
  ·have he':dec (ns[k]=(⟨#[88]⟩:ByteArray)++F5 i)=false:=Ay (fun e=>he (by rw [e,hi]; rfl))
   have hno:dec (OA ns)=false:=Ay fun h=>he (h k hlt)
   rw [hno]
   simp (disch:=omega) only [go_sem,Aa,hni,hg,hit,hb,he',FJ]
 ·have hy:dec (OA ns)=true:=At fun j hj=>hR j (by omega) hj
  rw [hy]
  simp (disch:=omega) only [go_sem,Aa,hni]
def GZ:SC:=(.seq (.reg [⟨some 1,none,.boxv 60 1 (.t 0)⟩,⟨some 2,none,.mv (.c (.bool false))⟩]) (.seq (.reg [⟨some 3,none,.load true 1 (.t 1)⟩,⟨some 4,none,.call 147 [(.t 3)]⟩,⟨some 5,none,.mv (.t 4)⟩,⟨(some 6),(some (5,true)),(.load true 1 (.t 1))⟩,⟨(some 7),(some (5,true)),(.call 148 [(.t 6)])⟩,⟨some 8,none,.pick (.t 5) (.t 7) (.c (.bool false))⟩,⟨some 2,none,.mv (.t 8)⟩]) .ret))
theorem K8:codeOf Tryz.prog 79=some ⟨9,GZ,[(.tmp 2)]⟩:=by kernel_rfl
theorem B0:modes 79=⟨[],.asis,none,false⟩:=by unfold modes; rfl
theorem N6 (c:Cl) (hc:c.tame):E 79 [c.sv] []=some (.bool (c.ok&&c.norm),[]):=by
 have h1:=GW c hc
 cases hv:c.ok with
 | false =>
  rw [hv] at h1
  refine Ad K8 B0 (of_decide_eq_true rfl) ?_
  simp (disch:=omega) only [GZ,go_sem,Aa,h1,C2]
 | true =>
  rw [hv] at h1
  have h2:=L7 c hv
  refine Ad K8 B0 (of_decide_eq_true rfl) ?_
  simp (disch:=omega) only [GZ,go_sem,Aa,h1,h2,C2,CE]
def K9:SC:=(.seq (.reg [⟨some 4,none,.mv (.c (.mp true nomap))⟩]) (.seq (.reg [⟨some 8,none,.mkmap true none⟩,⟨some 5,none,.mv (.t 8)⟩]) (.seq (.seq (.reg [⟨some 9,none,.mv (.t 0)⟩,⟨some 10,none,.len false (.t 9)⟩,⟨some 11,none,.mv (.c (.int .i64 0))⟩]) (.block 0 (.loop [0,1,0,0,0,1,0,0,0,1,1,1,0,0,0,0,0,0,0,0,0,0,0,0] (.seq (.reg [⟨some 12,none,.bin .lss false (.t 11) (.t 10)⟩]) (.seq (.cond (.t 12) .skip (.exit 0)) (.seq (.block 1 (.seq (.reg [⟨some 13,none,.mv (.t 11)⟩,⟨some 14,none,.iaddr 1 (.t 9) (.t 11)⟩,⟨some 15,none,.load false 1 (.t 14)⟩,⟨some 6,none,.mv (.t 13)⟩,⟨some 7,none,.mv (.t 15)⟩]) (.reg [⟨some 16,none,.mv (.t 5)⟩,⟨some 17,none,.mv (.t 7)⟩,⟨some 18,none,.mv (.t 1)⟩,⟨some 19,none,.mv (.t 6)⟩,⟨some 20,none,.call 189 [(.t 19)]⟩,⟨some 21,none,.bin .add false (.t 18) (.t 20)⟩,⟨none,none,(.mset true (.t 16) (.t 17) (.t 21))⟩]))) (.reg [⟨some 22,none,.bin .add false (.t 11) (.c (.int .i64 1))⟩,⟨some 11,none,.mv (.t 22)⟩]))))))) (.seq (.reg [⟨some 23,none,.mv (.t 5)⟩,⟨some 4,none,.mv (.t 23)⟩]) .ret))))
theorem Ra:codeOf Tryz.prog 226=some ⟨24,K9,[(.tmp 4)]⟩:=by kernel_rfl
theorem Fk:modes 226=⟨[],.frz,none,false⟩:=by unfold modes; rfl
theorem YM (p:ByteArray):Fx (D9 p [])=nomap:=Qax
theorem Qa1 (ns:List ByteArray) (hn:ns.length≤1048576) (p:ByteArray) (hp:p.size≤1048576):E 226 [.arr (ns.map fun s=>[D.str s]),.str p] []=some (.mp true (Fx (D9 p ns)),[]):=by
 have h0:=YM p
 refine Ad Ra Fk (of_decide_eq_true rfl) ?_
 simp (disch:=omega) only [K9,go_sem,Aa]
 refine go_loop (α:=Int) (fun a=>⟨slots 24 0 [(1,.str p),(5,.ref 0),(9,.arr (ns.map fun s=>[D.str s])),(10,.int .i64 ns.length),(11,.int .i64 a)],[.mp true (Fx (D9 p (ns.take a.toNat)))]⟩) (fun a=>∃ k:Nat,a=k∧k≤(ns).length) (fun a=>(ns).length-(a).toNat) 0 ⟨0,rfl,zF _⟩ (by simp (disch:=omega) only [go_sem,Aa,h0]) ?_
 rintro i ⟨k,hi,hk⟩
 have hni:i.toNat=k:=by omega
 have hni1:(i+1).toNat=k+1:=by omega
 rcases zB k (ns).length with hlt | hge
 ·have hg:=get_at (fun s=>[D.str s]) hlt
  have hit:=QdB i (by omega) (by omega)
  have hz:=Gk (show 0≤i by omega) (show i≤1099511627776 by omega)
  have hb:dec (p.size+(F5 i).size≤9223372036854775807)=true:=At (by omega)
  have hs:Pq (Fx (D9 p (ns.take k))) (.str ns[k]) (false,[.str (p++F5 i)])=Fx (D9 p (ns.take (k+1))):=by
   rw [V4,M0 p hlt,hi]; rfl
  simp (disch:=omega) only [go_sem,Aa,hni,hg,hit,hb,hs,FJ]
  refine ⟨i+1,⟨k+1,by omega,hlt⟩,by omega,?_⟩
  simp (disch:=omega) only [go_sem,Aa,hni1]
 ·have ht:ns.take k=ns:=yI hge
  simp (disch:=omega) only [go_sem,Aa,hni,ht]
def GI:SC:=(.seq (.reg [⟨some 2,none,.boxv 60 1 (.t 0)⟩,⟨some 4,none,.alloc 60 [.nil]⟩]) (.seq (.reg [⟨(some 8),none,(.mkrow 122 3 [(.bool false),(.str ⟨#[]⟩),.nil] 0 [])⟩,⟨some 5,none,.mv (.t 8)⟩]) (.seq (.seq (.reg [⟨some 9,none,.faddr 0 (.t 2)⟩,⟨some 10,none,.load false 1 (.t 9)⟩,⟨some 11,none,.len false (.t 10)⟩,⟨some 12,none,.mv (.c (.int .i64 0))⟩]) (.block 0 (.loop [0,1,0,0,1,1,0,0,0,0,1,1,1,0,0,0,0,0,0,0,0,0,0,0,0,0,0,0,0] (.seq (.reg [⟨some 13,none,.bin .lss false (.t 12) (.t 11)⟩]) (.seq (.cond (.t 13) .skip (.exit 0)) (.seq (.block 1 (.seq (.reg [⟨some 14,none,.iaddr 3 (.t 10) (.t 12)⟩,⟨some 15,none,.load true 3 (.t 14)⟩,⟨(some 7),none,(.alloc 122 [(.bool false),(.str ⟨#[]⟩),.nil])⟩,⟨none,none,(.store 3 (.t 7) (.t 15))⟩]) (.dreg [[],[],[1],[],[3],[],[4,3,5],[2,1,6,4,3,5],[7,2,1,6,4,3,5],[0,8,7,2,1,6,4,3,5],[9,0,8,7,2,1,6,4,3,5]] [⟨some 16,none,.mv (.t 5)⟩,⟨some 17,none,.faddr 0 (.t 7)⟩,⟨some 18,none,.load false 1 (.t 17)⟩,⟨some 19,none,.faddr 1 (.t 7)⟩,⟨some 20,none,.load true 2 (.t 19)⟩,⟨some 21,none,.mv (.t 1)⟩,⟨some 22,none,.call 275 [(.t 20),(.t 21)]⟩,⟨(some 23),none,(.build [(.bool false),(.str ⟨#[]⟩),.nil] [(0,(1,(.t 18))),(1,(2,(.t 22)))])⟩,⟨(some 24),none,(.mkrow 122 3 [(.bool false),(.str ⟨#[]⟩),.nil] 1 [(0,(.t 23))])⟩,⟨(some 25),none,(.append 122 3 48 [(.bool false),(.str ⟨#[]⟩),.nil] (.t 16) (.t 24))⟩,⟨some 5,none,.mv (.t 25)⟩]))) (.reg [⟨some 26,none,.bin .add false (.t 12) (.c (.int .i64 1))⟩,⟨some 12,none,.mv (.t 26)⟩]))))))) (.seq (.reg [⟨some 27,none,.mv (.t 5)⟩,⟨some 28,none,.call 222 [(.t 27)]⟩,⟨none,none,(.store 1 (.t 4) (.t 28))⟩]) .ret))))
theorem L8:codeOf Tryz.prog 206=some ⟨29,GI,[(.cell 4 true 1)]⟩:=by kernel_rfl
theorem C4:modes 206=⟨[],.own [some (122,3)],none,false⟩:=by unfold modes; rfl
theorem KA (c:Cl) (hc:c.ok=true) (e:SEnv) (he:O9 e):E 206 [c.sv,.mp true (Fx e)] []=some ((c.rn e).osv,(c.rn e).obs):=by
 have hl:=Cl.ok_len hc
 have hcs:c.sv=.agg [.arr (c.lits.map Lt.d)]:=rfl
 have hat:=Lt.Tt he (Cl.C3 hc)
 have hco:=SU (c.lits.map (Lt.rn e)) (by rw [zC]; omega) (fun x hx=>PP (hat x hx))
 rw [show mkC (c.lits.map (Lt.rn e))=c.rn e from rfl] at hco
 have her:=Lt.erss (c.lits.map (Lt.rn e))
 refine Ad L8 C4 (of_decide_eq_true rfl) ?_
 simp (disch:=omega) only [GI,go_sem,Aa]
 refine go_loop (α:=Int) (fun a=>⟨slots 29 0 [(1,.mp true (Fx e)),(4,.ptr 0 0),(5,.ref 1),(10,.arr (c.lits.map Lt.d)),(11,.int .i64 c.lits.length),(12,.int .i64 a)],[.box 60 [.nil],.row 122 3 (((c.lits.map (Lt.rn e)).take a.toNat).map Lt.o)]⟩) (fun a=>∃ k:Nat,a=k∧k≤(c.lits).length) (fun a=>(c.lits).length-(a).toNat) 0 ⟨0,rfl,zF _⟩ (by simp (disch:=omega) only [go_sem,Aa]) ?_
 rintro i ⟨k,hi,hk⟩
 have hni:i.toNat=k:=by omega
 have hni1:(i+1).toNat=k+1:=by omega
 rcases zB k (c.lits).length with hlt | hge
 ·have hg:=get_at Lt.d hlt
  rw [Lt.d_eq] at hg
  have hnn:=Tm.Cu (Cl.Kg hc hlt)
  have hr:=V8 e c.lits[k].atom (by omega)
  unfold RnC at hr
  have hrs:c.lits[k].atom.sv=.agg [.str c.lits[k].atom.name,.arr (c.lits[k].atom.args.map Tm.d)]:=rfl
  have hlm:k<(c.lits.map (Lt.rn e)).length:=by rw [zC]; exact hlt
  have hs:=DX Lt.o hlm
  rw [Lt.o_eq,yC] at hs
  have hs':((c.lits.map (Lt.rn e)).take k).map Lt.o++[[OT.bool c.lits[k].pos,OT.str (c.lits[k].atom.rn e).name,OT.ow ((c.lits[k].atom.rn e).args.map Tm.o)]]=((c.lits.map (Lt.rn e)).take (k+1)).map Lt.o:=hs
  have htl:((c.lits.map (Lt.rn e)).take k).length=k:=by rw [zQ,zC]; omega
  simp (disch:=omega) only [go_sem,Aa,hni,hg,hr,hrs,htl,Tm.osv,Tm.obs,BB]
  refine ⟨i+1,⟨k+1,by omega,hlt⟩,by omega,?_⟩
  simp (disch:=omega) only [go_sem,Aa,hni1,hs']
 ·have ht:(c.lits.map (Lt.rn e)).take k=c.lits.map (Lt.rn e):=yI (by rw [zC]; exact hge)
  simp (disch:=omega) only [go_sem,Aa,hni,ht,hco,her,Lt.noss,Lt.fus,Dg]
def J5:SC:=(.seq (.reg [⟨some 1,none,.boxv 60 1 (.t 0)⟩,⟨some 2,none,.alloc 60 [.nil]⟩]) (.seq (.reg [⟨some 5,none,.load true 1 (.t 1)⟩,⟨some 6,none,.call 93 [(.t 5)]⟩,⟨some 3,none,.alloc 60 [.nil]⟩,⟨none,none,(.store 1 (.t 3) (.t 6))⟩]) (.seq (.seq (.reg [⟨some 4,none,.mv (.c (.int .i64 0))⟩]) (.block 0 (.loop [0,0,1,1,1,0,0,0,0,0,0,0,0,0,0,0,0,0,0,0,0,0] (.seq (.seq (.reg [⟨some 7,none,.mv (.t 4)⟩,⟨some 8,none,.bin .lss false (.t 7) (.c (.int .i64 10))⟩,⟨some 9,none,.mv (.t 8)⟩,⟨(some 10),(some (9,true)),(.load true 1 (.t 3))⟩,⟨(some 11),(some (9,true)),(.call 148 [(.t 10)])⟩,⟨(some 12),(some (9,true)),(.un .not (.t 11))⟩,⟨some 13,none,.pick (.t 9) (.t 12) (.c (.bool false))⟩]) (.cond (.t 13) .skip (.exit 0))) (.seq (.block 1 (.dreg [[],[],[1],[2,1],[0,3,2,1],[4,0,3,2,1]] [⟨some 16,none,.load true 1 (.t 3)⟩,⟨some 17,none,.load true 1 (.t 3)⟩,⟨some 18,none,.call 204 [(.t 17)]⟩,⟨(some 19),none,(.call 226 [(.t 18),(.c (.str ⟨#[88]⟩))])⟩,⟨some 20,none,.call 206 [(.t 16),(.t 19)]⟩,⟨none,none,(.store 1 (.t 3) (.t 20))⟩])) (.reg [⟨some 14,none,.mv (.t 4)⟩,⟨some 15,none,.bin .add false (.t 14) (.c (.int .i64 1))⟩,⟨some 4,none,.mv (.t 15)⟩])))))) (.seq (.reg [⟨some 21,none,.load true 1 (.t 3)⟩,⟨none,none,(.store 1 (.t 2) (.t 21))⟩]) .ret))))
theorem PR:codeOf Tryz.prog 163=some ⟨22,J5,[(.cell 2 true 1)]⟩:=by kernel_rfl
theorem Gp:modes 163=⟨[],.own [some (122,3)],none,false⟩:=by unfold modes; rfl
theorem YN (c:Cl) (hc:c.ok=true):E 163 [c.sv] []=some ((nz 10 c).osv,(nz 10 c).obs):=by
 have hl:=Cl.ok_len hc
 have h1:=OD c (by omega) (fun x hx=>by have:=Tm.Cu (Cl.C3 hc x hx); omega)
 have hcs:∀ d:Cl,Cl.osv d=.agg [.ref 0]:=fun d=>rfl
 have hob:∀ d:Cl,Cl.obs d=[.row 122 3 (d.lits.map Lt.o)]:=fun d=>rfl
 have hsv:∀ d:Cl,d.sv=.agg [.arr (d.lits.map Lt.d)]:=fun d=>rfl
 rw [hcs,hob] at h1
 rw [hcs,hob]
 refine Ad PR Gp (of_decide_eq_true rfl) ?_
 simp (disch:=omega) only [J5,go_sem,Aa,h1,FL]
 refine go_loop (α:=Int × Cl) (fun a=>⟨slots 22 0 [(2,.ptr 0 0),(3,.ptr 1 0),(4,.int .i64 a.1)],[.box 60 [.nil],.box 60 [.ref 2],.row 122 3 (a.2.lits.map Lt.o)]⟩) (fun a=>∃ k:Nat,a.1=k∧k≤10∧a.2.ok=true∧nz (10-k) a.2=nz 10 c) (fun a=>10-a.1.toNat) (0,c) ⟨0,rfl,zF _,hc,rfl⟩ (by simp (disch:=omega) only [go_sem,Aa]) ?_
 rintro ⟨i,d⟩ ⟨k,hi,hk,hd,hR⟩
 dsimp only at hi hd hR
 have n1:=L7 d hd
 have n2:=PN d hd
 have n3:=Qa1 d.ns (by have:=Cl.N5 hd; omega) ⟨#[88]⟩ (by decide +kernel)
 have n4:=KA d hd (D9 ⟨#[88]⟩ d.ns) (Cl.xE hd)
 rw [show CD [] (Lt.vsL d.lits)=d.ns from rfl] at n2
 rw [hcs,hob] at n4
 rw [hsv] at n1 n2 n4
 have her:=Lt.erss d.lits
 rcases zB k 10 with hlt | hge
 ·obtain ⟨m,hm⟩:∃ m,10-k=m+1:=⟨9-k,by omega⟩
  rw [hm,nz] at hR
  cases hn:d.norm with
  | true =>
   rw [hn,cond_true] at hR
   rw [hn] at n1
   rw [←hR]
   simp (disch:=omega) only [go_sem,Aa,n1,n2,n3,n4,her,Lt.noss,Lt.fus,CE,D8,Fk,C4]
  | false =>
   rw [hn,cond_false] at hR
   rw [hn] at n1
   simp (disch:=omega) only [go_sem,Aa,n1,n2,n3,n4,her,Lt.noss,Lt.fus,CE,D8,Fk,C4]
   refine ⟨(i+1,d.rn (D9 M8 d.ns)),⟨k+1,by dsimp only; omega,by omega,Cl.Qb4 (Cl.xE hd) hd,by rw [show 10-(k+1)=m by omega]; exact hR⟩,by dsimp only; omega,?_⟩
   first | trivial | rfl
 ·obtain rfl:k=10:=by omega
  have hR:d=nz 10 c:=hR
  rw [←hR]
  simp (disch:=omega) only [go_sem,Aa,n1,n2,n3,n4,her,Lt.noss,Lt.fus,CE,D8,Fk,C4]
def OE:SC:=(.seq (.reg [⟨some 1,none,.boxv 60 1 (.t 0)⟩,⟨some 2,none,.alloc 60 [.nil]⟩]) (.seq (.reg [⟨some 6,none,.mkmap true none⟩,⟨some 3,none,.mv (.t 6)⟩]) (.seq (.seq (.reg [⟨some 7,none,.load true 1 (.t 1)⟩,⟨some 8,none,.call 204 [(.t 7)]⟩,⟨some 9,none,.len false (.t 8)⟩,⟨some 10,none,.mv (.c (.int .i64 0))⟩]) (.block 0 (.loop [0,1,1,1,0,0,0,0,1,1,1,0,0,0,0,0,0,0,0,0,0,0,0] (.seq (.reg [⟨some 11,none,.bin .lss false (.t 10) (.t 9)⟩]) (.seq (.cond (.t 11) .skip (.exit 0)) (.seq (.block 1 (.seq (.reg [⟨some 12,none,.iaddr 1 (.t 8) (.t 10)⟩,⟨some 13,none,.load false 1 (.t 12)⟩,⟨some 5,none,.mv (.t 13)⟩]) (.reg [⟨some 14,none,.mv (.t 3)⟩,⟨some 15,none,.mv (.t 5)⟩,⟨some 16,none,.mv (.t 5)⟩,⟨some 17,none,.slice true 0 (.t 16) (some (.c (.int .i64 1))) none⟩,⟨(some 18),none,(.bin .add false (.c (.str ⟨#[89]⟩)) (.t 17))⟩,⟨none,none,(.mset true (.t 14) (.t 15) (.t 18))⟩]))) (.reg [⟨some 19,none,.bin .add false (.t 10) (.c (.int .i64 1))⟩,⟨some 10,none,.mv (.t 19)⟩]))))))) (.seq (.reg [⟨some 20,none,.load true 1 (.t 1)⟩,⟨some 21,none,.mv (.t 3)⟩,⟨some 22,none,.call 206 [(.t 20),(.t 21)]⟩,⟨none,none,(.store 1 (.t 2) (.t 22))⟩]) .ret))))
theorem Xh:codeOf Tryz.prog 150=some ⟨23,OE,[(.cell 2 true 1)]⟩:=by kernel_rfl
theorem Kj:modes 150=⟨[],.frz,none,false⟩:=by unfold modes; rfl
theorem QeV {p:ByteArray} (hp:p.size=1) (n:Int):(pre p n).extract 1 (pre p n).size=F5 n:=by
 unfold pre
 rw [y8,ByteArray.extract_append_eq_right hp.symm rfl]
theorem QfM {p:ByteArray} (hp:p.size=1) (n:Int):(pre p n).size=1+(F5 n).size:=by
 unfold pre
 rw [y8,hp]
theorem QeW (c:Cl) (hc:c.ok=true) (hnm:c.norm=true):E 150 [c.sv] []=some ((c.rn (D9 GH c.ns)).sv,[]):=by
 have hl:=Cl.ok_len hc
 have hnn:=Cl.N5 hc
 have n2:=PN c hc
 have n4:=KA c hc (D9 GH c.ns) (Cl.yE hc)
 have hnl:OA c.ns:=Ar.1 hnm
 have hcs:∀ d:Cl,Cl.osv d=.agg [.ref 0]:=fun d=>rfl
 have hob:∀ d:Cl,Cl.obs d=[.row 122 3 (d.lits.map Lt.o)]:=fun d=>rfl
 have hsv:∀ d:Cl,d.sv=.agg [.arr (d.lits.map Lt.d)]:=fun d=>rfl
 rw [show CD [] (Lt.vsL c.lits)=c.ns from rfl] at n2
 rw [hcs,hob] at n4
 have her:=Lt.erss (c.rn (D9 GH c.ns)).lits
 rw [hsv] at n2 n4
 obtain ⟨ns,hns⟩:∃ ns,ns=c.ns:=⟨_,rfl⟩
 rw [←hns] at hnl hnn n2 n4 her ⊢
 have h0:=YM GH
 rw [hsv,hsv]
 refine Ad Xh Kj (of_decide_eq_true rfl) ?_
 simp (disch:=omega) only [OE,go_sem,Aa,n2,D8]
 refine go_loop (α:=Int) (fun a=>⟨slots 23 0 [(1,.ptr 0 0),(2,.ptr 1 0),(3,.ref 2),(8,.ref 3),(9,.int .i64 ns.length),(10,.int .i64 a)],[.box 60 [.arr (c.lits.map Lt.d)],.box 60 [.nil],.mp true (Fx (D9 GH (ns.take a.toNat))),.row 9 1 (ns.map fun s=>[OT.str s])]⟩) (fun a=>∃ k:Nat,a=k∧k≤(ns).length) (fun a=>(ns).length-(a).toNat) 0 ⟨0,rfl,zF _⟩ (by simp (disch:=omega) only [go_sem,Aa,h0]) ?_
 rintro i ⟨k,hi,hk⟩
 have hni:i.toNat=k:=by omega
 have hni1:(i+1).toNat=k+1:=by omega
 rcases zB k (ns).length with hlt | hge
 ·have hg:=get_at (fun s=>[OT.str s]) hlt
  have hz:=Gk (show 0≤i by omega) (show i≤1099511627776 by omega)
  have hcut:=QeV (p:=M8) (by decide +kernel) i
  have hsz:=QfM (p:=M8) (by decide +kernel) i
  obtain ⟨nm,hnm'⟩:∃ nm,nm=ns[k]:=⟨_,rfl⟩
  have hk1:nm=pre M8 i:=by rw [hnm',hnl k hlt,hi]
  rw [←hk1] at hcut hsz
  rw [hsz] at hcut
  have hb:dec ((#[89]:Array UInt8).size+(F5 i).size≤9223372036854775807)=true:=At (by simp; omega)
  have hs:Pq (Fx (D9 GH (ns.take k))) (.str nm) (false,[.str ((⟨#[89]⟩:ByteArray)++F5 i)])=Fx (D9 GH (ns.take (k+1))):=by
   rw [V4,M0 GH hlt,hi,hnm']; rfl
  rw [←hnm'] at hg
  clear hk1 hnm'
  simp (disch:=omega) only [go_sem,Aa,hni,hg,hb,hs,hsz,hcut]
  refine ⟨i+1,⟨k+1,by omega,hlt⟩,by omega,?_⟩
  simp (disch:=omega) only [go_sem,Aa,hni1]
 ·have ht:ns.take k=ns:=yI hge
  simp (disch:=omega) only [go_sem,Aa,hni,ht,n4,her,Lt.noss,Lt.fus,C4]
theorem V9 {α β:Type} (g:α→β):∀ (l:List α) (i:Nat),(l.map g).eraseIdx i=(l.eraseIdx i).map g
 | [],i=>by cases i <;> rfl
 | a :: l,0=>rfl
 | a :: l,i+1=>by
  show g a :: (l.map g).eraseIdx i=g a :: (l.eraseIdx i).map g
  rw [V9 g l i]
noncomputable def Lt.ds (l:List Lt):List (List OT):=l.map fun b=>b.d.map D.ot
theorem Lt.Qgo (l:List Lt):OT.erss (Lt.ds l)=l.map Lt.d:=Lt.der l
theorem Lt.Qgp (l:List Lt):OT.AA (Lt.ds l)=true:=Lt.dfu l
theorem Lt.QfN (a b:List Lt):Lt.ds a++Lt.ds b=Lt.ds (a++b):=by unfold Lt.ds; rw [yF]
theorem Lt.Xi (a:List Lt):(Lt.ds a).length=a.length:=by unfold Lt.ds; rw [zC]
theorem Lt.QfO (a:List Lt):((Lt.ds a).all fun l=>l.length == 3)=true:=by
 unfold Lt.ds
 rw [zN]
 intro e he
 obtain ⟨b,_,rfl⟩:=yJ.1 he
 rfl
theorem Lt.Qgq (a:List Lt):((a.map Lt.d).map fun x=>x.map D.ot)=Lt.ds a:=by unfold Lt.ds; rw [yN]; rfl
theorem Co:modes 215=⟨[],.asis,some P9,false⟩:=by unfold modes; rfl
theorem Ce:modes 214=⟨[true],.asis,some Mk,false⟩:=by unfold modes; rfl
theorem AQ:modes 213=⟨[true],.asis,some Q9,false⟩:=by unfold modes; rfl
theorem Qcz (xs:List Lt) (h0:xs≠[]) (h:xs.length≤1048576):E 215 [.arr (xs.map Lt.d)] []=some (.ref 0,[.row 122 3 (Lt.ds xs)]):=by
 rw [GT (g:=P9) (congrArg FM.ext Co)]
 unfold P9
 simp only
 rw [At ⟨by simpa using h0,by simpa using h,fun e he=>by obtain ⟨b,_,rfl⟩:=yJ.1 he; rfl⟩,cond_true,Lt.Qgq]
theorem Qa2 (xs:List Lt) (i:Int) (h0:0≤i) (h1:i.toNat<xs.length) (h:xs.length≤1048576):E 214 [.ref 0,.int .i64 i,.int .i64 (i+1)] [.row 122 3 (Lt.ds xs)]=some (.ref 1,[.gone,.row 122 3 (Lt.ds (xs.eraseIdx i.toNat))]):=by
 rw [GT (g:=Mk) (congrArg FM.ext Ce)]
 unfold Mk
 simp only
 rw [At ⟨trivial,h0,by rw [Lt.Xi]; exact h1,trivial,by rw [Lt.Xi]; omega⟩,cond_true]
 unfold Lt.ds
 rw [V9]
theorem QdH:E 213 [.nil,.int .i64 0] []=some (.nil,[]):=by
 rw [GT (g:=Q9) (congrArg FM.ext AQ)]
 unfold Q9
 simp only
 rw [At trivial,cond_true]
theorem QdI (n:Int) (h:0<n) (h1:n≤1048576):E 213 [.nil,.int .i64 n] []=some (.ref 0,[.row 122 3 []]):=by
 rw [GT (g:=Q9) (congrArg FM.ext AQ)]
 unfold Q9
 simp only
 rw [Ay (by omega),cond_false,At ⟨h,h1⟩,cond_true]
def L9:SC:=(.seq (.reg [⟨some 2,none,.boxv 60 1 (.t 0)⟩,⟨some 4,none,.mv (.c .nil)⟩]) (.seq (.reg [⟨some 5,none,.faddr 0 (.t 2)⟩,⟨some 6,none,.load false 1 (.t 5)⟩,⟨some 7,none,.call 215 [(.t 6)]⟩,⟨some 8,none,.mv (.t 1)⟩,⟨some 9,none,.mv (.t 1)⟩,⟨some 10,none,.bin .add false (.t 9) (.c (.int .i64 1))⟩,⟨some 11,none,.call 214 [(.t 7),(.t 8),(.t 10)]⟩,⟨some 4,none,.mv (.t 11)⟩]) .ret))
theorem Tu:codeOf Tryz.prog 154=some ⟨12,L9,[(.tmp 4)]⟩:=by kernel_rfl
theorem LA:modes 154=⟨[],.own [some (122,3)],none,false⟩:=by unfold modes; rfl
theorem VA (c:Cl) (hl:c.lits.length≤1048575) (i:Int) (h0:0≤i) (h1:i.toNat<c.lits.length):E 154 [c.sv,.int .i64 i] []=some (.ref 0,[.row 122 3 (Lt.ds (c.lits.eraseIdx i.toNat))]):=by
 have hcs:c.sv=.agg [.arr (c.lits.map Lt.d)]:=rfl
 have h2:=Qcz c.lits (fun e=>by rw [e] at h1; simp at h1) (by omega)
 have h3:=Qa2 c.lits i h0 h1 (by omega)
 refine Ad Tu LA (of_decide_eq_true rfl) ?_
 simp (disch:=omega) only [L9,go_sem,Aa,h2,h3,Co,Ce]
def Cf:SC:=(.seq (.reg [⟨some 2,none,.mv (.c .nil)⟩]) (.seq (.reg [⟨some 3,none,.mv (.c (.int .i64 0))⟩]) (.seq (.seq (.reg [⟨some 9,none,.mv (.t 0)⟩,⟨some 10,none,.len false (.t 9)⟩,⟨some 11,none,.mv (.c (.int .i64 0))⟩]) (.block 0 (.loop [1,0,0,1,0,0,0,0,0,1,1,1,0,0,0,0,0,0,0,0,0,0,0,0,0,0,0,0,0,0,0,0,0,0,0,0] (.seq (.reg [⟨some 12,none,.bin .lss false (.t 11) (.t 10)⟩]) (.seq (.cond (.t 12) .skip (.exit 0)) (.seq (.block 1 (.seq (.reg [⟨some 13,none,.iaddr 1 (.t 9) (.t 11)⟩,⟨some 14,none,.load false 1 (.t 13)⟩,⟨some 5,none,.mv (.t 14)⟩]) (.seq (.reg [⟨some 15,none,.mv (.t 3)⟩,⟨some 16,none,.mv (.t 5)⟩,⟨some 17,none,.len false (.t 16)⟩,⟨some 18,none,.bin .add false (.t 15) (.t 17)⟩,⟨some 3,none,.mv (.t 18)⟩]) (.seq (.reg [⟨some 19,none,.mv (.t 3)⟩,⟨some 20,none,.bin .lss false (.t 19) (.c (.int .i64 0))⟩]) (.cond (.t 20) (.reg [⟨some 21,none,.un .neg (.c .nil)⟩,⟨none,none,(.un .neg (.c .nil))⟩]) .skip))))) (.reg [⟨some 22,none,.bin .add false (.t 11) (.c (.int .i64 1))⟩,⟨some 11,none,.mv (.t 22)⟩]))))))) (.seq (.reg [⟨some 23,none,.mv (.t 3)⟩,⟨some 24,none,.call 213 [(.c .nil),(.t 23)]⟩,⟨some 6,none,.mv (.t 24)⟩]) (.seq (.seq (.reg [⟨some 25,none,.mv (.t 0)⟩,⟨some 26,none,.len false (.t 25)⟩,⟨some 27,none,.mv (.c (.int .i64 0))⟩]) (.block 2 (.loop [0,0,0,0,0,0,1,0,0,0,0,0,0,0,0,0,0,0,0,0,0,0,0,0,0,1,1,1,0,0,0,0,0,0,0,0] (.seq (.reg [⟨some 28,none,.bin .lss false (.t 27) (.t 26)⟩]) (.seq (.cond (.t 28) .skip (.exit 2)) (.seq (.block 3 (.seq (.reg [⟨some 29,none,.iaddr 1 (.t 25) (.t 27)⟩,⟨some 30,none,.load false 1 (.t 29)⟩,⟨some 8,none,.mv (.t 30)⟩]) (.reg [⟨some 31,none,.mv (.t 6)⟩,⟨some 32,none,.mv (.t 8)⟩,⟨(some 33),none,(.append 122 3 48 [(.bool false),(.str ⟨#[]⟩),.nil] (.t 31) (.t 32))⟩,⟨some 6,none,.mv (.t 33)⟩]))) (.reg [⟨some 34,none,.bin .add false (.t 27) (.c (.int .i64 1))⟩,⟨some 27,none,.mv (.t 34)⟩]))))))) (.seq (.reg [⟨some 35,none,.mv (.t 6)⟩,⟨some 2,none,.mv (.t 35)⟩]) .ret))))))
theorem Ea:codeOf Tryz.prog 153=some ⟨36,Cf,[(.tmp 2)]⟩:=by kernel_rfl
theorem Cg:modes 153=⟨[],.own [some (122,3)],none,false⟩:=by unfold modes; rfl
theorem QdJ (xs:List (List Lt)) (hx:xs.length≤1024) (hs:xs.flatten.length≤1048576):E 153 [.arr (xs.map fun l=>[D.arr (l.map Lt.d)])] []=some (.ref 0,[.row 122 3 (Lt.ds xs.flatten)]):=by
 have hd0:Lt.ds []=[]:=rfl
 refine Ad Ea Cg (of_decide_eq_true rfl) ?_
 simp (disch:=omega) only [Cf,go_sem,Aa]
 refine go_loop (α:=Int × (Int)) (fun a=>⟨slots 36 0 [(0,.arr (xs.map fun l=>[D.arr (l.map Lt.d)])),(3,.int .i64 (a.2)),(9,.arr (xs.map fun l=>[D.arr (l.map Lt.d)])),(10,.int .i64 xs.length),(11,.int .i64 (a.1))],[]⟩) (fun a=>∃ k:Nat,a.1=k∧k≤(xs).length∧(a.2)+((xs.drop k).flatten.length:Int)=xs.flatten.length∧0≤(a.2)) (fun a=>(xs).length-(a.1).toNat) (0,0) ⟨0,rfl,zF _,by rw [zJ]; dsimp only; omega,Int.le_refl _⟩ (by simp (disch:=omega) only [go_sem,Aa]) ?_
 rintro ⟨i,n⟩ ⟨k,hi,hk,hR⟩
 dsimp only at hi hR
 have hni:i.toNat=k:=by omega
 have hni1:(i+1).toNat=k+1:=by omega
 rcases zB k (xs).length with hlt | hge
 ·have hg:=get_at (fun l:List Lt=>[D.arr (l.map Lt.d)]) hlt
  rw [zG hlt,y2,zV] at hR
  obtain ⟨hR1,hR2⟩:=hR
  have hge:dec (n+(xs[k].length:Int)<0)=false:=Ay (by omega)
  simp (disch:=omega) only [go_sem,Aa,hni,hg,hge]
  refine ⟨(i+1,n+xs[k].length),⟨k+1,by dsimp only; omega,hlt,by dsimp only; omega,by dsimp only; omega⟩,by dsimp only; omega,?_⟩
  first | trivial | rfl
 ·rw [zI hge] at hR
  obtain ⟨hR1,hR2⟩:=hR
  have hn:n=xs.flatten.length:=by simpa using hR1
  clear hR1 hR2
  rcases zH xs.flatten.length with hz | hz
  ·have hxe:∀ l∈xs,l=[]:=by
    have:=zE hz
    rwa [List.flatten_eq_nil_iff] at this
   have hfe:xs.flatten=[]:=zE hz
   obtain rfl:n=0:=by omega
   have hgr:=QdH
   rw [hfe]
   simp (disch:=omega) only [go_sem,Aa,hni,hgr,AQ]
   clear hi hni hni1 hk hge
   refine go_loop (α:=Int) (fun a=>⟨slots 36 0 [(6,(if a=0 then .nil else .ref 0)),(25,.arr (xs.map fun l=>[D.arr (l.map Lt.d)])),(26,.int .i64 xs.length),(27,.int .i64 a)],(if a=0 then [] else [.row 122 3 []])⟩) (fun a=>∃ k:Nat,a=k∧k≤(xs).length) (fun a=>(xs).length-(a).toNat) 0 ⟨0,rfl,zF _⟩ (by simp (disch:=omega) only [go_sem,Aa,eq_self,if_true]) ?_
   rintro i ⟨k,hi,hk⟩
   have hni:i.toNat=k:=by omega
   have hni1:(i+1).toNat=k+1:=by omega
   rcases zB k (xs).length with hlt | hge
   ·have hg:=get_at (fun l:List Lt=>[D.arr (l.map Lt.d)]) hlt
    rw [hxe _ (zD hlt)] at hg
    rcases zH k with h0 | h0
    ·subst h0
     obtain rfl:i=0:=hi
     simp (disch:=omega) only [go_sem,Aa,hg,eq_self,if_true]
     exact ⟨1,⟨1,rfl,hlt⟩,by omega,by first | trivial | rfl⟩
    ·have hi0:(i=0)=False:=by simp; omega
     have hi1:(i+1=0)=False:=by simp; omega
     simp (disch:=omega) only [go_sem,Aa,hni,hg,hi0,if_false]
     exact ⟨i+1,⟨k+1,by omega,hlt⟩,by omega,by simp only [hi1,if_false,and_self]⟩
   ·rcases zH k with h0 | h0
    ·subst h0
     obtain rfl:i=0:=hi
     simp (disch:=omega) only [go_sem,Aa,eq_self,if_true,hd0]
    ·have hi0:(i=0)=False:=by simp; omega
     simp (disch:=omega) only [go_sem,Aa,hni,hi0,if_false,hd0]
  ·have hgr:=QdI n (by omega) (by omega)
   simp (disch:=omega) only [go_sem,Aa,hni,hgr,AQ]
   clear hi hni hni1 hk hge
   refine go_loop (α:=Int × (List Lt)) (fun a=>⟨slots 36 0 [(6,.ref 0),(25,.arr (xs.map fun l=>[D.arr (l.map Lt.d)])),(26,.int .i64 xs.length),(27,.int .i64 (a.1))],[.row 122 3 (Lt.ds (a.2))]⟩) (fun a=>∃ k:Nat,a.1=k∧k≤(xs).length∧(a.2)++(xs.drop k).flatten=xs.flatten) (fun a=>(xs).length-(a.1).toNat) (0,[]) ⟨0,rfl,zF _,by rw [zJ]; rfl⟩ (by simp (disch:=omega) only [go_sem,Aa,hd0]) ?_
   rintro ⟨i,acc⟩ ⟨k,hi,hk,hR⟩
   dsimp only at hi hR
   have hni:i.toNat=k:=by omega
   have hni1:(i+1).toNat=k+1:=by omega
   rcases zB k (xs).length with hlt | hge
   ·have hg:=get_at (fun l:List Lt=>[D.arr (l.map Lt.d)]) hlt
    rw [zG hlt,y2,← y3] at hR
    have hlen:=congrArg List.length hR
    rw [zV,zV] at hlen
    have hap:Lt.ds acc++Lt.ds xs[k]=Lt.ds (acc++xs[k]):=Lt.QfN _ _
    have h1:=Lt.Qgq xs[k]
    have h2:=Lt.Xi xs[k]
    have h3:=Lt.Xi acc
    have h4:=Lt.QfO xs[k]
    simp (disch:=omega) only [go_sem,Aa,hni,hg,hap,h1,h2,h3,h4]
    refine ⟨(i+1,acc++xs[k]),⟨k+1,by dsimp only; omega,hlt,hR⟩,by dsimp only; omega,?_⟩
    first | trivial | rfl | simp only [hap]
   ·rw [zI hge] at hR
    have hR:acc=xs.flatten:=by simpa using hR
    rw [←hR]
    simp (disch:=omega) only [go_sem,Aa,hni]
theorem M1 (a:ByteArray):a.toList=a.data.toList:=ByteArray.toList_eq a
theorem VB (p a b:ByteArray):strLt (p++a) (p++b)=strLt a b:=by
 unfold strLt
 rw [M1,M1,M1 a,M1 b,yU,yU,yW,yW]
 induction p.data.toList with
 | nil=>rfl
 | cons c l ih =>
  rw [yB,yB]
  simp only [Op.bytesLess,ih]
  simp
theorem OF {p a b:ByteArray}:p++a=p++b ↔ a=b:=by
 constructor
 ·intro h
  have h2:=congrArg (fun x:ByteArray=>x.data.toList) h
  simp only [yU,yW] at h2
  have h3:=List.append_cancel_left h2
  exact Yk (by rw [M1,M1]; exact h3)
 ·intro h; rw [h]
theorem QdK (p q a b:ByteArray):ED (p++a) (p++b)=ED (q++a) (q++b):=by
 unfold ED
 rw [VB,VB]
 by_cases h:a=b
 ·rw [At (OF.2 h),At (OF.2 h)]
 ·rw [Ay (fun e=>h (OF.1 e)),Ay (fun e=>h (OF.1 e))]
def YOf (e:SEnv) (x:Tm):Prop:=∀ v∈x.vs,∃ r,v=M8++r∧e v=some (GH++r)
theorem Tm.QdL {e:SEnv} {x:Tm} (hy:YOf e x) (hn:x.names=true) (hv:Ao x.name=true):∃ r,x.name=M8++r∧(x.rn e).name=GH++r∧x.args=[]∧(x.rn e).args=[]:=by
 have h0:=Tm.EH hn hv
 obtain ⟨r,h1,h2⟩:=hy x.name (by rw [Tm.FY,hv]; simp)
 refine ⟨r,h1,?_,h0,?_⟩
 ·rw [(Tm.Na e x).1,h0,h2]; rfl
 ·rw [(Tm.Na e x).2,h0]; rfl
theorem Tm.Qb6 {e:SEnv} (he:O9 e) {x:Tm} (hn:x.names=true):Ao (x.rn e).name=Ao x.name:=by
 cases hv:Ao x.name with
 | false=>rw [Tm.Kh he x hv,hv]
 | true =>
  rw [(Tm.Na e x).1,Tm.EH hn hv]
  show Ao ((e x.name).getD x.name)=true
  cases h:e x.name with
  | none=>exact hv
  | some n=>exact (he _ _ h).2
theorem YOf.arg {e:SEnv} {x:Tm} (hy:YOf e x) (hv:Ao x.name=false) {y:Tm} (h:y∈x.args):YOf e y:=fun v hv2=>hy v (by
 rw [Tm.FY,hv,cond_false,Tm.vsL_mem]
 exact ⟨y,h,hv2⟩)
theorem QdM {p a b:Int} (h:p=0→a=b):orZ p a=orZ p b:=by
 unfold orZ
 by_cases hp:p=0
 ·rw [if_pos hp,if_pos hp,h hp]
 ·rw [if_neg hp,if_neg hp]
theorem QeX {n m:ByteArray} (h:Ho (kvZ n) (kvZ m)=0):Ao n=Ao m:=by
 have:=(EY _ _ 0).zero.1 h
 unfold kvZ at this
 cases h1:Ao n <;> cases h2:Ao m <;> rw [h1,h2] at this <;> first | rfl | (simp at this)
theorem Qfx {n m:ByteArray} (h:Ao n=Ao m):kvZ n=kvZ m:=by unfold kvZ; rw [h]
mutual
theorem Tm.QfP {e:SEnv} (he:O9 e):∀ x y:Tm,x.names=true→y.names=true→YOf e x→YOf e y→(x.rn e).cmp (y.rn e)=x.cmp y
 | .mk n xs,.mk m ys=>fun hx hy ex ey=>by
  have k1:=Qfx (Tm.Qb6 he hx)
  have k2:=Qfx (Tm.Qb6 he hy)
  rw [Tm.IS,Tm.IS (.mk n xs),k1,k2]
  refine QdM fun hk=>?_
  have hk:=QeX hk
  cases hv:Ao (Tm.mk n xs).name with
  | true =>
   have hw:Ao (Tm.mk m ys).name=true:=by rw [←hk]; exact hv
   obtain ⟨r,a1,a2,a3,a4⟩:=Tm.QdL ex hx hv
   obtain ⟨q,b1,b2,b3,b4⟩:=Tm.QdL ey hy hw
   rw [a1,a2,a3,a4,b1,b2,b3,b4,QdK GH M8]
  | false =>
   have hw:Ao (Tm.mk m ys).name=false:=by rw [←hk]; exact hv
   rw [Tm.Kh he _ hv,Tm.Kh he _ hw,(Tm.Na e _).2,(Tm.Na e _).2,zC,zC]
   rw [show Tm.cmpL ((Tm.mk n xs).args.map (Tm.rn e)) ((Tm.mk m ys).args.map (Tm.rn e))=Tm.cmpL (Tm.mk n xs).args (Tm.mk m ys).args from Tm.Xj he xs ys (fun z hz=>Tm.Eg hx hz) (fun z hz=>Tm.Eg hy hz) (fun z hz=>ex.arg hv hz) fun z hz=>ey.arg hw hz]
theorem Tm.Xj {e:SEnv} (he:O9 e):∀ xs ys:List Tm,(∀ z∈xs,z.names=true)→(∀ z∈ys,z.names=true)→(∀ z∈xs,YOf e z)→(∀ z∈ys,YOf e z)→Tm.cmpL (xs.map (Tm.rn e)) (ys.map (Tm.rn e))=Tm.cmpL xs ys
 | [],[]=>fun _ _ _ _=>rfl
 | [],y :: ys=>fun _ _ _ _=>by rw [zK,zL,Tm.cmpL,Tm.cmpL]
 | x :: xs,[]=>fun _ _ _ _=>by rw [zK,zL,Tm.cmpL,Tm.cmpL]
 | x :: xs,y :: ys=>fun h1 h2 h3 h4=>by
  rw [zK,zK,Tm.cmpL,Tm.cmpL,Tm.QfP he x y (h1 _ (by simp)) (h2 _ (by simp)) (h3 _ (by simp)) (h4 _ (by simp)),Tm.Xj he xs ys (fun z hz=>h1 z (by simp [hz])) (fun z hz=>h2 z (by simp [hz])) (fun z hz=>h3 z (by simp [hz])) fun z hz=>h4 z (by simp [hz])]
end
theorem Tv {x:Tm} (h:x.atom=true):Ao x.name=false:=by
 unfold Tm.atom at h
 split at h
 ·rename_i hq
  have:x.name=⟨#[61]⟩:=Ar.1 hq
  rw [this]; decide +kernel
 ·rw [zA] at h
  exact PK h.1
theorem Tm.QeY {e:SEnv} (he:O9 e) (x y:Tm) (hx:x.atom=true) (hy:y.atom=true) (ex:YOf e x) (ey:YOf e y):(x.rn e).cmp (y.rn e)=x.cmp y:=by
 have hv:=Tv hx
 have hw:=Tv hy
 rw [Tm.IS,Tm.IS x,Tm.Kh he _ hv,Tm.Kh he _ hw,(Tm.Na e _).2,(Tm.Na e _).2,zC,zC]
 rw [Tm.Xj he x.args y.args (Tm.Gn hx).2 (Tm.Gn hy).2 (fun z hz=>ex.arg hv hz) fun z hz=>ey.arg hw hz]
theorem Cl.Qa3 {c:Cl} (hc:c.ok=true) (hn:c.norm=true):(c.rn (D9 GH c.ns)).lits=c.lits.map (Lt.rn (D9 GH c.ns)):=by
 have he:=Cl.yE hc
 have hnl:OA c.ns:=Ar.1 hn
 have hy:∀ x∈c.lits,YOf (D9 GH c.ns) x.atom:=fun x hx v hv=>by
  have hm:v∈c.ns:=Cl.QdC.2 ⟨x,hx,hv⟩
  obtain ⟨k,hk,rfl⟩:=zX hm
  exact ⟨F5 k,hnl k hk,Tr GH c.ns_nodup hk⟩
 have hs:Dl (c.lits.map (Lt.rn (D9 GH c.ns))):=by
  unfold Dl
  rw [List.pairwise_map]
  refine List.Pairwise.imp_of_mem ?_ (Cl.V7 hc)
  intro a b ha hb h
  have e:((Lt.rn (D9 GH c.ns) a).cmp (Lt.rn (D9 GH c.ns) b))=a.cmp b:=by
   unfold Lt.cmp Lt.rn
   dsimp only
   rw [Tm.QeY he _ _ (Cl.C3 hc a ha) (Cl.C3 hc b hb) (hy a ha) (hy b hb)]
  rw [e]; exact h
 unfold Cl.rn
 rw [YL hs]
def bdLe (x y:Bd):Bool:=!strLt y.var x.var
def GJ:List Bd→Bd→List Bd
 | [],b=>[b]
 | x :: xs,b=>bif strLt x.var b.var then x :: GJ xs b else b :: x :: xs
theorem M2 (b:Bd):∀ xs:List Bd,(GJ xs b).Perm (b :: xs)
 | []=>.refl _
 | x :: xs=>by
  rw [GJ]
  cases strLt x.var b.var with
  | true=>exact ((M2 b xs).cons x).trans (.swap b x xs)
  | false=>exact .refl _
theorem Tw {a b c:Bd} (h:bdLe a b=true) (k:bdLe b c=true):bdLe a c=true:=by
 unfold bdLe at *
 cases hq:strLt c.var a.var with
 | false=>rfl
 | true =>
  cases hb:strLt b.var a.var with
  | true=>rw [hb] at h; cases h
  | false =>
   cases hc:strLt c.var b.var with
   | true=>rw [hc] at k; cases k
   | false =>
    cases hab:strLt a.var b.var with
    | true=>rw [L1 hq hab] at hc; cases hc
    | false =>
     have:=Lz hab hb
     rw [this] at hq; rw [hq] at hc; cases hc
theorem Qa4 (a b:Bd):(bdLe a b || bdLe b a)=true:=by
 unfold bdLe
 cases h:strLt b.var a.var with
 | false=>rfl
 | true=>rw [Ly h]; rfl
theorem QE (b:Bd):∀ xs:List Bd,xs.Pairwise (fun x y=>bdLe x y=true)→(GJ xs b).Pairwise fun x y=>bdLe x y=true
 | [],_=>by simp [GJ]
 | x :: xs,h=>by
  rw [GJ]
  rw [zZ] at h
  cases hq:strLt x.var b.var with
  | true =>
   rw [cond_true,zZ]
   refine ⟨fun y hy=>?_,QE b xs h.2⟩
   rcases yL.1 ((M2 b xs).mem_iff.1 hy) with rfl | hy
   ·unfold bdLe; rw [Ly hq]; rfl
   ·exact h.1 y hy
  | false =>
   have hb:bdLe b x=true:=by unfold bdLe; rw [hq]; rfl
   rw [cond_false,zZ,zZ]
   refine ⟨fun y hy=>?_,h⟩
   rcases yL.1 hy with rfl | hy
   ·exact hb
   ·exact Tw hb (h.1 y hy)
def Jb (xs ys:List Bd):List Bd:=ys.foldl GJ xs
theorem PS:∀ (ys xs:List Bd),(Jb xs ys).Perm (xs++ys)
 | [],xs=>by simp [Jb]
 | y :: ys,xs=>by
  have h:=PS ys (GJ xs y)
  simp only [Jb,z8] at h ⊢
  refine h.trans ?_
  have h2:(GJ xs y++ys).Perm ((y :: xs)++ys):=(M2 y xs).append_right ys
  exact h2.trans List.perm_middle.symm
theorem QF:∀ (ys xs:List Bd),xs.Pairwise (fun x y=>bdLe x y=true)→(Jb xs ys).Pairwise fun x y=>bdLe x y=true
 | [],xs,h=>h
 | y :: ys,xs,h=>by
  simp only [Jb,z8]
  exact QF ys (GJ xs y) (QE y xs h)
theorem QdN (xs a b:List Bd):Jb xs (a++b)=Jb (Jb xs a) b:=y4
theorem Qc0 {ys:List Bd} (hn:(ys.map Bd.var).Nodup):Jb [] ys=ys.mergeSort bdLe:=by
 have h1:(Jb [] ys).Perm ys:=by simpa using PS ys []
 have h2:(ys.mergeSort bdLe).Perm ys:=List.mergeSort_perm _ _
 refine List.Perm.eq_of_pairwise (le:=fun x y=>bdLe x y=true) ?_ (QF ys [] xA) (List.pairwise_mergeSort (le:=bdLe) (fun _ _ _ h k=>Tw h k) Qa4 ys) (h1.trans h2.symm)
 intro a b ha hb hab hba
 unfold bdLe at hab hba
 have e:a.var=b.var:=Lz (by simpa using hba) (by simpa using hab)
 have ha:=h1.mem_iff.1 ha
 have hb:=h2.mem_iff.1 hb
 obtain ⟨i,hi,rfl⟩:=zX ha
 obtain ⟨j,hj,rfl⟩:=zX hb
 have hij:i=j:=(List.getElem_inj (h₀:=by simpa using hi) (h₁:=by simpa using hj) hn).1 (by simpa using e)
 subst hij; rfl
theorem YO (b:Bd):∀ xs:List Bd,GJ xs b=xs.take (Bo xs b.var)++b :: xs.drop (Bo xs b.var)
 | []=>by simp [GJ,Bo]
 | x :: xs=>by
  rw [GJ,Bo]
  cases h:strLt x.var b.var with
  | true=>rw [cond_true,YO b xs]; simp
  | false=>simp
noncomputable def CV (u:Sb) (b:Bd):Option Bd:=bif dec ((b.term.ap u.look).name=b.var) then none else some ⟨b.var,b.term.ap u.look⟩
noncomputable def Ia (s u:Sb):List Bd:=s.binds.filterMap (CV u)
noncomputable def Qb7 (s u:Sb):List Bd:=u.binds.filter fun b=>!El s.binds b.var
noncomputable def C5 (s u:Sb):List Bd:=Ia s u++Qb7 s u
noncomputable def Cy (s u:Sb):Sb:=⟨(C5 s u).mergeSort bdLe⟩
theorem N7:∀ {xs:List Bd},O5 xs→(xs.map Bd.var).Nodup:=by
 intro xs h
 unfold List.Nodup
 rw [yO]
 intro i j hi hj hij e
 rw [zC] at hj
 have:=h i j hij hj
 simp only [yC] at e
 rw [e,HS] at this
 cases this
theorem YP {xs:List Bd} (hs:O5 xs) (n:ByteArray):El xs n=xs.any fun b=>dec (b.var=n):=by
 rw [←Jv,Te hs]
 cases El xs n with
 | true=>rw [if_pos rfl]; exact (At (by omega)).symm
 | false=>rw [if_neg (by simp)]; exact (Ay (by omega)).symm
theorem VC {s u:Sb} {b:Bd} (h:b∈Ia s u):∃ c∈s.binds,b.var=c.var∧b.term=c.term.ap u.look:=by
 obtain ⟨c,hc,h⟩:=List.mem_filterMap.1 h
 refine ⟨c,hc,?_⟩
 unfold CV at h
 cases hq:dec ((c.term.ap u.look).name=c.var) with
 | true=>rw [hq] at h; cases h
 | false=>rw [hq] at h; obtain rfl:=yP h; exact ⟨rfl,rfl⟩
theorem LB (u:Sb):∀ xs:List Bd,((xs.filterMap (CV u)).map Bd.var).Sublist (xs.map Bd.var)
 | []=>.slnil
 | x :: xs=>by
  rw [List.filterMap_cons,zK]
  have h:=LB u xs
  cases hq:CV u x with
  | none=>exact h.cons _
  | some c =>
   have e:c.var=x.var:=by
    unfold CV at hq
    cases hd:dec ((x.term.ap u.look).name=x.var) with
    | true=>rw [hd] at hq; cases hq
    | false=>rw [hd] at hq; obtain rfl:=yP hq; rfl
   simp only [zK,e]
   exact h.cons_cons _
theorem OG {s u:Sb} (hs:O5 s.binds) (hu:O5 u.binds):((C5 s u).map Bd.var).Nodup:=by
 unfold C5
 rw [yF,List.nodup_append]
 refine ⟨(LB u s.binds).nodup (N7 hs),(List.Sublist.map _ List.filter_sublist).nodup (N7 hu),fun a ha b hb e=>?_⟩
 subst e
 obtain ⟨x,hx,rfl⟩:=yJ.1 ha
 obtain ⟨y,hy,e⟩:=yJ.1 hb
 obtain ⟨c,hc,h1,_⟩:=VC hx
 have hy2:=(List.mem_filter.1 hy).2
 rw [YP hs,Bool.not_eq_true'] at hy2
 have:=List.any_eq_false.1 hy2 c hc
 exact this (At (by rw [←h1,e]))
theorem Tx (s u:Sb):(C5 s u).length≤s.binds.length+u.binds.length:=by
 unfold C5 Ia Qb7
 rw [zV]
 have h1:=List.length_filterMap_le (CV u) s.binds
 have h2:=List.length_filter_le (fun b=>!El s.binds b.var) u.binds
 omega
mutual
def Tm.wt:Tm→Nat
 | .mk name args=>1+Tm.wtS args
def Tm.wtS:List Tm→Nat
 | []=>0
 | x :: xs=>Tm.wt x+Tm.wtS xs
end
theorem Tm.wt_eq (x:Tm):x.wt=1+Tm.wtS x.args:=by
 obtain ⟨name,args⟩:=x
 rw [Tm.wt]; rfl
mutual
noncomputable def Tm.mk1:Tm→Int→Tm × Int
 | .mk name args,k=>((Tm.mk (Ir k) ((Tm.mkS args (k+1)).1)),(Tm.mkS args (k+1)).2)
noncomputable def Tm.mkS:List Tm→Int→List Tm × Int
 | [],k=>([],k)
 | x :: xs,k=>((Tm.mk1 x k).1 :: (Tm.mkS xs (Tm.mk1 x k).2).1,(Tm.mkS xs (Tm.mk1 x k).2).2)
end
theorem Tm.mk1_eq (x:Tm) (k:Int):x.mk1 k=((Tm.mk (Ir k) ((Tm.mkS x.args (k+1)).1)),(Tm.mkS x.args (k+1)).2):=by
 obtain ⟨name,args⟩:=x
 rw [Tm.mk1]; rfl
theorem Tm.mk1_d (x:Tm) (k:Int):Tm.d (x.mk1 k).1=[.str (Ir k),.arr ((Tm.mkS x.args (k+1)).1.map Tm.d)]:=by
 rw [Tm.mk1_eq,Tm.d_eq]
 try rfl
theorem Tm.mk1_o (x:Tm) (k:Int):Tm.o (x.mk1 k).1=[.str (Ir k),.ow ((Tm.mkS x.args (k+1)).1.map Tm.o)]:=by
 rw [Tm.mk1_eq,Tm.o_eq]
 try rfl
theorem Tm.N8:∀ (xs:List Tm) (k:Int),(∀ x∈xs,∀ k,(x.mk1 k).2=k+x.wt)→(Tm.mkS xs k).2=k+Tm.wtS xs
 | [],k,_=>by simp [Tm.mkS,Tm.wtS]
 | x :: xs,k,h=>by
  rw [Tm.mkS,Tm.wtS]
  have h1:=h x (by simp) k
  have h2:=Tm.N8 xs (x.mk1 k).2 fun y hy=>h y (by simp [hy])
  dsimp only
  omega
theorem Tm.mk1_end (x:Tm) (k:Int):(x.mk1 k).2=k+x.wt:=by
 rw [Tm.mk1_eq,Tm.wt_eq]
 have h:=fun k=>Tm.N8 x.args k fun y hy k=>Tm.mk1_end y k
 simp only [h]
 omega
termination_by SizeOf.sizeOf x
decreasing_by exact Tm.lt_of_mem hy
theorem Tm.mkS_end (xs:List Tm) (k:Int):(Tm.mkS xs k).2=k+Tm.wtS xs:=Tm.N8 xs k fun x _ k=>Tm.mk1_end x k
theorem Tm.Qa5:∀ xs:List Tm,(∀ x∈xs,x.wt≤5*(1+x.bulk))→Tm.wtS xs≤5*(xs.length+Tm.sumB xs)
 | [],_=>by simp [Tm.wtS]
 | x :: xs,h=>by
  have h1:=h x (by simp)
  have h2:=Tm.Qa5 xs fun y hy=>h y (by simp [hy])
  rw [Tm.wtS,Tm.sumB]; simp only [zP]; omega
theorem Tm.wt_bulk (x:Tm):x.wt≤5*(1+x.bulk):=by
 rw [Tm.wt_eq,Tm.bulk_eq]
 have h:=Tm.Qa5 x.args fun y hy=>Tm.wt_bulk y
 omega
termination_by SizeOf.sizeOf x
decreasing_by exact Tm.lt_of_mem hy
theorem Tm.wtS_bulk (xs:List Tm):Tm.wtS xs≤5*(xs.length+Tm.sumB xs):=Tm.Qa5 xs fun x _=>Tm.wt_bulk x
theorem Tm.length_wt:∀ xs:List Tm,xs.length≤Tm.wtS xs
 | []=>zO _
 | x :: xs=>by
  have:=Tm.length_wt xs
  have:=Tm.wt_eq x
  rw [Tm.wtS]; simp only [zP]; omega
def J6:SC:=(.seq (.reg [⟨some 4,none,.mv (.c (.int .i64 0))⟩]) (.seq (.seq (.reg [⟨some 5,none,.mv (.c (.int .i64 0))⟩]) (.block 0 (.loop [1,1,0,0,0,1,0,0,0,0,0,0,0,0,0,0,0,0,0,0,0,0,0,0,0,0,0,0] (.seq (.seq (.reg [⟨some 6,none,.mv (.t 5)⟩,⟨some 7,none,.mv (.t 0)⟩,⟨some 8,none,.len false (.t 7)⟩,⟨some 9,none,.bin .lss false (.t 6) (.t 8)⟩]) (.cond (.t 9) .skip (.exit 0))) (.seq (.block 1 (.seq (.reg [⟨some 12,none,.mv (.t 0)⟩,⟨some 13,none,.mv (.t 5)⟩,⟨some 14,none,.mv (.t 1)⟩,⟨some 15,none,.call 63 [(.t 14)]⟩,⟨some 16,none,.iaddr 2 (.t 12) (.t 13)⟩,⟨some 17,none,.faddr 0 (.t 16)⟩,⟨none,none,(.store 1 (.t 17) (.t 15))⟩]) (.seq (.reg [⟨some 18,none,.mv (.t 1)⟩,⟨some 19,none,.bin .add false (.t 18) (.c (.int .i64 1))⟩,⟨some 1,none,.mv (.t 19)⟩]) (.reg [⟨some 20,none,.mv (.t 0)⟩,⟨some 21,none,.mv (.t 5)⟩,⟨some 22,none,.iaddr 2 (.t 20) (.t 21)⟩,⟨some 23,none,.faddr 1 (.t 22)⟩,⟨some 24,none,.load false 1 (.t 23)⟩,⟨some 25,none,.mv (.t 1)⟩,⟨some 26,none,.call 72 [(.t 24),(.t 25)]⟩,⟨some 1,none,.mv (.t 26)⟩])))) (.reg [⟨some 10,none,.mv (.t 5)⟩,⟨some 11,none,.bin .add false (.t 10) (.c (.int .i64 1))⟩,⟨some 5,none,.mv (.t 11)⟩])))))) (.seq (.reg [⟨some 27,none,.mv (.t 1)⟩,⟨some 4,none,.mv (.t 27)⟩]) .ret)))
theorem PT:codeOf Tryz.prog 72=some ⟨28,J6,[(.tmp 4)]⟩:=by kernel_rfl
theorem Gq:modes 72=⟨[true],.asis,none,true⟩:=by unfold modes; rfl
abbrev I4 (xs:List Tm):Prop:=∀ (k:Int) (ob:List Ob),1≤k→k+Tm.wtS xs≤1099511627776→toTree ob=[.tree (xs.map Tm.o) []]→E 72 [.ref 0,.int .i64 k] ob=some (.int .i64 (Tm.mkS xs k).2,[.tree ((Tm.mkS xs k).1.map Tm.o) []])
theorem LC (xs:List Tm) (ih:∀ x∈xs,I4 x.args):I4 xs:=by
 intro k0 ob h1 h2 hob
 have hlen:ob.length=1:=by rw [←H6,hob]; rfl
 have hL:=Tm.length_wt xs
 refine Ad PT Gq (of_decide_eq_true rfl) ?_
 simp (disch:=omega) only [J6,go_sem,Aa,hob,hlen]
 refine go_loop (α:=Int × (Int) × (List Tm)) (fun a=>⟨slots 28 0 [(0,.ref 0),(1,.int .i64 (a.2.1)),(5,.int .i64 (a.1))],[.tree (((a.2.2)++xs.drop (a.1).toNat).map Tm.o) []]⟩) (fun a=>∃ k:Nat,a.1=k∧k≤(xs).length∧(a.2.2).length=k∧1≤(a.2.1)∧(a.2.1)+Tm.wtS (xs.drop k)=k0+Tm.wtS xs∧Tm.mkS xs k0=((a.2.2)++(Tm.mkS (xs.drop k) (a.2.1)).1,(Tm.mkS (xs.drop k) (a.2.1)).2)) (fun a=>(xs).length-(a.1).toNat) (0,k0,[]) ⟨0,rfl,zF _,rfl,h1,by rw [zJ],by simp⟩ (by simp (disch:=omega) only [go_sem,Aa,yD]) ?_
 rintro ⟨i,kk,dn⟩ ⟨k,hi,hk,hR⟩
 dsimp only at hi hR
 have hni:i.toNat=k:=by omega
 have hni1:(i+1).toNat=k+1:=by omega
 rcases zB k (xs).length with hlt | hge
 ·obtain ⟨hd,hk1,hkn,hm⟩:=hR
  have hdr:xs.drop k=xs[k] :: xs.drop (k+1):=zG hlt
  have hel:(dn++xs.drop k).length=xs.length:=by simp; omega
  have hg:(List.map Tm.o (dn++xs.drop k))[k]?=some [.str xs[k].name,.ow (xs[k].args.map Tm.o)]:=by
   rw [←Tm.o_eq,hdr,List.getElem?_map,yZ (by omega),hd,Nat.sub_self]; rfl
  rw [hdr,Tm.wtS] at hkn
  rw [hdr,Tm.mkS] at hm
  have hn1:=Tm.wt_eq xs[k]
  have e1:=Tm.mkS_end xs[k].args ((kk+1))
  have t0:=JY (k:=kk) (by omega) (by omega)
  have c58:=ih xs[k] (zD hlt) ((kk+1)) [.tree (xs[k].args.map Tm.o) []] (by omega) (by omega) rfl
  have hs:=Ln Tm.o dn (xs.drop (k+1)) xs[k] (xs[k].mk1 kk).1 hd
  rw [Tm.mk1_o,← hdr] at hs
  have hgs:∀ a,((List.map Tm.o (dn++xs.drop k)).set k a)[k]?=some a:=fun a=>List.getElem?_set_self (by rw [zC,hel]; exact hlt)
  have he:=Tm.mk1_end xs[k] kk
  have three:∀ z:Int,dec ((3:Int)=0)=false:=fun _=>Ay (by omega)
  simp (disch:=omega) only [go_sem,Aa,hni,hel,hg,t0,c58,Gq,DS,hgs,List.length_set,List.set_set,hs,three 0]
  refine ⟨(i+1,(xs[k].mk1 kk).2,dn++[(xs[k].mk1 kk).1]),⟨k+1,by dsimp only; omega,hlt,by dsimp only; simp [hd],by dsimp only; omega,by dsimp only; omega,by rw [hm]; simp⟩,by dsimp only; omega,?_⟩
  dsimp only
  rw [hni1,Tm.mk1_eq]
  refine ⟨⟨?_,rfl⟩,rfl⟩
  first | rfl | omega
 ·obtain ⟨hd,hk1,hkn,hm⟩:=hR
  have hdr:xs.drop k=[]:=zI hge
  rw [hdr,Tm.mkS] at hm
  rw [hm]
  simp (disch:=omega) only [go_sem,Aa,hni,hdr,y7]
theorem OH (x:Tm):I4 x.args:=LC x.args fun y hy=>OH y
termination_by SizeOf.sizeOf x
decreasing_by exact Tm.lt_of_mem hy
theorem YQ (xs:List Tm):I4 xs:=LC xs fun y _=>OH y
def Lt.wt (x:Lt):Nat:=2+Tm.wtS x.atom.args
theorem Lt.wt_eq (x:Lt):x.wt=2+Tm.wtS x.atom.args:=rfl
noncomputable def Lt.mk1 (x:Lt) (k:Int):Lt × Int:=((Lt.mk (dec (k.tmod 3=0)) (Tm.mk (Ir (k+1)) ((Tm.mkS x.atom.args (k+1+1)).1))),(Tm.mkS x.atom.args (k+1+1)).2)
theorem Lt.mk1_eq (x:Lt) (k:Int):x.mk1 k=((Lt.mk (dec (k.tmod 3=0)) (Tm.mk (Ir (k+1)) ((Tm.mkS x.atom.args (k+1+1)).1))),(Tm.mkS x.atom.args (k+1+1)).2):=rfl
def Lt.wtS:List Lt→Nat
 | []=>0
 | x :: xs=>Lt.wt x+Lt.wtS xs
noncomputable def Lt.mkS:List Lt→Int→List Lt × Int
 | [],k=>([],k)
 | x :: xs,k=>((Lt.mk1 x k).1 :: (Lt.mkS xs (Lt.mk1 x k).2).1,(Lt.mkS xs (Lt.mk1 x k).2).2)
theorem Lt.mk1_d (x:Lt) (k:Int):Lt.d (x.mk1 k).1=[.bool (dec (k.tmod 3=0)),.str (Ir (k+1)),.arr ((Tm.mkS x.atom.args (k+1+1)).1.map Tm.d)]:=by
 rw [Lt.mk1_eq,Lt.d_eq]
 try rfl
theorem Lt.mk1_o (x:Lt) (k:Int):Lt.o (x.mk1 k).1=[.bool (dec (k.tmod 3=0)),.str (Ir (k+1)),.ow ((Tm.mkS x.atom.args (k+1+1)).1.map Tm.o)]:=by
 rw [Lt.mk1_eq,Lt.o_eq]
 try rfl
theorem Lt.mk1_end (x:Lt) (k:Int):(x.mk1 k).2=k+x.wt:=by
 rw [Lt.mk1_eq,Lt.wt_eq]
 first
  |omega
  |(simp only [Tm.mkS_end]; done)
  |(simp only [Tm.mkS_end]; omega)
  |simp
theorem Lt.mkS_end:∀ (xs:List Lt) (k:Int),(Lt.mkS xs k).2=k+Lt.wtS xs
 | [],k=>by simp [Lt.mkS,Lt.wtS]
 | x :: xs,k=>by
  rw [Lt.mkS,Lt.wtS]
  have h1:=Lt.mk1_end x k
  have h2:=Lt.mkS_end xs (x.mk1 k).2
  dsimp only
  omega
theorem Lt.wt_bulk (x:Lt):x.wt≤5*(1+x.bulk):=by
 rw [Lt.wt_eq,Lt.bulk_eq]
 have h0:=Tm.wtS_bulk x.atom.args
 have q1:=Tm.bulk_eq x.atom
 omega
theorem Lt.wtS_bulk:∀ xs:List Lt,Lt.wtS xs≤5*(xs.length+Lt.sumB xs)
 | []=>by simp [Lt.wtS]
 | x :: xs=>by
  have h1:=Lt.wt_bulk x
  have h2:=Lt.wtS_bulk xs
  rw [Lt.wtS,Lt.sumB]; simp only [zP]; omega
theorem Lt.length_wt:∀ xs:List Lt,xs.length≤Lt.wtS xs
 | []=>zO _
 | x :: xs=>by
  have:=Lt.length_wt xs
  have:=Lt.wt_eq x
  rw [Lt.wtS]; simp only [zP]; omega
def Hj:SC:=(.seq (.reg [⟨some 4,none,.mv (.c (.int .i64 0))⟩]) (.seq (.seq (.reg [⟨some 5,none,.mv (.c (.int .i64 0))⟩]) (.block 0 (.loop [1,1,0,0,0,1,0,0,0,0,0,0,0,0,0,0,0,0,0,0,0,0,0,0,0,0,0,0,0,0,0,0,0,0,0,0,0,0,0] (.seq (.seq (.reg [⟨some 6,none,.mv (.t 5)⟩,⟨some 7,none,.mv (.t 0)⟩,⟨some 8,none,.len false (.t 7)⟩,⟨some 9,none,.bin .lss false (.t 6) (.t 8)⟩]) (.cond (.t 9) .skip (.exit 0))) (.seq (.block 1 (.seq (.reg [⟨some 12,none,.mv (.t 0)⟩,⟨some 13,none,.mv (.t 5)⟩,⟨some 14,none,.mv (.t 1)⟩,⟨some 15,none,.bin .rem false (.t 14) (.c (.int .i64 3))⟩,⟨some 16,none,.bin .eql false (.t 15) (.c (.int .i64 0))⟩,⟨some 17,none,.iaddr 3 (.t 12) (.t 13)⟩,⟨some 18,none,.faddr 0 (.t 17)⟩,⟨none,none,(.store 1 (.t 18) (.t 16))⟩]) (.seq (.reg [⟨some 19,none,.mv (.t 1)⟩,⟨some 20,none,.bin .add false (.t 19) (.c (.int .i64 1))⟩,⟨some 1,none,.mv (.t 20)⟩]) (.seq (.reg [⟨some 21,none,.mv (.t 0)⟩,⟨some 22,none,.mv (.t 5)⟩,⟨some 23,none,.mv (.t 1)⟩,⟨some 24,none,.call 63 [(.t 23)]⟩,⟨some 25,none,.iaddr 3 (.t 21) (.t 22)⟩,⟨some 26,none,.faddr 1 (.t 25)⟩,⟨some 27,none,.faddr 0 (.t 26)⟩,⟨none,none,(.store 1 (.t 27) (.t 24))⟩]) (.seq (.reg [⟨some 28,none,.mv (.t 1)⟩,⟨some 29,none,.bin .add false (.t 28) (.c (.int .i64 1))⟩,⟨some 1,none,.mv (.t 29)⟩]) (.reg [⟨some 30,none,.mv (.t 0)⟩,⟨some 31,none,.mv (.t 5)⟩,⟨some 32,none,.iaddr 3 (.t 30) (.t 31)⟩,⟨some 33,none,.faddr 1 (.t 32)⟩,⟨some 34,none,.faddr 1 (.t 33)⟩,⟨some 35,none,.load false 1 (.t 34)⟩,⟨some 36,none,.mv (.t 1)⟩,⟨some 37,none,.call 72 [(.t 35),(.t 36)]⟩,⟨some 1,none,.mv (.t 37)⟩])))))) (.reg [⟨some 10,none,.mv (.t 5)⟩,⟨some 11,none,.bin .add false (.t 10) (.c (.int .i64 1))⟩,⟨some 5,none,.mv (.t 11)⟩])))))) (.seq (.reg [⟨some 38,none,.mv (.t 1)⟩,⟨some 4,none,.mv (.t 38)⟩]) .ret)))
theorem MA:codeOf Tryz.prog 83=some ⟨39,Hj,[(.tmp 4)]⟩:=by kernel_rfl
theorem EQ:modes 83=⟨[true],.asis,none,true⟩:=by unfold modes; rfl
abbrev LE (xs:List Lt):Prop:=∀ (k:Int) (ob:List Ob),1≤k→k+Lt.wtS xs≤1099511627776→toTree ob=[.tree (xs.map Lt.o) []]→E 83 [.ref 0,.int .i64 k] ob=some (.int .i64 (Lt.mkS xs k).2,[.tree ((Lt.mkS xs k).1.map Lt.o) []])
theorem OI (xs:List Lt):LE xs:=by
 intro k0 ob h1 h2 hob
 have hlen:ob.length=1:=by rw [←H6,hob]; rfl
 have hL:=Lt.length_wt xs
 refine Ad MA EQ (of_decide_eq_true rfl) ?_
 simp (disch:=omega) only [Hj,go_sem,Aa,hob,hlen]
 refine go_loop (α:=Int × (Int) × (List Lt)) (fun a=>⟨slots 39 0 [(0,.ref 0),(1,.int .i64 (a.2.1)),(5,.int .i64 (a.1))],[.tree (((a.2.2)++xs.drop (a.1).toNat).map Lt.o) []]⟩) (fun a=>∃ k:Nat,a.1=k∧k≤(xs).length∧(a.2.2).length=k∧1≤(a.2.1)∧(a.2.1)+Lt.wtS (xs.drop k)=k0+Lt.wtS xs∧Lt.mkS xs k0=((a.2.2)++(Lt.mkS (xs.drop k) (a.2.1)).1,(Lt.mkS (xs.drop k) (a.2.1)).2)) (fun a=>(xs).length-(a.1).toNat) (0,k0,[]) ⟨0,rfl,zF _,rfl,h1,by rw [zJ],by simp⟩ (by simp (disch:=omega) only [go_sem,Aa,yD]) ?_
 rintro ⟨i,kk,dn⟩ ⟨k,hi,hk,hR⟩
 dsimp only at hi hR
 have hni:i.toNat=k:=by omega
 have hni1:(i+1).toNat=k+1:=by omega
 rcases zB k (xs).length with hlt | hge
 ·obtain ⟨hd,hk1,hkn,hm⟩:=hR
  have hdr:xs.drop k=xs[k] :: xs.drop (k+1):=zG hlt
  have hel:(dn++xs.drop k).length=xs.length:=by simp; omega
  have hg:(List.map Lt.o (dn++xs.drop k))[k]?=some [.bool xs[k].pos,.str xs[k].atom.name,.ow (xs[k].atom.args.map Tm.o)]:=by
   rw [←Lt.o_eq,hdr,List.getElem?_map,yZ (by omega),hd,Nat.sub_self]; rfl
  rw [hdr,Lt.wtS] at hkn
  rw [hdr,Lt.mkS] at hm
  have hn1:=Lt.wt_eq xs[k]
  have e2:=Tm.mkS_end xs[k].atom.args ((kk+1+1))
  have t0:=JY (k:=(kk+1)) (by omega) (by omega)
  have c64:=YQ xs[k].atom.args ((kk+1+1)) [.tree (xs[k].atom.args.map Tm.o) []] (by omega) (by omega) rfl
  have hs:=Ln Lt.o dn (xs.drop (k+1)) xs[k] (xs[k].mk1 kk).1 hd
  rw [Lt.mk1_o,← hdr] at hs
  have hgs:∀ a,((List.map Lt.o (dn++xs.drop k)).set k a)[k]?=some a:=fun a=>List.getElem?_set_self (by rw [zC,hel]; exact hlt)
  have he:=Lt.mk1_end xs[k] kk
  have three:∀ z:Int,dec ((3:Int)=0)=false:=fun _=>Ay (by omega)
  simp (disch:=omega) only [go_sem,Aa,hni,hel,hg,t0,c64,Gq,DS,hgs,List.length_set,List.set_set,hs,three 0]
  refine ⟨(i+1,(xs[k].mk1 kk).2,dn++[(xs[k].mk1 kk).1]),⟨k+1,by dsimp only; omega,hlt,by dsimp only; simp [hd],by dsimp only; omega,by dsimp only; omega,by rw [hm]; simp⟩,by dsimp only; omega,?_⟩
  dsimp only
  rw [hni1,Lt.mk1_eq]
  refine ⟨⟨?_,rfl⟩,rfl⟩
  first | rfl | omega
 ·obtain ⟨hd,hk1,hkn,hm⟩:=hR
  have hdr:xs.drop k=[]:=zI hge
  rw [hdr,Lt.mkS] at hm
  rw [hm]
  simp (disch:=omega) only [go_sem,Aa,hni,hdr,y7]
theorem LF (xs:List Lt):LE xs:=OI xs
end Go.Proofs.YtepbennkcbmgoaaGreatDoor
