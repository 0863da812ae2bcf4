/-
  Texts of this claim, one behind the other, each built on those ahead of it. No condition.
-/
import Derived.Test.YtgilfckaddklfaaK5b
import Derived.ProofKit
import Derived.Deep.Slices
import Derived.Deep.Fields
import Derived.ChangeSame
import Derived.OpenShut
import Derived.ShutString
import Derived.ChangeOld
set_option maxHeartbeats 16000000
open List renaming map_cons → zA, length_replicate → zB, drop_eq_nil_of_le → zC, drop_eq_getElem_cons → zD, replicate → zG, getElem_mem → zH, drop_zero → zJ, map_nil → zK, cons_append → zS, map_append → zT, getElem?_eq_getElem → zU, all_eq_true → zV, eq_nil_of_length_eq_zero → zW, set_cons_succ → zZ, range → z1, mem_cons → z2, set_cons_zero → z3, length_drop → z5, length_map → z6, any_cons → z8
open Bool renaming and_eq_true → zE, and_self → zF, true_and → zL, and_true → zQ, and_false → zY, false_and → z4, false_or → z9, and_comm → yA
open Nat renaming lt_or_ge → zI, eq_zero_or_pos → zN, zero_le → zO, le_refl → z0
open Option.some renaming injEq → zM, inj → zP
open Prod.mk renaming injEq → zR, inj → z7
open List.cons renaming injEq → zX
set_option maxRecDepth 100000
set_option linter.unusedSimpArgs false
set_option linter.unusedVariables false
set_option linter.unusedSectionVars false
namespace Go.Proofs.Ytgilfckaddklfaa
open Go.RowKit
def Mz:List (Nat × FM)→Nat→FM
 | [],_=>⟨[],.asis,none,false⟩
 | (f,m) :: r,g=>bif f == g then m else Mz r g
theorem MZ {l:List (Nat × FM)} {f:Nat} {g:List SV→List Ob→Option (SV × List Ob)} (h:(Mz l f).ext=some g):∃ m,(f,m)∈l∧m.ext=some g:=by
 induction l with
 | nil=>cases h
 | cons x r ih =>
  obtain ⟨f',m⟩:=x
  simp only [Mz] at h
  cases e:f' == f with
  | true =>
   rw [e] at h
   obtain rfl:f'=f:=by simpa using e
   exact ⟨m,by simp,h⟩
  | false =>
   rw [e] at h
   obtain ⟨m',h1,h2⟩:=ih h
   exact ⟨m',by simp [h1],h2⟩
noncomputable def Rz:List SV→Option SV
 | [.int .i64 k]=>bif dec (1≤k)&&dec (k≤1099511627776) then some (.str (Rm k)) else none
 | _=>none
def Oh:List SV→Option SV
 | [.str s]=>some (.bool (Ca s))
 | _=>none
theorem Na {xs:List SV} {r:SV} (h:Oh xs=some r):Fun Try.prog 54 xs [] r []:=by
 unfold Oh at h
 split at h
 ·rename_i s
  obtain rfl:=zP h
  refine Fun.of_same (rv:=.bool (Ca s)) (fun w I V=>by simp only [RepV]) fun w I V vs h=>?_
  obtain ⟨v,r,rfl,h3,h⟩:=F6 h
  obtain rfl:=Mw h
  obtain ⟨rfl,h4⟩:=HQ h3
  exact I9 s w h4
 ·cases h
def Oi:List SV→Option SV
 | [.str s]=>some (.bool (Ca s))
 | _=>none
theorem Nb {xs:List SV} {r:SV} (h:Oi xs=some r):Fun Try.prog 76 xs [] r []:=by
 unfold Oi at h
 split at h
 ·rename_i s
  obtain rfl:=zP h
  refine Fun.of_same (rv:=.bool (Ca s)) (fun w I V=>by simp only [RepV]) fun w I V vs h=>?_
  obtain ⟨v,r,rfl,h3,h⟩:=F6 h
  obtain rfl:=Mw h
  obtain ⟨rfl,h4⟩:=HQ h3
  exact MY s w h4
 ·cases h
def Oj:List SV→Option SV
 | [.str s]=>some (.bool (Dc s))
 | _=>none
theorem Nc {xs:List SV} {r:SV} (h:Oj xs=some r):Fun Try.prog 64 xs [] r []:=by
 unfold Oj at h
 split at h
 ·rename_i s
  obtain rfl:=zP h
  refine Fun.Of (rv:=.bool (Dc s)) (fun w I V=>by simp only [RepV]) fun w I V vs h=>?_
  obtain ⟨v,r,rfl,h3,h⟩:=F6 h
  obtain rfl:=Mw h
  obtain ⟨rfl,h4⟩:=HQ h3
  exact Kg s w h4
 ·cases h
def Ok:List SV→Option SV
 | [.str s]=>some (.bool (Dc s))
 | _=>none
theorem Nd {xs:List SV} {r:SV} (h:Ok xs=some r):Fun Try.prog 60 xs [] r []:=by
 unfold Ok at h
 split at h
 ·rename_i s
  obtain rfl:=zP h
  refine Fun.of_same (rv:=.bool (Dc s)) (fun w I V=>by simp only [RepV]) fun w I V vs h=>?_
  obtain ⟨v,r,rfl,h3,h⟩:=F6 h
  obtain rfl:=Mw h
  obtain ⟨rfl,h4⟩:=HQ h3
  exact Kh s w h4
 ·cases h
noncomputable def modes:FuncId→FM:=Mz [(54,⟨[],.asis,some (HG Oh),false⟩),(76,⟨[],.asis,some (HG Oi),false⟩),(64,⟨[],.asis,some (HG Oj),false⟩),(60,⟨[],.asis,some (HG Ok),false⟩),(41,⟨[],.own [none,some (26,2)],none,false⟩),(70,⟨[],.half [none,some (26,2)],none,false⟩),(42,⟨[],.half [none,some (26,2)],none,false⟩),(67,⟨[],.half [none,some (26,2)],none,false⟩),(88,⟨[],.half [none,some (26,2)],none,false⟩),(96,⟨[],.half [none,some (26,2)],none,false⟩),(68,⟨[],.half [none,some (26,2)],none,false⟩),(39,⟨[],.half [none,some (26,2)],none,false⟩),(28,⟨[],.frz,none,false⟩),(17,⟨[],.frz,none,false⟩),(16,⟨[],.frz,none,false⟩),(18,⟨[],.frz,none,false⟩)]
theorem noExt {l:List (Nat × FM)} (h:(l.all fun p=>p.2.ext.isNone)=true) {f:Nat} {m:FM} {g:List SV→List Ob→Option (SV × List Ob)} (h1:(f,m)∈l) (h2:m.ext=some g):False:=by
 have h3:=zV.1 h _ h1
 rw [h2] at h3
 cases h3
theorem LK:HP Try.prog modes:=by
 intro f g xs ob r ob' hg hx
 obtain ⟨m,h1,h2⟩:=MZ hg
 rcases z2.1 h1 with h1 | h1
 ·obtain ⟨rfl,rfl⟩:=z7 h1
  obtain rfl:=zP h2
  exact F4 Na hx
 rcases z2.1 h1 with h1 | h1
 ·obtain ⟨rfl,rfl⟩:=z7 h1
  obtain rfl:=zP h2
  exact F4 Nb hx
 rcases z2.1 h1 with h1 | h1
 ·obtain ⟨rfl,rfl⟩:=z7 h1
  obtain rfl:=zP h2
  exact F4 Nc hx
 rcases z2.1 h1 with h1 | h1
 ·obtain ⟨rfl,rfl⟩:=z7 h1
  obtain rfl:=zP h2
  exact F4 Nd hx
 exact (noExt rfl h1 h2).elim
noncomputable def E:FEnv:=ev Try.prog modes
noncomputable def calls:CallF:=BR modes E
theorem Qu {f:FuncId} {xs:List SV} {ob:List Ob} {r:SV} {ob':List Ob} (h:E f xs ob=some (r,ob')):Fun Try.prog f xs ob r ob':=Pu Qq LK f xs ob r ob' h
noncomputable def run (n0:Nat):SC→St→Option (X × St):=fr Try.prog calls (Gh n0)
def go (n0:Nat) (sc:SC) (st:St) (K:X→St→Prop):Prop:=∃ x st',run n0 sc st=some (x,st')∧K x st'
def P0 (n0:Nat) (b:SC) (K:X→St→Prop):X→St→Prop
 | .normal,st=>go n0 b st K
 | .exit i,st=>K (.exit i) st
 | .ret,st=>K .ret st
def blk (id:Nat) (K:X→St→Prop):X→St→Prop
 | .normal,st=>K .normal st
 | .exit i,st=>if i=id then K .normal st else K (.exit i) st
 | .ret,st=>K .ret st
def Ol (r:Option St) (k:X→St→Prop):Prop :=
 match r with
 | some st=>k .normal st
 | none=>False
def Om (anc:List (List Nat)) (r:Option (List Ent × St)) (k:X→St→Prop):Prop :=
 match r with
 | some (es,st)=>obB anc [] (FX es) 0=true∧k .normal st
 | none=>False
def IA (v:SV) (a b:Unit→Prop):Prop :=
 match v with
 | .bool true=>a ()
 | .bool false=>b ()
 | _=>False
noncomputable def LL (ops:List SOper) (st:St):Option St:=Ir Try.prog calls ops st
noncomputable def LM (ops:List SOper) (acc:List Ent) (st:St):Option (List Ent × St):=Ek Try.prog calls ops acc st
section
variable {n0:Nat} {st:St} {K:X→St→Prop}
theorem go_skip:go n0 .skip st K=K .normal st:=by
 refine propext ⟨fun ⟨x,st',h,k⟩=>?_,fun k=>⟨_,_,rfl,k⟩⟩
 obtain ⟨rfl,rfl⟩:X.normal=x∧st=st':=by simpa [run,fr] using h
 exact k
theorem P1 {i:Nat}:go n0 (.exit i) st K=K (.exit i) st:=by
 refine propext ⟨fun ⟨x,st',h,k⟩=>?_,fun k=>⟨_,_,rfl,k⟩⟩
 obtain ⟨rfl,rfl⟩:X.exit i=x∧st=st':=by simpa [run,fr] using h
 exact k
theorem go_ret:go n0 .ret st K=K .ret st:=by
 refine propext ⟨fun ⟨x,st',h,k⟩=>?_,fun k=>⟨_,_,rfl,k⟩⟩
 obtain ⟨rfl,rfl⟩:X.ret=x∧st=st':=by simpa [run,fr] using h
 exact k
theorem Qv {ops:List SOper}:go n0 (.reg ops) st K=Ol (LL ops st) K:=by
 unfold Ol LL
 refine propext ⟨fun ⟨x,st',h,k⟩=>?_,fun k=>?_⟩
 ·simp only [run,fr] at h
  split at h
  ·rename_i s hs
   simp only [zM,zR] at h
   obtain ⟨rfl,rfl⟩:=h
   first | exact k | (simp only [hs]; exact k)
  ·cases h
 ·split at k
  ·rename_i s hs
   exact ⟨.normal,s,by simp only [run,fr,hs],k⟩
  ·exact k.elim
theorem P2 {anc:List (List Nat)} {ops:List SOper}:go n0 (.dreg anc ops) st K=Om anc (LM ops [] st) K:=by
 unfold Om LM
 refine propext ⟨fun ⟨x,st',h,k⟩=>?_,fun k=>?_⟩
 ·simp only [run,fr] at h
  split at h
  ·rename_i es s hs
   obtain ⟨h1,h2⟩:=At h
   simp only [zM,zR] at h2
   obtain ⟨rfl,rfl⟩:=h2
   first | exact ⟨h1,k⟩ | (simp only [hs]; exact ⟨h1,k⟩)
  ·cases h
 ·split at k
  ·rename_i es s hs
   exact ⟨.normal,s,by simp only [run,fr,hs,k.1,cond_true],k.2⟩
  ·exact k.elim
theorem Qw {a b:SC}:go n0 (.seq a b) st K=go n0 a st (P0 n0 b K):=by
 refine propext ⟨fun ⟨x,st',h,k⟩=>?_,fun ⟨x,st',h,k⟩=>?_⟩
 ·simp only [run,fr,BJ] at h
  split at h
  ·rename_i s hs
   exact ⟨.normal,s,hs,x,st',h,k⟩
  ·rename_i i s hs
   simp only [zM,zR] at h
   obtain ⟨rfl,rfl⟩:=h
   exact ⟨_,_,hs,k⟩
  ·rename_i s hs
   simp only [zM,zR] at h
   obtain ⟨rfl,rfl⟩:=h
   exact ⟨_,_,hs,k⟩
  ·cases h
 ·simp only [run] at h
  cases x with
  | normal =>
   obtain ⟨x2,st2,h2,k2⟩:=k
   exact ⟨x2,st2,by simp only [run,fr,BJ,h]; exact h2,k2⟩
  | exit i=>exact ⟨_,st',by simp only [run,fr,BJ,h],k⟩
  | ret=>exact ⟨_,st',by simp only [run,fr,BJ,h],k⟩
theorem On {id:Nat} {b:SC}:go n0 (.block id b) st K=go n0 b st (blk id K):=by
 refine propext ⟨fun ⟨x,st',h,k⟩=>?_,fun ⟨x,st',h,k⟩=>?_⟩
 ·simp only [run,fr,E4] at h
  split at h
  ·rename_i s hs
   simp only [zM,zR] at h
   obtain ⟨rfl,rfl⟩:=h
   exact ⟨.normal,s,hs,k⟩
  ·rename_i i s hs
   refine ⟨.exit i,s,hs,?_⟩
   simp only [blk]
   by_cases hi:i=id
   ·simp only [if_pos hi,zM,zR] at h ⊢
    obtain ⟨rfl,rfl⟩:=h
    exact k
   ·simp only [if_neg hi,zM,zR] at h ⊢
    obtain ⟨rfl,rfl⟩:=h
    exact k
  ·rename_i s hs
   simp only [zM,zR] at h
   obtain ⟨rfl,rfl⟩:=h
   exact ⟨_,s,hs,k⟩
  ·cases h
 ·simp only [run] at h
  cases x with
  | normal=>exact ⟨_,st',by simp only [run,fr,E4,h],k⟩
  | exit i =>
   simp only [blk] at k
   by_cases hi:i=id
   ·simp only [if_pos hi] at k
    exact ⟨.normal,st',by simp only [run,fr,E4,h,if_pos hi],k⟩
   ·simp only [if_neg hi] at k
    exact ⟨.exit i,st',by simp only [run,fr,E4,h,if_neg hi],k⟩
  | ret=>exact ⟨_,st',by simp only [run,fr,E4,h],k⟩
theorem Aa {q:SX} {a b:SC}:go n0 (.cond q a b) st K=IA (Ax (gets st.sl) q) (fun _=>go n0 a st K) (fun _=>go n0 b st K):=by
 unfold IA
 refine propext ⟨fun ⟨x,st',h,k⟩=>?_,fun k=>?_⟩
 ·simp only [run,fr] at h
  split at h
  ·rename_i t ht
   simp only [ht]
   cases t with
   | true=>exact ⟨x,st',h,k⟩
   | false=>exact ⟨x,st',h,k⟩
  ·cases h
 ·split at k
  ·rename_i ht
   obtain ⟨x,st',h,k⟩:=k
   exact ⟨x,st',by simp only [run,fr,ht,cond_true]; exact h,k⟩
  ·rename_i ht
   obtain ⟨x,st',h,k⟩:=k
   exact ⟨x,st',by simp only [run,fr,ht,cond_false]; exact h,k⟩
  ·exact k.elim
theorem P3 {a b:Unit→Prop}:IA (.bool true) a b=a ():=rfl
theorem P4 {a b:Unit→Prop}:IA (.bool false) a b=b ():=rfl
theorem P5 {t:Bool} {a b:Unit→Prop}:IA (.bool (!t)) a b=IA (.bool t) b a:=by cases t <;> rfl
theorem La {t:Bool} {a b:Unit→Prop} (h1:t=true→a ()) (h2:t=false→b ()):IA (.bool t) a b:=by
 cases t with
 | true=>exact h1 rfl
 | false=>exact h2 rfl
theorem Qx {b:SC}:P0 n0 b K .normal st=go n0 b st K:=rfl
theorem Qy {b:SC} {i:Nat}:P0 n0 b K (.exit i) st=K (.exit i) st:=rfl
theorem Qz {b:SC}:P0 n0 b K .ret st=K .ret st:=rfl
theorem Rn {id:Nat}:blk id K .normal st=K .normal st:=rfl
theorem Ro {id i:Nat}:blk id K (.exit i) st=if i=id then K .normal st else K (.exit i) st:=rfl
theorem Rp {id:Nat}:blk id K .ret st=K .ret st:=rfl
theorem P6:Ol (some st) K=K .normal st:=rfl
def quiet:List Ent→Bool
 | []=>true
 | ⟨_,_,[],_⟩ :: r=>quiet r
 | ⟨_,_,_ :: _,_⟩ :: _=>false
theorem IB {anc:List (List Nat)} {rd:List Nat} {j:Nat}:∀ {l:List Ent} {i:Nat},quiet l=true→Lr anc rd [] j (FX l) i=true
 | [],i,_=>rfl
 | ⟨_,_,[],rdi⟩ :: r,i,h=>by
  have:=IB (anc:=anc) (rd:=rd) (j:=j) (l:=r) (i:=i+1) h
  simp only [FX,zA,zK] at this ⊢
  simp only [Lr,this,zQ]
  have e1:meets [] (rd++[])=false:=rfl
  have e2:meets rdi []=false:=by cases rdi <;> simp [meets]
  rw [e1,e2]; rfl
theorem Nf {l l':List Ent} (h:quiet l=true) (h':quiet l'=true):quiet (l++l')=true:=by
 induction l with
 | nil=>exact h'
 | cons x r ih =>
  obtain ⟨a,b,c,d⟩:=x
  cases c with
  | nil=>exact ih h
  | cons _ _=>cases h
theorem JH {anc:List (List Nat)}:∀ {l pre:List Ent} {j:Nat},quiet pre=true→quiet l=true→obB anc (FX pre) (FX l) j=true
 | [],pre,j,_,_=>rfl
 | ⟨a,b,[],rd⟩ :: r,pre,j,hp,h=>by
  have e:=JH (anc:=anc) (l:=r) (pre:=pre++[⟨a,b,[],rd⟩]) (j:=j+1) (Nf hp rfl) h
  have e2:=IB (anc:=anc) (rd:=rd) (j:=j) (i:=0) hp
  simp only [FX,zT,zA,zK] at e e2 ⊢
  simp only [obB,e2,e,zF]
theorem P7 {anc:List (List Nat)} {es:List Ent}:Om anc (some (es,st)) K=match quiet es with
  | true=>K .normal st
  | false=>obB anc [] (FX es) 0=true∧K .normal st:=by
 show (obB anc [] (FX es) 0=true∧K .normal st)=_
 cases h:quiet es with
 | true=>exact propext ⟨fun h=>h.2,fun h'=>⟨JH (pre:=[]) rfl h,h'⟩⟩
 | false=>rfl
noncomputable def Q0 (r:List SOper) (e:Option (Ent × St)):Option St :=
 match e with
 | some (_,st)=>LL r st
 | none=>none
noncomputable def Q1 (r:List SOper) (acc:List Ent) (e:Option (Ent × St)):Option (List Ent × St) :=
 match e with
 | some (x,st)=>LM r (acc++[x]) st
 | none=>none
noncomputable def opF (so:SOp) (sl:List SV) (ob:List Ob):Option R3:=fOp Try.prog calls so sl ob
theorem Oo:LL [] st=some st:=rfl
theorem Ng {d:Option Tmp} {so:SOp} {r:List SOper} {sl:List SV} {ob:List Ob}:LL (⟨d,none,so⟩ :: r) ⟨sl,ob⟩=Q0 r (FB d ⟨sl,ob⟩ (opF so sl ob)):=rfl
noncomputable def gdF (d:Option Tmp) (so:SOp) (want:Bool) (sl:List SV) (ob:List Ob) (v:SV):Option (Ent × St) :=
 match v with
 | .bool b=>bif L5 b want then FB d ⟨sl,ob⟩ (opF so sl ob) else some (⟨false,.tup [],[],[]⟩,⟨Dw sl d (.tup []),ob⟩)
 | .tup []=>some (⟨false,.tup [],[],[]⟩,⟨Dw sl d (.tup []),ob⟩)
 | _=>none
theorem P8 {d:Option Tmp} {k:Nat} {want:Bool} {so:SOp} {r:List SOper} {sl:List SV} {ob:List Ob}:LL (⟨d,some (k,want),so⟩ :: r) ⟨sl,ob⟩=Q0 r (gdF d so want sl ob (gets sl k)):=rfl
theorem Oq {acc:List Ent}:LM [] acc st=some (acc,st):=rfl
theorem Nh {d:Option Tmp} {so:SOp} {r:List SOper} {acc:List Ent} {sl:List SV} {ob:List Ob}:LM (⟨d,none,so⟩ :: r) acc ⟨sl,ob⟩=Q1 r acc (FB d ⟨sl,ob⟩ (opF so sl ob)):=rfl
theorem P9 {d:Option Tmp} {k:Nat} {want:Bool} {so:SOp} {r:List SOper} {acc:List Ent} {sl:List SV} {ob:List Ob}:LM (⟨d,some (k,want),so⟩ :: r) acc ⟨sl,ob⟩=Q1 r acc (gdF d so want sl ob (gets sl k)):=rfl
theorem Q2 {r:List SOper} {e:Ent}:Q0 r (some (e,st))=LL r st:=rfl
theorem Q3 {r:List SOper} {acc:List Ent} {e:Ent}:Q1 r acc (some (e,st))=LM r (acc++[e]) st:=rfl
theorem Rq {d:Option Tmp} {so:SOp} {sl:List SV} {ob:List Ob}:gdF d so true sl ob (.bool true)=FB d ⟨sl,ob⟩ (opF so sl ob):=rfl
theorem Q4 {d:Option Tmp} {so:SOp} {sl:List SV} {ob:List Ob}:gdF d so false sl ob (.bool false)=FB d ⟨sl,ob⟩ (opF so sl ob):=rfl
theorem Q5 {d:Option Tmp} {so:SOp} {sl:List SV} {ob:List Ob}:gdF d so true sl ob (.bool false)=some (⟨false,.tup [],[],[]⟩,⟨Dw sl d (.tup []),ob⟩):=rfl
theorem Q6 {d:Option Tmp} {so:SOp} {sl:List SV} {ob:List Ob}:gdF d so false sl ob (.bool true)=some (⟨false,.tup [],[],[]⟩,⟨Dw sl d (.tup []),ob⟩):=rfl
theorem Rr {d:Option Tmp} {so:SOp} {want:Bool} {sl:List SV} {ob:List Ob}:gdF d so want sl ob (.tup [])=some (⟨false,.tup [],[],[]⟩,⟨Dw sl d (.tup []),ob⟩):=rfl
theorem Q7 {d:Option Tmp} {x:SV} {rd:List Nat}:FB d st (some (x,[],rd))=some (⟨true,x,[],rd⟩,⟨Dw st.sl d x,st.ob⟩):=rfl
theorem Q8 {d:Option Tmp} {x:SV} {q:Nat × Ob} {u:List (Nat × Ob)} {rd:List Nat}:FB d st (some (x,q :: u,rd))=bif MO (Ci st.ob (q :: u)).length (q :: u) then some (⟨true,x,q :: u,rd⟩,⟨Dw st.sl d x,Ci st.ob (q :: u)⟩) else none:=rfl
def Lb (ob:List Ob) (xs:List SV) (sel:List Nat) (r:Option (SV × List Ob)) (n:Nat):Option R3 :=
 match r with
 | some (r,fob')=>bif decide (n≤fob'.length) then some (DI sel (AR sel xs) ob.length r fob') else none
 | none=>none
def Q9 (hd:List Bool) (f:FuncId) (xs:List SV) (ob:List Ob) (sel:List Nat) (e:List SV→List Ob→Option (SV × List Ob)) (b:Option (List Ob)):Option R3 :=
 match b with
 | some fob=>bif DX sel&&Ge ob.length sel&&E2 fob.length fob then Lb ob xs sel (e (DG hd (An ob) sel xs) fob) fob.length else none
 | none=>none
def Or (hd:List Bool) (f:FuncId) (xs:List SV) (ob:List Ob) (sel:List Nat) (e:List SV→List Ob→Option (SV × List Ob)):Option R3:=Q9 hd f xs ob sel e (Dl sel ob sel)
theorem Ot {f:FuncId} {xs:List SV} {ob:List Ob}:calls f xs ob=Ep (modes f).res (Or (modes f).hand f xs ob (reach ob 64 (Eo (modes f).hand xs) []) (E f)):=rfl
theorem QA {r:Option R3}:Ep .asis r=r:=rfl
theorem QB {r:Option R3}:Ep .frz r=r:=rfl
theorem QC {l:List (Option (Nat × Nat))} {r:Option R3}:Ep (.own l) r=r:=rfl
theorem QD {l:List (Option (Nat × Nat))} {r:Option R3}:Ep (.half l) r=r:=rfl
theorem QE {l:List (Option (Nat × Nat))} {r:Option R3}:Ep (.tr l) r=r:=rfl
theorem QF {l:List Nat} {r:Option R3}:Ep (.frl l) r=r:=rfl
theorem QG {r:R3}:Ep .late (some r)=KM r:=rfl
theorem Gj:∀ u:List (Nat × Ob),Cq [] u=u
 | []=>rfl
 | (g,o) :: u=>by rw [Cq,Gj u]; rfl
theorem QH {m:RM} {b:Bool} {u:List (Nat × Ob)} {rd:List Nat}:Ep m (some (.bool b,u,rd))=some (.bool b,u,rd):=by
 cases m <;> first | rfl | (show some (SV.bool b,Cq [] u,rd)=_; rw [Gj])
theorem QI {m:RM} {k:IntKind} {n:Int} {u:List (Nat × Ob)} {rd:List Nat}:Ep m (some (.int k n,u,rd))=some (.int k n,u,rd):=by
 cases m <;> first | rfl | (show some (SV.int k n,Cq [] u,rd)=_; rw [Gj])
theorem Ni {hd:List Bool} {f:FuncId} {xs:List SV} {ob:List Ob} {e:List SV→List Ob→Option (SV × List Ob)}:Or hd f xs ob [] e=Lb ob xs [] (e (DG hd (An ob) [] xs) []) 0:=rfl
theorem LN {hd:List Bool} {f:FuncId} {xs:List SV} {ob:List Ob} {g:Nat} {r:List Nat} {e:List SV→List Ob→Option (SV × List Ob)}:Or hd f xs ob (g :: r) e=Q9 hd f xs ob (g :: r) e (Dl (g :: r) ob (g :: r)):=rfl
theorem PA {ob:List Ob} {xs:List SV} {r:SV} {fob':List Ob}:Lb ob xs [] (some (r,fob')) 0=some (DI [] (AR [] xs) ob.length r fob'):=rfl
theorem PB {ob:List Ob} {xs:List SV} {sel:List Nat} {r:SV} {fob':List Ob} {n:Nat}:Lb ob xs sel (some (r,fob')) n=bif decide (n≤fob'.length) then some (DI sel (AR sel xs) ob.length r fob') else none:=rfl
theorem QJ {hd:List Bool} {f:FuncId} {xs:List SV} {ob:List Ob} {sel:List Nat} {fob:List Ob} {e:List SV→List Ob→Option (SV × List Ob)}:Q9 hd f xs ob sel e (some fob)=bif DX sel&&Ge ob.length sel&&E2 fob.length fob then Lb ob xs sel (e (DG hd (An ob) sel xs) fob) fob.length else none:=rfl
theorem Nj {p:Nat} {r:SV}:DI [] [] p r []=(r.ren (sgp [] p),[],[]):=rfl
def Ki {α:Type} (n0:Nat) (keep:List Nat) (H:α→St) (R:α→Prop) (μ:α→Nat) (a:α) (K:X→St→Prop):X→St→Prop
 | .normal,st'=>∃ y,R y∧μ y < μ a∧canon n0 keep st'=H y
 | .exit i,st'=>K (.exit i) st'
 | .ret,st'=>K .ret st'
theorem Ou {α:Type} {keep:List Nat} {H:α→St} {R:α→Prop} {μ:α→Nat} {a:α} {st':St}:Ki n0 keep H R μ a K .normal st'=∃ y,R y∧μ y < μ a∧canon n0 keep st'=H y:=rfl
theorem Ov {α:Type} {keep:List Nat} {H:α→St} {R:α→Prop} {μ:α→Nat} {a:α} {i:Nat} {st':St}:Ki n0 keep H R μ a K (.exit i) st'=K (.exit i) st':=rfl
theorem Ow {α:Type} {keep:List Nat} {H:α→St} {R:α→Prop} {μ:α→Nat} {a:α} {st':St}:Ki n0 keep H R μ a K .ret st'=K .ret st':=rfl
theorem go_loop {α:Type} {keep:List Nat} {b:SC} (H:α→St) (R:α→Prop) (μ:α→Nat) (a0:α) (hR:R a0) (h0:canon n0 keep st=H a0) (round:∀ a,R a→go n0 b (H a) (Ki n0 keep H R μ a K)):go n0 (.loop keep b) st K:=by
 have key:∀ (n:Nat) (a:α) (st:St),μ a≤n→R a→canon n0 keep st=H a→∃ x st',JD n0 keep (run n0 b) st=some (x,st')∧K x st':=by
  intro n
  induction n with
  | zero =>
   intro a st hn hR hc
   obtain ⟨x,st',h,k⟩:=round a hR
   cases x with
   | normal =>
    obtain ⟨y,_,h2,_⟩:=k
    omega
   | exit i=>exact ⟨_,st',by rw [Fc,hc,h]; rfl,k⟩
   | ret=>exact ⟨_,st',by rw [Fc,hc,h]; rfl,k⟩
  | succ n ih =>
   intro a st hn hR hc
   obtain ⟨x,st',h,k⟩:=round a hR
   cases x with
   | normal =>
    obtain ⟨y,h1,h2,h3⟩:=k
    obtain ⟨x2,st2,h4,k2⟩:=ih y st' (by omega) h1 h3
    exact ⟨x2,st2,by rw [Fc,hc,h]; exact h4,k2⟩
   | exit i=>exact ⟨_,st',by rw [Fc,hc,h]; rfl,k⟩
   | ret=>exact ⟨_,st',by rw [Fc,hc,h]; rfl,k⟩
 exact key (μ a0) a0 st (z0 _) hR h0
def Kj (n0:Nat) (keep keepO:List Nat) (H:EL→St) (F:X × St) (p:EL):X→St→Prop
 | .normal,st'=>canon n0 keep st'=H p
 | .exit i,st'=>F=(.exit i,canon n0 keepO st')
 | .ret,st'=>F=(.ret,canon n0 keepO st')
def Qa (n0:Nat) (keepO:List Nat) (F:X × St):X→St→Prop
 | .normal,_=>False
 | .exit i,st'=>F=(.exit i,canon n0 keepO st')
 | .ret,st'=>F=(.ret,canon n0 keepO st')
theorem Nk {keep keepO:List Nat} {H:EL→St} {F:X × St} {p:EL} {st':St}:Kj n0 keep keepO H F p .normal st'=(canon n0 keep st'=H p):=rfl
theorem Nl {keep keepO:List Nat} {H:EL→St} {F:X × St} {p:EL} {i:Nat} {st':St}:Kj n0 keep keepO H F p (.exit i) st'=(F=(.exit i,canon n0 keepO st')):=rfl
theorem Nm {keep keepO:List Nat} {H:EL→St} {F:X × St} {p:EL} {st':St}:Kj n0 keep keepO H F p .ret st'=(F=(.ret,canon n0 keepO st')):=rfl
theorem PC {keepO:List Nat} {F:X × St} {i:Nat} {st':St}:Qa n0 keepO F (.exit i) st'=(F=(.exit i,canon n0 keepO st')):=rfl
theorem PD {keepO:List Nat} {F:X × St} {st':St}:Qa n0 keepO F .ret st'=(F=(.ret,canon n0 keepO st')):=rfl
end
def slots:Nat→Nat→List (Nat × SV)→List SV
 | 0,_,_=>[]
 | n+1,k,[]=>.any :: slots n (k+1) []
 | n+1,k,(j,x) :: r=>bif j == k then x :: slots n (k+1) r else .any :: slots n (k+1) ((j,x) :: r)
def PE (res:RM) (n0:Nat) (rs:List RX) (out:SV × List Ob) (x:X) (st:St):Prop:=fin res n0 rs x st=some out
def QK (res:RM) (n0:Nat) (r:Option (SV × List Ob)):Option (SV × List Ob) :=
 match r with
 | some (r,ob)=>order res n0 r ob
 | none=>none
def Lc (res:RM) (n0:Nat) (ob:List Ob) (r:Option SV):Option (SV × List Ob) :=
 match r with
 | some r0=>QK res n0 (gc n0 r0 ob)
 | none=>none
theorem QL {res:RM} {n0:Nat} {rs:List RX} {out:SV × List Ob} {sl:List SV} {ob:List Ob}:PE res n0 rs out .ret ⟨sl,ob⟩=(Lc res n0 ob (IY ⟨sl,ob⟩ rs)=some out):=rfl
theorem QM {res:RM} {n0:Nat} {rs:List RX} {out:SV × List Ob} {sl:List SV} {ob:List Ob}:PE res n0 rs out .normal ⟨sl,ob⟩=(Lc res n0 ob (IY ⟨sl,ob⟩ rs)=some out):=rfl
theorem PF {res:RM} {n0:Nat} {ob:List Ob} {r:SV}:Lc res n0 ob (some r)=QK res n0 (gc n0 r ob):=rfl
theorem QN {n0:Nat} {r:SV} {ob:List Ob} {res:RM}:QK res n0 (some (r,ob))=order res n0 r ob:=rfl
theorem Al {f:FuncId} {fc:FC} {hand:List Bool} {res:RM} {tr:Bool} {xs:List SV} {ob:List Ob} {out:SV × List Ob} (hc:A2 Try.prog f=some fc) (hr:modes f=⟨hand,res,none,tr⟩) (hn:xs.length≤fc.nt) (h:go ob.length (DJ res fc.sc) ⟨xs++G6 (fc.nt-xs.length),entry tr ob⟩ (PE res ob.length fc.rs out)):E f xs ob=some out:=by
 obtain ⟨x,st',h1,h2⟩:=h
 unfold E
 rw [PY]
 unfold DK
 rw [hc,hr]
 simp only
 rw [decide_eq_true hn,cond_true]
 have h1:fr Try.prog (BR modes (ev Try.prog modes)) (Gh ob.length) (DJ res fc.sc) ⟨xs++G6 (fc.nt-xs.length),entry tr ob⟩=some (x,st'):=h1
 rw [h1]
 exact h2
theorem QO {f:FuncId} {g:List SV→List Ob→Option (SV × List Ob)} {xs:List SV} {ob:List Ob} (hg:(modes f).ext=some g):E f xs ob=g xs ob:=by
 unfold E
 rw [PY]
 unfold DK
 rw [hg]
theorem M0 {f:FuncId} {g:List SV→Option SV} {xs:List SV} {r:SV} (hg:(modes f).ext=some (HG g)) (h:g xs=some r):E f xs []=some (r,[]):=by
 rw [QO hg]
 simp only [HG,h]
theorem BA:modes 54=⟨[],.asis,some (HG Oh),false⟩:=by unfold modes; rfl
theorem GA (s:ByteArray):E 54 [.str s] []=some (.bool (Ca s),[]):=M0 (g:=Oh) (congrArg FM.ext BA) rfl
theorem C7:modes 76=⟨[],.asis,some (HG Oi),false⟩:=by unfold modes; rfl
theorem PG (s:ByteArray):E 76 [.str s] []=some (.bool (Ca s),[]):=M0 (g:=Oi) (congrArg FM.ext C7) rfl
theorem AV:modes 64=⟨[],.asis,some (HG Oj),false⟩:=by unfold modes; rfl
theorem IC (s:ByteArray):E 64 [.str s] []=some (.bool (Dc s),[]):=M0 (g:=Oj) (congrArg FM.ext AV) rfl
theorem AW:modes 60=⟨[],.asis,some (HG Ok),false⟩:=by unfold modes; rfl
theorem ID (s:ByteArray):E 60 [.str s] []=some (.bool (Dc s),[]):=M0 (g:=Ok) (congrArg FM.ext AW) rfl
abbrev Tm.sv (x:Tm):SV:=.agg [.str x.name,.arr (x.args.map Tm.d)]
mutual
def Tm.o:Tm→List OT
 | .mk name args=>[.str name,.ow (Tm.os args)]
def Tm.os:List Tm→List (List OT)
 | []=>[]
 | x :: xs=>Tm.o x :: Tm.os xs
end
theorem Tm.Qb:∀ xs:List Tm,Tm.os xs=xs.map Tm.o
 | []=>rfl
 | x :: xs=>by rw [Tm.os,Tm.Qb xs]; rfl
theorem Tm.IE (x:Tm):Tm.o x=[.str x.name,.ow (x.args.map Tm.o)]:=by
 obtain ⟨name,args⟩:=x
 rw [Tm.o,Tm.Qb]; rfl
theorem Tm.LO:∀ xs:List Tm,(∀ x∈xs,OT.ers (Tm.o x)=Tm.d x)→OT.erss (xs.map Tm.o)=xs.map Tm.d
 | [],_=>rfl
 | x :: xs,h=>by
  simp only [zA,OT.erss]
  rw [h x (by simp),Tm.LO xs fun y hy=>h y (by simp [hy])]
theorem Tm.er (x:Tm):OT.ers (Tm.o x)=Tm.d x:=by
 have h:=Tm.LO x.args fun y hy=>Tm.er y
 rw [Tm.IE,Tm.E7]
 simp only [OT.ers,OT.er,h]
termination_by SizeOf.sizeOf x
decreasing_by exact Tm.Bj hy
theorem Tm.erss (xs:List Tm):OT.erss (xs.map Tm.o)=xs.map Tm.d:=Tm.LO xs fun x _=>Tm.er x
theorem Tm.LP:∀ xs:List Tm,(∀ x∈xs,OT.Dx (Tm.o x)=true)→OT.BV (xs.map Tm.o)=true
 | [],_=>rfl
 | x :: xs,h=>by
  simp only [zA,OT.BV]
  rw [h x (by simp),Tm.LP xs fun y hy=>h y (by simp [hy])]; rfl
theorem Tm.no (x:Tm):OT.Dx (Tm.o x)=true:=by
 have h:=Tm.LP x.args fun y hy=>Tm.no y
 rw [Tm.IE]
 simp only [OT.Dx,OT.noSh,h,zF,zQ]
termination_by SizeOf.sizeOf x
decreasing_by exact Tm.Bj hy
theorem Tm.noss (xs:List Tm):OT.BV (xs.map Tm.o)=true:=Tm.LP xs fun x _=>Tm.no x
abbrev Tm.osv (x:Tm):SV:=.agg [.str x.name,.ref 0]
abbrev Tm.obs (x:Tm):List Ob:=[.row 26 2 (x.args.map Tm.o)]
def Bd.o (x:Bd):List OT:=[.str x.var,.str x.term.name,.ow (x.term.args.map Tm.o)]
theorem Bd.er (x:Bd):OT.ers (Bd.o x)=Bd.d x:=by
 simp only [Bd.o,Bd.d,OT.ers,OT.er,Tm.erss]
theorem Bd.erss:∀ xs:List Bd,OT.erss (xs.map Bd.o)=xs.map Bd.d
 | []=>rfl
 | x :: xs=>by simp only [zA,OT.erss,Bd.er,Bd.erss xs]
theorem Bd.no (x:Bd):OT.Dx (Bd.o x)=true:=by
 simp only [Bd.o,OT.Dx,OT.noSh,Tm.noss,zF,zQ]
theorem Bd.noss:∀ xs:List Bd,OT.BV (xs.map Bd.o)=true
 | []=>rfl
 | x :: xs=>by simp only [zA,OT.BV,Bd.no,Bd.noss xs,zF]
def Sb.o (x:Sb):List OT:=[.ow (x.binds.map Bd.o)]
theorem Sb.er (x:Sb):OT.ers (Sb.o x)=Sb.d x:=by
 simp only [Sb.o,Sb.d,OT.ers,OT.er,Bd.erss]
theorem Sb.erss:∀ xs:List Sb,OT.erss (xs.map Sb.o)=xs.map Sb.d
 | []=>rfl
 | x :: xs=>by simp only [zA,OT.erss,Sb.er,Sb.erss xs]
theorem Sb.no (x:Sb):OT.Dx (Sb.o x)=true:=by
 simp only [Sb.o,OT.Dx,OT.noSh,Bd.noss,zF,zQ]
theorem Sb.noss:∀ xs:List Sb,OT.BV (xs.map Sb.o)=true
 | []=>rfl
 | x :: xs=>by simp only [zA,OT.BV,Sb.no,Sb.noss xs,zF]
theorem Co {n:Int} (h1:-9223372036854775808≤n) (h2:n≤9223372036854775807):dec (inK .i64 n)=true:=BO (Pg.2 ⟨h1,h2⟩)
theorem get_at {α β:Type} (f:α→β) {xs:List α} {k:Nat} (h:k<xs.length):(xs.map f)[k]?=some (f xs[k]):=by rw [List.getElem?_map,zU h]; rfl
theorem Rs:dec True=true:=BO trivial
theorem Rt:dec False=false:=BP fun h=>h
attribute [go_sem] pfx De FL OT.BG OT.G8 OT.half QD Pr DG KD SV.isNil Ob.idsB SV.idsB SV.Hz List.getElem?_cons_zero List.getElem?_cons_succ OT.A6 OT.C4 OT.full entry toTree Mu KQ Mt Dm En CJ NP Jq NY OT.erss OT.ers OT.er OT.BV OT.Dx OT.noSh quiet obB Lr FX meets EO go_skip P1 go_ret Qv P2 Qw On P3 P4 P5 Qx Qy Qz Rn Ro Rp P6 P7 Oo Ng P8 Oq Nh P9 Q2 Q3 Rq Q4 Q5 Q6 Rr Q7 Q8 Ot QA QB QC QE QF QG QH QI KM KL Cq seen Ni LN PA PB QJ Nj DI Ou Ov Ow QL QM PF QN order opF fOp CY Mp Ph Mn Mo NO EV eqK Ax gets An IX Dw Ci Gz Ii A9 MO SV.cellsN SV.one FH splice Cu Ky FG Gx Cn Bf Bu Be Ec EH Lu eOp.mkEs eOp.addS D.sv OT.sv D.ot Ei DX reach SV.refs SV.J2 SV.ptrs SV.J3 Ob.refs Ob.liveB Eo Dl SV.back SV.H0 Ob.back Eg EI B9 AR AS Ge E2 SV.ren SV.G3 Ob.ren mkU sgp gc H4 names G7 Pk Pl Pm Iy NZ Pn Po Pp Pq Ps Pt SC.mark J7 D0 slots IY L3 rxV G6 KK SV.noSh SV.Hw Ob.noSh SV.own SV.Kb Dz cond_true cond_false List.length_cons List.length_nil zA zK List.drop_succ_cons zJ List.drop_nil List.take_succ_cons List.take_zero List.take_nil List.append_nil List.nil_append zS List.all_cons List.all_nil List.getD_cons_zero List.getD_cons_succ z8 List.any_nil List.contains_cons List.contains_nil List.isEmpty_nil List.isEmpty_cons List.flatten_cons List.flatten_nil List.replicate_succ List.replicate_zero z3 zZ Nat.add_zero Nat.zero_add z0 zO zQ zL zF Bool.or_false z9 Bool.true_or Bool.or_true Bool.not_true Bool.not_false z4 zY decide_true decide_false beq_self_eq_true if_true if_false Option.map_some Option.map_none zM Option.getD_some Option.getD_none Int.toNat_natCast true_and and_true and_self eq_self_iff_true z6 Bool.false_eq_true Bool.true_eq_false zR SV.int.injEq SV.bool.injEq SV.str.injEq SV.agg.injEq SV.tup.injEq SV.arr.injEq zX St.mk.injEq Int.zero_add Rs Rt Co BO BP Rg svK svD N5 svM MV.sv Mc NQ NR NS DV St.app KS MK.sv Nk Nl Nm PC PD
attribute [go_sem_proc] Nat.reduceAdd Nat.reduceSub Nat.reduceLT Nat.reduceLeDiff Nat.reduceEqDiff Nat.reduceBEq Nat.reduceBneDiff Nat.reduceMul Int.reduceToNat Int.reduceNeg Int.reduceAdd reduceCtorEq
attribute [go_sem_proc ↓] reduceIte
theorem M1:∀ xs:List ByteArray,OT.A6 (xs.map fun s=>[OT.str s])=true
 | []=>rfl
 | x :: xs=>by simp only [zA,OT.A6,OT.C4,OT.full,M1 xs,zF]
theorem M2:∀ xs:List Int,OT.A6 (xs.map fun n=>[OT.int n])=true
 | []=>rfl
 | x :: xs=>by simp only [zA,OT.A6,OT.C4,OT.full,M2 xs,zF]
theorem Tm.Ox:∀ xs:List Tm,(∀ x∈xs,OT.C4 (Tm.o x)=true)→OT.A6 (xs.map Tm.o)=true
 | [],_=>rfl
 | x :: xs,h=>by
  simp only [zA,OT.A6]
  rw [h x (by simp),Tm.Ox xs fun y hy=>h y (by simp [hy])]; rfl
theorem Tm.fu (x:Tm):OT.C4 (Tm.o x)=true:=by
 have h:=Tm.Ox x.args fun y hy=>Tm.fu y
 rw [Tm.IE]
 simp only [OT.C4,OT.full,h,zF,zQ]
termination_by SizeOf.sizeOf x
decreasing_by exact Tm.Bj hy
theorem Tm.fus (xs:List Tm):OT.A6 (xs.map Tm.o)=true:=Tm.Ox xs fun x _=>Tm.fu x
theorem Bd.fu (x:Bd):OT.C4 (Bd.o x)=true:=by
 simp only [Bd.o,OT.C4,OT.full,Tm.fus,zF,zQ]
theorem Bd.fus:∀ xs:List Bd,OT.A6 (xs.map Bd.o)=true
 | []=>rfl
 | x :: xs=>by simp only [zA,OT.A6,Bd.fu,Bd.fus xs,zF]
theorem Sb.fu (x:Sb):OT.C4 (Sb.o x)=true:=by
 simp only [Sb.o,OT.C4,OT.full,Bd.fus,zF,zQ]
theorem Sb.fus:∀ xs:List Sb,OT.A6 (xs.map Sb.o)=true
 | []=>rfl
 | x :: xs=>by simp only [zA,OT.A6,Sb.fu,Sb.fus xs,zF]
attribute [go_sem] M1 M2 Pv Pw Px Py Tm.fus Tm.erss Tm.noss Bd.fus Bd.erss Bd.noss Sb.fus Sb.erss Sb.noss
theorem Ld {α:Type} (a:α):dec (a=a)=true:=BO rfl
section
variable {α β:Type} (f:α→β) (z:β) {xs:List α} {k:Nat}
end
theorem PH (a b:Int):(bif dec (a<b) then b else a)=max a b:=by
 by_cases h:a<b
 ·rw [BO h,cond_true,Int.max_eq_right (by omega)]
 ·rw [BP h,cond_false,Int.max_eq_left (by omega)]
def Jd {α:Type} (p:α→Bool):List α→Int→Int
 | [],_=>-1
 | x :: xs,i=>if p x then i else Jd p xs (i+1)
theorem Oy {α:Type} (p:α→Bool):∀ (xs:List α),dec (0≤Jd p xs 0)=xs.any p:=by
 have key:∀ (xs:List α) (i:Int),0≤i→(0≤Jd p xs i ↔ xs.any p=true):=by
  intro xs
  induction xs with
  | nil=>intro i h; simp [Jd]
  | cons x xs ih =>
   intro i h
   simp only [Jd,z8,Bool.or_eq_true]
   by_cases hp:p x=true
   ·simp [hp,h]
   ·rw [if_neg hp,ih (i+1) (by omega)]; simp [hp]
 intro xs
 cases h:xs.any p with
 | true=>exact BO ((key xs 0 (by omega)).2 h)
 | false=>exact BP fun h'=>by rw [(key xs 0 (by omega)).1 h'] at h; cases h
theorem Dd {p q:Prop} (h:p ↔ q):dec p=dec q:=by rw [propext h]
mutual
def Tm.nodes:Tm→Nat
 | .mk _ args=>1+Tm.Bg args
def Tm.Bg:List Tm→Nat
 | []=>0
 | x :: xs=>Tm.nodes x+Tm.Bg xs
end
theorem Tm.Av (x:Tm):x.nodes=1+Tm.Bg x.args:=by
 obtain ⟨name,args⟩:=x
 rw [Tm.nodes]; rfl
theorem Tm.Nn (x:Tm):1≤x.nodes:=by rw [Tm.Av]; omega
theorem Tm.Es:∀ (xs:List Tm) (k:Nat) (h:k<xs.length),xs[k].nodes≤Tm.Bg xs
 | [],k,h=>absurd h (by simp)
 | x :: xs,0,_=>by rw [Tm.Bg]; simp
 | x :: xs,k+1,h=>by
  have:=Tm.Es xs k (by simpa using h)
  rw [Tm.Bg]; simp only [List.getElem_cons_succ]; omega
mutual
def Tm.deep:Tm→Nat
 | .mk _ args=>Tm.DL args+1
def Tm.DL:List Tm→Nat
 | []=>0
 | x :: xs=>max (Tm.deep x) (Tm.DL xs)
end
theorem Tm.Kk (x:Tm):x.deep=Tm.DL x.args+1:=by
 obtain ⟨name,args⟩:=x
 rw [Tm.deep]; rfl
theorem Tm.Ff:∀ xs:List Tm,(∀ y∈xs,y.deep≤y.nodes)→Tm.DL xs≤Tm.Bg xs
 | [],_=>by simp [Tm.DL]
 | x :: xs,h=>by
  have h1:=h x (by simp)
  have h2:=Tm.Ff xs fun y hy=>h y (by simp [hy])
  rw [Tm.DL,Tm.Bg]; omega
theorem Tm.DY (x:Tm):x.deep≤x.nodes:=by
 rw [Tm.Kk,Tm.Av]
 have:=Tm.Ff x.args fun y hy=>Tm.DY y
 omega
termination_by SizeOf.sizeOf x
decreasing_by exact Tm.Bj hy
mutual
def Tm.names:Tm→Bool
 | .mk name args=>if Ca name then args.length == 0 else Dc name&&decide (args.length≤4)&&Tm.Dg args
def Tm.Dg:List Tm→Bool
 | []=>true
 | x :: xs=>Tm.names x&&Tm.Dg xs
end
theorem Tm.IF (x:Tm):x.names=if Ca x.name then x.args.length == 0 else Dc x.name&&decide (x.args.length≤4)&&Tm.Dg x.args:=by
 obtain ⟨name,args⟩:=x
 rw [Tm.names]; rfl
theorem Tm.F7:∀ xs:List Tm,Tm.Dg xs=xs.all Tm.names
 | []=>rfl
 | x :: xs=>by rw [Tm.Dg,Tm.F7 xs]; rfl
theorem Tm.length_le:∀ xs:List Tm,xs.length≤Tm.Bg xs
 | []=>z0 _
 | x :: xs=>by
  have:=Tm.length_le xs
  have:=Tm.Nn x
  rw [Tm.Bg]; simp only [List.length_cons]; omega
theorem Tm.B4 {xs:List Tm} {y:Tm} (h:y∈xs):y.nodes≤Tm.Bg xs:=by
 obtain ⟨k,hk,rfl⟩:=List.getElem_of_mem h
 exact Tm.Es xs k hk
def Tm.small (x:Tm):Bool:=decide (x.nodes≤30)&&decide (x.deep≤8)
def Tm.valid (x:Tm):Bool:=x.small&&x.names
noncomputable def Tm.eqn (x:Tm):Bool:=dec (x.name=⟨#[61]⟩)
noncomputable def Tm.atom (x:Tm):Bool:=if x.eqn then x.args.length == 2&&x.small&&Tm.Dg x.args else Dc x.name&&x.valid
theorem JI {xs:List Tm} (h:xs.length=2):Tm.Dg xs=((xs[0]'(by omega)).names&&(xs[1]'(by omega)).names):=by
 match xs,h with
 | [a,b],_=>simp [Tm.Dg]
mutual
def Tm.cap:Tm→Int
 | .mk _ xs=>Tm.Hh xs 1
def Tm.Hh:List Tm→Int→Int
 | [],n=>n
 | x :: xs,n=>if 30 < n then n else Tm.Hh xs (n+Tm.cap x)
end
theorem Tm.Oz (x:Tm):x.cap=Tm.Hh x.args 1:=by
 obtain ⟨n,xs⟩:=x
 rw [Tm.cap]; rfl
theorem Tm.JJ:∀ (xs:List Tm) (n:Int),(∀ x∈xs,1≤x.cap∧x.cap≤x.nodes∧(x.cap≤30→x.cap=x.nodes))→1≤n→n≤Tm.Hh xs n∧Tm.Hh xs n≤n+Tm.Bg xs∧(Tm.Hh xs n≤30→Tm.Hh xs n=n+Tm.Bg xs)
 | [],n,_,h=>by simp [Tm.Hh,Tm.Bg]
 | x :: xs,n,hx,h=>by
  rw [Tm.Hh,Tm.Bg]
  have h1:=hx x (by simp)
  split
  ·omega
  ·have:=Tm.JJ xs (n+x.cap) (fun y hy=>hx y (by simp [hy])) (by omega)
   omega
theorem Tm.GB (x:Tm):1≤x.cap∧x.cap≤x.nodes∧(x.cap≤30→x.cap=x.nodes):=by
 rw [Tm.Oz,Tm.Av]
 have:=Tm.JJ x.args 1 (fun y hy=>Tm.GB y) (by omega)
 omega
termination_by SizeOf.sizeOf x
decreasing_by exact Tm.Bj hy
mutual
def Tm.many:Tm→Int→Int
 | .mk _ xs,m=>Tm.Et xs m 1
def Tm.Et:List Tm→Int→Int→Int
 | [],_,n=>n
 | x :: xs,m,n=>if n≤m then Tm.Et xs m (n+Tm.many x (m-n)) else n
end
theorem Tm.M3 (x:Tm) (m:Int):x.many m=Tm.Et x.args m 1:=by
 obtain ⟨n,xs⟩:=x
 rw [Tm.many]; rfl
theorem Tm.IG (m:Int):∀ (xs:List Tm) (n:Int),(∀ x∈xs,∀ m,0≤m→1≤x.many m∧x.many m≤x.nodes∧(x.many m≤m→x.many m=x.nodes))→1≤n→n≤Tm.Et xs m n∧Tm.Et xs m n≤n+Tm.Bg xs∧(Tm.Et xs m n≤m→Tm.Et xs m n=n+Tm.Bg xs)
 | [],n,_,h=>by simp [Tm.Et,Tm.Bg]
 | x :: xs,n,hx,h=>by
  rw [Tm.Et,Tm.Bg]
  split
  ·have h1:=hx x (by simp) (m-n) (by omega)
   have:=Tm.IG m xs (n+x.many (m-n)) (fun y hy=>hx y (by simp [hy])) (by omega)
   omega
  ·omega
theorem Tm.F8 (x:Tm) (m:Int):1≤x.many m∧x.many m≤x.nodes∧(x.many m≤m→x.many m=x.nodes):=by
 rw [Tm.M3,Tm.Av]
 have:=Tm.IG m x.args 1 (fun y hy m _=>Tm.F8 y m) (by omega)
 omega
termination_by SizeOf.sizeOf x
decreasing_by exact Tm.Bj hy
def GC:SC:=(.seq (.reg [⟨some 1,none,.boxv 26 2 (.t 0)⟩,⟨(some 2),none,(.alloc 26 [(.str ⟨#[]⟩),.nil])⟩]) (.seq (.reg [⟨some 5,none,.faddr 0 (.t 1)⟩,⟨some 6,none,.load false 1 (.t 5)⟩,⟨(some 7),none,(.build [(.str ⟨#[]⟩),.nil] [(0,(1,(.t 6)))])⟩,⟨(some 3),none,(.alloc 26 [(.str ⟨#[]⟩),.nil])⟩,⟨none,none,(.store 2 (.t 3) (.t 7))⟩]) (.seq (.seq (.reg [⟨some 4,none,.mv (.c (.int .i64 0))⟩]) (.block 0 (.loop [0,1,1,1,1,0,0,0,0,0,0,0,0,0,0,0,0,0,0,0,0,0,0,0,0,0,0] (.seq (.seq (.reg [⟨some 8,none,.mv (.t 4)⟩,⟨some 9,none,.faddr 1 (.t 1)⟩,⟨some 10,none,.load false 1 (.t 9)⟩,⟨some 11,none,.len false (.t 10)⟩,⟨some 12,none,.bin .lss false (.t 8) (.t 11)⟩]) (.cond (.t 12) .skip (.exit 0))) (.seq (.block 1 (.dreg [[],[0],[],[2],[],[3,2,4],[5,3,2,4],[6,5,3,2,4],[7,6,5,3,2,4],[1,0,8,7,6,5,3,2,4],[0,1,2,3,4,5,6,7,8,9],[10,0,1,2,3,4,5,6,7,8,9]] [⟨some 15,none,.faddr 1 (.t 3)⟩,⟨some 16,none,.load false 1 (.t 15)⟩,⟨some 17,none,.faddr 1 (.t 1)⟩,⟨some 18,none,.load false 1 (.t 17)⟩,⟨some 19,none,.mv (.t 4)⟩,⟨some 20,none,.iaddr 2 (.t 18) (.t 19)⟩,⟨some 21,none,.load true 2 (.t 20)⟩,⟨some 22,none,.call 41 [(.t 21)]⟩,⟨(some 23),none,(.mkrow 26 2 [(.str ⟨#[]⟩),.nil] 1 [(0,(.t 22))])⟩,⟨(some 24),none,(.append 26 2 40 [(.str ⟨#[]⟩),.nil] (.t 16) (.t 23))⟩,⟨some 25,none,.faddr 1 (.t 3)⟩,⟨none,none,(.store 1 (.t 25) (.t 24))⟩])) (.reg [⟨some 13,none,.mv (.t 4)⟩,⟨some 14,none,.bin .add false (.t 13) (.c (.int .i64 1))⟩,⟨some 4,none,.mv (.t 14)⟩])))))) (.seq (.reg [⟨some 26,none,.load true 2 (.t 3)⟩,⟨none,none,(.store 2 (.t 2) (.t 26))⟩]) .ret))))
theorem Kl:A2 Try.prog 41=some ⟨27,GC,[(.cell 2 true 2)]⟩:=by kernel_rfl
theorem BB:modes 41=⟨[],.own [none,some (26,2)],none,false⟩:=by unfold modes; rfl
def QP (res:RM) (n0:Nat) (rs:List RX) (Q:SV × List Ob→Prop) (x:X) (st:St):Prop:=∃ out,PE res n0 rs out x st∧Q out
theorem exq {α:Type} {a:α} {Q:α→Prop}:(∃ out,some a=some out∧Q out)=Q a:=propext ⟨fun ⟨o,h,q⟩=>by obtain rfl:=zP h; exact q,fun q=>⟨a,rfl,q⟩⟩
theorem QQ {res:RM} {n0:Nat} {rs:List RX} {Q:SV × List Ob→Prop} {sl:List SV} {ob:List Ob}:QP res n0 rs Q .ret ⟨sl,ob⟩=∃ out,Lc res n0 ob (IY ⟨sl,ob⟩ rs)=some out∧Q out:=rfl
theorem QR {res:RM} {n0:Nat} {rs:List RX} {Q:SV × List Ob→Prop} {sl:List SV} {ob:List Ob}:QP res n0 rs Q .normal ⟨sl,ob⟩=∃ out,Lc res n0 ob (IY ⟨sl,ob⟩ rs)=some out∧Q out:=rfl
theorem AO {f:FuncId} {fc:FC} {hand:List Bool} {res:RM} {tr:Bool} {xs:List SV} {ob:List Ob} {Q:SV × List Ob→Prop} (hc:A2 Try.prog f=some fc) (hr:modes f=⟨hand,res,none,tr⟩) (hn:xs.length≤fc.nt) (h:go ob.length (DJ res fc.sc) ⟨xs++G6 (fc.nt-xs.length),entry tr ob⟩ (QP res ob.length fc.rs Q)):∃ out,E f xs ob=some out∧Q out:=by
 obtain ⟨x,st',h1,out,h2,h3⟩:=h
 exact ⟨out,Al hc hr hn ⟨x,st',h1,h2⟩,h3⟩
attribute [go_sem] QQ QR exq
def Tm.osh (x:Tm):List OT:=[.str x.name,.sh (x.args.map Tm.d)]
theorem Tm.IH (x:Tm):x.osh=[.str x.name,.sh (x.args.map Tm.d)]:=rfl
theorem Tm.Fg:∀ xs:List Tm,OT.A6 (xs.map Tm.osh)=true
 | []=>rfl
 | x :: xs=>by rw [zA,Tm.IH]; simp [OT.A6,OT.C4,OT.full,Tm.Fg xs]
theorem Tm.Hi:∀ xs:List Tm,OT.erss (xs.map Tm.osh)=xs.map Tm.d
 | []=>rfl
 | x :: xs=>by rw [zA,zA,Tm.IH,Tm.E7]; simp [OT.erss,OT.ers,OT.er,Tm.Hi xs]
theorem O0 {α β:Type} (f:α→β) {xs:List α} {k:Nat} (h:k<xs.length):(xs.take k).map f++[f xs[k]]=(xs.take (k+1)).map f:=by
 rw [List.take_succ_eq_append_getElem h,zT]; rfl
def C8:SC:=(.seq (.reg [⟨some 2,none,.mv (.c (.int .i64 0))⟩]) (.seq (.reg [⟨some 3,none,.mv (.c (.int .i64 0))⟩]) (.seq (.seq (.dreg [[],[0],[1,0],[2,1,0],[],[4],[5,4],[6,5,4],[7,6,5,4],[3,2,1,0,8,7,6,5,4]] [⟨some 4,none,.mv (.t 0)⟩,⟨some 5,none,.nilchk (.t 4)⟩,⟨some 6,none,.faddr 1 (.t 5)⟩,⟨some 7,none,.load false 1 (.t 6)⟩,⟨some 8,none,.mv (.t 0)⟩,⟨some 9,none,.nilchk (.t 8)⟩,⟨some 10,none,.faddr 0 (.t 9)⟩,⟨some 11,none,.load false 1 (.t 10)⟩,⟨some 12,none,.len false (.t 11)⟩,⟨some 13,none,.bin .lss false (.t 7) (.t 12)⟩]) (.cond (.t 13) (.dreg [[],[0],[1,0],[2,1,0],[],[4],[5,4],[6,5,4],[3,2,1,0,7,6,5,4],[8,3,2,1,0,7,6,5,4],[9,8,3,2,1,0,7,6,5,4],[10,9,8,3,2,1,0,7,6,5,4]] [⟨some 14,none,.mv (.t 0)⟩,⟨some 15,none,.nilchk (.t 14)⟩,⟨some 16,none,.faddr 0 (.t 15)⟩,⟨some 17,none,.load false 1 (.t 16)⟩,⟨some 18,none,.mv (.t 0)⟩,⟨some 19,none,.nilchk (.t 18)⟩,⟨some 20,none,.faddr 1 (.t 19)⟩,⟨some 21,none,.load false 1 (.t 20)⟩,⟨some 22,none,.iaddr 1 (.t 17) (.t 21)⟩,⟨some 23,none,.load false 1 (.t 22)⟩,⟨some 24,none,.conv .i64 (.t 23)⟩,⟨some 3,none,.mv (.t 24)⟩]) .skip)) (.seq (.reg [⟨some 25,none,.mv (.t 0)⟩,⟨some 26,none,.nilchk (.t 25)⟩,⟨some 27,none,.faddr 1 (.t 26)⟩,⟨some 28,none,.load false 1 (.t 27)⟩,⟨some 29,none,.bin .add false (.t 28) (.c (.int .i64 1))⟩,⟨some 30,none,.nilchk (.t 25)⟩,⟨some 31,none,.faddr 1 (.t 30)⟩,⟨none,none,(.store 1 (.t 31) (.t 29))⟩]) (.seq (.reg [⟨some 32,none,.mv (.t 0)⟩,⟨some 33,none,.mv (.t 0)⟩,⟨some 34,none,.nilchk (.t 33)⟩,⟨some 35,none,.faddr 2 (.t 34)⟩,⟨some 36,none,.load false 1 (.t 35)⟩,⟨some 37,none,.bin .mul false (.t 36) (.c (.int .u64 6364136223846793005))⟩,⟨some 38,none,.mv (.t 3)⟩,⟨some 39,none,.conv .u64 (.t 38)⟩,⟨some 40,none,.bin .add false (.t 37) (.t 39)⟩,⟨some 41,none,.bin .add false (.t 40) (.c (.int .u64 892892))⟩,⟨some 42,none,.nilchk (.t 32)⟩,⟨some 43,none,.faddr 2 (.t 42)⟩,⟨none,none,(.store 1 (.t 43) (.t 41))⟩]) (.seq (.seq (.dreg [[],[0],[1,0],[2,1,0],[],[4],[5,4],[6,5,4],[7,6,5,4],[3,2,1,0,8,7,6,5,4]] [⟨some 44,none,.mv (.t 0)⟩,⟨some 45,none,.nilchk (.t 44)⟩,⟨some 46,none,.faddr 1 (.t 45)⟩,⟨some 47,none,.load false 1 (.t 46)⟩,⟨some 48,none,.mv (.t 0)⟩,⟨some 49,none,.nilchk (.t 48)⟩,⟨some 50,none,.faddr 0 (.t 49)⟩,⟨some 51,none,.load false 1 (.t 50)⟩,⟨some 52,none,.len false (.t 51)⟩,⟨some 53,none,.bin .leq false (.t 47) (.t 52)⟩]) (.cond (.t 53) (.seq (.reg [⟨some 54,none,.mv (.t 3)⟩,⟨some 2,none,.mv (.t 54)⟩]) .ret) .skip)) (.seq (.reg [⟨some 55,none,.mv (.t 0)⟩,⟨some 56,none,.nilchk (.t 55)⟩,⟨some 57,none,.faddr 2 (.t 56)⟩,⟨some 58,none,.load false 1 (.t 57)⟩,⟨some 59,none,.bin .shr false (.t 58) (.c (.int .u64 40))⟩,⟨some 60,none,.bin .and false (.t 59) (.c (.int .u64 255))⟩,⟨some 61,none,.conv .i64 (.t 60)⟩,⟨some 2,none,.mv (.t 61)⟩]) .ret)))))))
theorem DM:A2 Try.prog 69=some ⟨62,C8,[(.tmp 2)]⟩:=by kernel_rfl
theorem C9:modes 69=⟨[],.asis,none,false⟩:=by unfold modes; rfl
def CA:SC:=(.seq (.reg [⟨some 4,none,.mv (.c (.int .i64 0))⟩]) (.seq (.seq (.reg [⟨some 6,none,.mv (.t 1)⟩,⟨some 7,none,.bin .leq false (.t 6) (.c (.int .i64 1))⟩]) (.cond (.t 7) (.seq (.reg [⟨some 4,none,.mv (.c (.int .i64 0))⟩]) .ret) .skip)) (.seq (.reg [⟨some 8,none,.mv (.t 0)⟩,⟨some 9,none,.call 69 [(.t 8)]⟩,⟨some 5,none,.mv (.t 9)⟩]) (.seq (.seq (.reg [⟨some 10,none,.mv (.t 1)⟩,⟨some 11,none,.bin .gtr false (.t 10) (.c (.int .i64 200))⟩]) (.cond (.t 11) (.reg [⟨some 12,none,.mv (.t 5)⟩,⟨some 13,none,.bin .mul false (.t 12) (.c (.int .i64 256))⟩,⟨some 14,none,.mv (.t 0)⟩,⟨some 15,none,.call 69 [(.t 14)]⟩,⟨some 16,none,.bin .add false (.t 13) (.t 15)⟩,⟨some 5,none,.mv (.t 16)⟩]) .skip)) (.seq (.reg [⟨some 17,none,.mv (.t 5)⟩,⟨some 18,none,.mv (.t 1)⟩,⟨some 19,none,.bin .rem false (.t 17) (.t 18)⟩,⟨some 4,none,.mv (.t 19)⟩]) .ret)))))
theorem DN:A2 Try.prog 40=some ⟨20,CA,[(.tmp 4)]⟩:=by kernel_rfl
theorem Ap:modes 40=⟨[],.asis,none,false⟩:=by unfold modes; rfl
def Eu:SC:=(.seq (.reg [⟨some 4,none,.mv (.c (.bool false))⟩]) (.seq (.reg [⟨some 5,none,.mv (.t 0)⟩,⟨some 6,none,.mv (.t 1)⟩,⟨some 7,none,.call 40 [(.t 5),(.t 6)]⟩,⟨some 8,none,.bin .eql false (.t 7) (.c (.int .i64 0))⟩,⟨some 4,none,.mv (.t 8)⟩]) .ret))
theorem Hj:A2 Try.prog 45=some ⟨9,Eu,[(.tmp 4)]⟩:=by kernel_rfl
theorem AK:modes 45=⟨[],.asis,none,false⟩:=by unfold modes; rfl
def EK:SC:=(.seq (.reg [⟨(some 4),none,(.mv (.c (.str ⟨#[]⟩)))⟩]) (.seq (.reg [⟨some 5,none,.mv (.t 1)⟩,⟨some 6,none,.mv (.t 0)⟩,⟨some 7,none,.mv (.t 1)⟩,⟨some 8,none,.len false (.t 7)⟩,⟨some 9,none,.call 40 [(.t 6),(.t 8)]⟩,⟨some 10,none,.iaddr 1 (.t 5) (.t 9)⟩,⟨some 11,none,.load false 1 (.t 10)⟩,⟨some 4,none,.mv (.t 11)⟩]) .ret))
theorem HH:A2 Try.prog 86=some ⟨12,EK,[(.tmp 4)]⟩:=by kernel_rfl
theorem AB:modes 86=⟨[],.asis,none,false⟩:=by unfold modes; rfl
theorem Rx {α:Type} {a:α} {Q:α→Prop}:(∃ out,a=out∧Q out)=Q a:=propext ⟨fun ⟨o,h,q⟩=>by subst h; exact q,fun q=>⟨a,rfl,q⟩⟩
attribute [go_sem] Rx
abbrev by_ (b:Int):List D:=[D.byte b]
def Bytes (l:List Int):Prop:=∀ b∈l,0≤b∧b≤255
abbrev cur (l:List Int) (p s:Int):Ob:=.box 60 [.arr (l.map by_),.int .i64 p,.int .u64 s]
theorem QS (a:Int):0≤bits .and .u64 a 255∧bits .and .u64 a 255≤255:=by
 have h:(BitVec.ofInt 64 a &&& BitVec.ofInt 64 255).toNat≤255:=by
  rw [BitVec.toNat_and]
  exact Nat.and_le_right
 have e:bits .and .u64 a 255=(((BitVec.ofInt 64 a &&& BitVec.ofInt 64 255).toNat:Nat):Int):=by
  show IntKind.u64.wrap _=_
  refine K0 ⟨?_,?_⟩
  ·show (0:Int)≤_; omega
  ·show _≤(18446744073709551615:Int)
   have:(BitVec.ofInt 64 a &&& BitVec.ofInt 64 255).toNat≤255:=h
   show (((BitVec.ofInt 64 a &&& BitVec.ofInt 64 255).toNat:Nat):Int)≤_
   omega
 rw [e]
 omega
theorem QT (l:List Int) (hl:Bytes l) (hn:l.length≤1099511627776) (p s:Int) (hp0:0≤p) (hp:p≤1099511627776):∃ v s',E 69 [.ptr 0 0] [cur l p s]=some (.int .i64 v,[cur l (p+1) s'])∧0≤v∧v≤255:=by
 obtain ⟨Q,hQ⟩:∃ Q:SV × List Ob→Prop,Q=fun out=>∃ v s',out=(.int .i64 v,[cur l (p+1) s'])∧0≤v∧v≤255:=⟨_,rfl⟩
 suffices h:∃ out,E 69 [.ptr 0 0] [cur l p s]=some out∧Q out by
  obtain ⟨out,h1,h2⟩:=h
  rw [hQ] at h2
  obtain ⟨v,s',rfl,h3⟩:=h2
  exact ⟨v,s',h1,h3⟩
 by_cases hlt:p<l.length
 ·have hg:=get_at by_ (show p.toNat<l.length by omega)
  have hb:=hl _ (zH (show p.toNat<l.length by omega))
  have hi:dec (inK .i64 l[p.toNat])=true:=Co (by omega) (by omega)
  have h1:(p<(l.length:Int))=True:=eq_true (by omega)
  have h2:(p+1≤(l.length:Int))=True:=eq_true (by omega)
  refine AO DM C9 (of_decide_eq_true rfl) ?_
  simp (disch:=omega) only [C8,go_sem,Aa,hg,hi,h1,h2]
  rw [hQ]
  exact ⟨_,_,rfl,hb⟩
 ·have h1:(p<(l.length:Int))=False:=eq_false (by omega)
  have h2:(p+1≤(l.length:Int))=False:=eq_false (by omega)
  have hb:=fun a=>QS a
  have hi:∀ a,dec (inK .i64 (bits .and .u64 a 255))=true:=fun a=>Co (by have:=hb a; omega) (by have:=hb a; omega)
  refine AO DM C9 (of_decide_eq_true rfl) ?_
  simp (disch:=omega) only [C8,go_sem,Aa,hi,h1,h2]
  rw [hQ]
  exact ⟨_,_,rfl,hb _⟩
theorem Fh (l:List Int) (hl:Bytes l) (hn:l.length≤1099511627776) (n:Int) (h1:1≤n) (h2:n≤200) (p s:Int) (hp0:0≤p) (hp:p≤1099511627776):∃ v p' s',E 40 [.ptr 0 0,.int .i64 n] [cur l p s]=some (.int .i64 v,[cur l p' s'])∧(0≤v∧v<n)∧p≤p'∧p'≤p+1:=by
 by_cases hn1:n≤1
 ·refine ⟨0,p,s,?_,by omega,by omega,by omega⟩
  have q1:(n≤1)=True:=eq_true hn1
  refine Al DN Ap (of_decide_eq_true rfl) ?_
  simp (disch:=omega) only [CA,go_sem,Aa,q1]
 ·obtain ⟨v,s',hv,hv1,hv2⟩:=QT l hl hn p s hp0 hp
  have hm1:=Int.emod_nonneg v (show n≠0 by omega)
  have hm2:=Int.emod_lt_of_pos v (show 0<n by omega)
  have hm3:v.tmod n=v % n:=Int.tmod_eq_emod_of_nonneg hv1
  refine ⟨v.tmod n,p+1,s',?_,by omega,by omega,by omega⟩
  have q1:(n≤1)=False:=eq_false hn1
  have q2:(200<n)=False:=eq_false (by omega)
  have q3:(n=0)=False:=eq_false (by omega)
  refine Al DN Ap (of_decide_eq_true rfl) ?_
  simp (disch:=omega) only [CA,go_sem,Aa,q1,q2,q3,hv,C9]
theorem JK (l:List Int) (hl:Bytes l) (hn:l.length≤1099511627776) (n:Int) (h1:1≤n) (h2:n≤200) (p s:Int) (hp0:0≤p) (hp:p≤1099511627776):∃ b p' s',E 45 [.ptr 0 0,.int .i64 n] [cur l p s]=some (.bool b,[cur l p' s'])∧p≤p'∧p'≤p+1:=by
 obtain ⟨v,p',s',hv,_,h3,h4⟩:=Fh l hl hn n h1 h2 p s hp0 hp
 refine ⟨dec (v=0),p',s',?_,h3,h4⟩
 refine Al Hj AK (of_decide_eq_true rfl) ?_
 simp (disch:=omega) only [Eu,go_sem,Aa,hv,Ap]
theorem PI (l:List Int) (hl:Bytes l) (hn:l.length≤1099511627776) (xs:List ByteArray) (h1:1≤xs.length) (h2:xs.length≤200) (p s:Int) (hp0:0≤p) (hp:p≤1099511627776):∃ x p' s',E 86 [.ptr 0 0,.arr (xs.map fun s=>[D.str s])] [cur l p s]=some (.str x,[cur l p' s'])∧x∈xs∧p≤p'∧p'≤p+1:=by
 obtain ⟨v,p',s',hv,⟨hv0,hv1⟩,h3,h4⟩:=Fh l hl hn xs.length (by omega) (by omega) p s hp0 hp
 have hg:=get_at (fun s=>[D.str s]) (show v.toNat<xs.length by omega)
 refine ⟨xs[v.toNat],p',s',?_,zH _,h3,h4⟩
 refine Al HH AB (of_decide_eq_true rfl) ?_
 simp (disch:=omega) only [EK,go_sem,Aa,hv,hg,Ap]
def Br:SC:=(.seq (.reg [⟨(some 4),none,(.alloc 26 [(.str ⟨#[]⟩),.nil])⟩]) (.seq (.seq (.reg [⟨some 5,none,.mv (.t 1)⟩,⟨some 6,none,.bin .leq false (.t 5) (.c (.int .i64 1))⟩,⟨some 7,none,.mv (.t 6)⟩,⟨(some 8),(some (7,false)),(.mv (.t 0))⟩,⟨(some 9),(some (7,false)),(.call 45 [(.t 8),(.c (.int .i64 3))])⟩,⟨some 10,none,.pick (.t 7) (.c (.bool true)) (.t 9)⟩]) (.cond (.t 10) (.seq (.reg [⟨some 11,none,.mv (.t 0)⟩,⟨(some 12),none,(.mkrow 9 1 [(.str ⟨#[]⟩)] 7 [(0,(.c (.str ⟨#[88]⟩))),(1,(.c (.str ⟨#[89]⟩))),(2,(.c (.str ⟨#[90]⟩))),(3,(.c (.str ⟨#[97]⟩))),(4,(.c (.str ⟨#[98]⟩))),(5,(.c (.str ⟨#[88]⟩))),(6,(.c (.str ⟨#[97]⟩)))])⟩,⟨some 13,none,.call 86 [(.t 11),(.t 12)]⟩,⟨(some 14),none,(.build [(.str ⟨#[]⟩),.nil] [(0,(1,(.t 13)))])⟩,⟨none,none,(.store 2 (.t 4) (.t 14))⟩]) .ret) .skip)) (.seq (.seq (.reg [⟨some 15,none,.mv (.t 0)⟩,⟨some 16,none,.call 45 [(.t 15),(.c (.int .i64 2))]⟩]) (.cond (.t 16) (.seq (.reg [⟨some 17,none,.mv (.t 0)⟩,⟨some 18,none,.mv (.t 1)⟩,⟨some 19,none,.bin .sub false (.t 18) (.c (.int .i64 1))⟩,⟨some 20,none,.call 70 [(.t 17),(.t 19)]⟩,⟨(some 21),none,(.mkrow 26 2 [(.str ⟨#[]⟩),.nil] 1 [(0,(.t 20))])⟩,⟨(some 22),none,(.build [(.str ⟨#[]⟩),.nil] [(0,(1,(.c (.str ⟨#[102]⟩)))),(1,(1,(.t 21)))])⟩,⟨none,none,(.store 2 (.t 4) (.t 22))⟩]) .ret) .skip)) (.seq (.reg [⟨some 23,none,.mv (.t 0)⟩,⟨some 24,none,.mv (.t 1)⟩,⟨some 25,none,.bin .sub false (.t 24) (.c (.int .i64 1))⟩,⟨some 26,none,.call 70 [(.t 23),(.t 25)]⟩,⟨some 27,none,.mv (.t 0)⟩,⟨some 28,none,.mv (.t 1)⟩,⟨some 29,none,.bin .sub false (.t 28) (.c (.int .i64 1))⟩,⟨some 30,none,.call 70 [(.t 27),(.t 29)]⟩,⟨(some 31),none,(.mkrow 26 2 [(.str ⟨#[]⟩),.nil] 2 [(0,(.t 26)),(1,(.t 30))])⟩,⟨(some 32),none,(.build [(.str ⟨#[]⟩),.nil] [(0,(1,(.c (.str ⟨#[103]⟩)))),(1,(1,(.t 31)))])⟩,⟨none,none,(.store 2 (.t 4) (.t 32))⟩]) .ret))))
theorem B5:A2 Try.prog 70=some ⟨33,Br,[(.cell 4 true 2)]⟩:=by kernel_rfl
theorem Az:modes 70=⟨[],.half [none,some (26,2)],none,false⟩:=by unfold modes; rfl
def DO:SC:=(.seq (.reg [⟨(some 2),none,(.alloc 26 [(.str ⟨#[]⟩),.nil])⟩]) (.seq (.reg [⟨some 3,none,.mv (.t 0)⟩,⟨some 4,none,.mv (.t 0)⟩,⟨some 5,none,.call 40 [(.t 4),(.c (.int .i64 3))]⟩,⟨some 6,none,.bin .add false (.c (.int .i64 1)) (.t 5)⟩,⟨some 7,none,.call 70 [(.t 3),(.t 6)]⟩,⟨none,none,(.store 2 (.t 2) (.t 7))⟩]) .ret))
theorem GD:A2 Try.prog 42=some ⟨8,DO,[(.cell 2 true 2)]⟩:=by kernel_rfl
theorem Aq:modes 42=⟨[],.half [none,some (26,2)],none,false⟩:=by unfold modes; rfl
def Bi:SC:=(.seq (.reg [⟨(some 2),none,(.alloc 26 [(.str ⟨#[]⟩),.nil])⟩]) (.seq (.seq (.reg [⟨some 3,none,.mv (.t 0)⟩,⟨some 4,none,.call 40 [(.t 3),(.c (.int .i64 8))]⟩]) (.block 0 (.seq (.seq (.reg [⟨some 6,none,.bin .eql false (.t 4) (.c (.int .i64 0))⟩,⟨some 5,none,.mv (.t 6)⟩]) (.cond (.t 5) .skip (.reg [⟨some 7,none,.bin .eql false (.t 4) (.c (.int .i64 1))⟩,⟨some 5,none,.mv (.t 7)⟩]))) (.cond (.t 5) (.seq (.reg [⟨some 8,none,.mv (.t 0)⟩,⟨some 9,none,.call 42 [(.t 8)]⟩,⟨some 10,none,.mv (.t 0)⟩,⟨some 11,none,.call 42 [(.t 10)]⟩,⟨(some 12),none,(.mkrow 26 2 [(.str ⟨#[]⟩),.nil] 2 [(0,(.t 9)),(1,(.t 11))])⟩,⟨(some 13),none,(.build [(.str ⟨#[]⟩),.nil] [(0,(1,(.c (.str ⟨#[61]⟩)))),(1,(1,(.t 12)))])⟩,⟨none,none,(.store 2 (.t 2) (.t 13))⟩]) .ret) (.seq (.reg [⟨some 15,none,.bin .eql false (.t 4) (.c (.int .i64 2))⟩,⟨some 14,none,.mv (.t 15)⟩]) (.cond (.t 14) (.seq (.reg [⟨(some 16),none,(.build [(.str ⟨#[]⟩),.nil] [(0,(1,(.c (.str ⟨#[114]⟩))))])⟩,⟨none,none,(.store 2 (.t 2) (.t 16))⟩]) .ret) (.seq (.seq (.reg [⟨some 18,none,.bin .eql false (.t 4) (.c (.int .i64 3))⟩,⟨some 17,none,.mv (.t 18)⟩]) (.cond (.t 17) .skip (.reg [⟨some 19,none,.bin .eql false (.t 4) (.c (.int .i64 4))⟩,⟨some 17,none,.mv (.t 19)⟩]))) (.cond (.t 17) (.seq (.reg [⟨some 20,none,.mv (.t 0)⟩,⟨some 21,none,.call 70 [(.t 20),(.c (.int .i64 2))]⟩,⟨some 22,none,.mv (.t 0)⟩,⟨some 23,none,.call 70 [(.t 22),(.c (.int .i64 2))]⟩,⟨(some 24),none,(.mkrow 26 2 [(.str ⟨#[]⟩),.nil] 2 [(0,(.t 21)),(1,(.t 23))])⟩,⟨(some 25),none,(.build [(.str ⟨#[]⟩),.nil] [(0,(1,(.c (.str ⟨#[113]⟩)))),(1,(1,(.t 24)))])⟩,⟨none,none,(.store 2 (.t 2) (.t 25))⟩]) .ret) .skip)))))))) (.seq (.reg [⟨some 26,none,.mv (.t 0)⟩,⟨some 27,none,.call 70 [(.t 26),(.c (.int .i64 2))]⟩,⟨(some 28),none,(.mkrow 26 2 [(.str ⟨#[]⟩),.nil] 1 [(0,(.t 27))])⟩,⟨(some 29),none,(.build [(.str ⟨#[]⟩),.nil] [(0,(1,(.c (.str ⟨#[112]⟩)))),(1,(1,(.t 28)))])⟩,⟨none,none,(.store 2 (.t 2) (.t 29))⟩]) .ret)))
theorem Bz:A2 Try.prog 67=some ⟨30,Bi,[(.cell 2 true 2)]⟩:=by kernel_rfl
theorem AP:modes 67=⟨[],.half [none,some (26,2)],none,false⟩:=by unfold modes; rfl
def Tm.oh (x:Tm):List OT:=[.str x.name,.ow (x.args.map Tm.osh)]
theorem Tm.O1 (x:Tm):x.oh=[.str x.name,.ow (x.args.map Tm.osh)]:=rfl
theorem Tm.Le:∀ xs:List Tm,OT.BG (xs.map Tm.osh)=xs.map Tm.osh
 | []=>rfl
 | x :: xs=>by rw [zA,Tm.IH]; simp only [OT.BG,OT.G8,OT.half,Tm.Le xs]
theorem Tm.M4:∀ xs:List Tm,OT.A6 (xs.map Tm.oh)=true
 | []=>rfl
 | x :: xs=>by rw [zA,Tm.O1]; simp only [OT.A6,OT.C4,OT.full,Tm.Fg,Tm.M4 xs,zF]
theorem Tm.M5:∀ xs:List Tm,OT.BG (xs.map Tm.oh)=xs.map Tm.osh
 | []=>rfl
 | x :: xs=>by rw [zA,zA,Tm.O1,Tm.IH]; simp only [OT.BG,OT.G8,OT.half,Tm.Hi,Tm.M5 xs]
theorem Tm.Qc:∀ xs:List Tm,OT.erss (xs.map Tm.oh)=xs.map Tm.d
 | []=>rfl
 | x :: xs=>by rw [zA,zA,Tm.O1,Tm.E7]; simp only [OT.erss,OT.ers,OT.er,Tm.Hi,Tm.Qc xs]
theorem Tm.LQ:∀ xs:List Tm,OT.BG (xs.map Tm.o)=xs.map Tm.osh
 | []=>rfl
 | x :: xs=>by rw [zA,zA,Tm.IE,Tm.IH]; simp only [OT.BG,OT.G8,OT.half,Tm.erss,Tm.LQ xs]
theorem OT.fullss_app:∀ a b:List (List OT),OT.A6 (a++b)=(OT.A6 a&&OT.A6 b)
 | [],b=>by simp [OT.A6]
 | x :: a,b=>by simp only [zS,OT.A6,OT.fullss_app a b,Bool.and_assoc]
theorem OT.II:∀ a b:List (List OT),OT.BG (a++b)=OT.BG a++OT.BG b
 | [],b=>by simp [OT.BG]
 | x :: a,b=>by simp only [zS,OT.BG,OT.II a b]
theorem OT.erss_app:∀ a b:List (List OT),OT.erss (a++b)=OT.erss a++OT.erss b
 | [],b=>by simp [OT.erss]
 | x :: a,b=>by simp only [zS,OT.erss,OT.erss_app a b]
theorem OT.IJ:∀ {l:List (List OT)} {e:List OT} (k:Nat),OT.A6 l=true→OT.C4 e=true→OT.A6 (l.set k e)=true
 | [],_,_,_,_=>rfl
 | x :: l,e,0,h,he=>by
  simp only [OT.A6,zE] at h
  simp only [z3,OT.A6,he,h.2,zF]
 | x :: l,e,k+1,h,he=>by
  simp only [OT.A6,zE] at h
  simp only [zZ,OT.A6,h.1,OT.IJ k h.2 he,zF]
theorem OT.Lf:∀ (l:List (List OT)) (e:List OT) (k:Nat),OT.erss (l.set k e)=(OT.erss l).set k (OT.ers e)
 | [],_,_=>rfl
 | x :: l,e,0=>rfl
 | x :: l,e,k+1=>by simp only [zZ,OT.erss,OT.Lf l e k]
attribute [go_sem] OT.fullss_app OT.II OT.erss_app Tm.Fg Tm.Hi Tm.Le Tm.M4 Tm.Qc Tm.M5 Tm.LQ
abbrev tmH (t:Tm) (g:Nat):SV:=.agg [.str t.name,.ref g]
abbrev GE (t:Tm):Ob:=.row 26 2 (t.args.map Tm.osh)
theorem Km (l:List Int) (hl:Bytes l) (hn:l.length≤1099511627776):∀ (d:Nat) (m:Int),m=d→d≤20→∀ p s:Int,0≤p→p+(4*2 ^ d:Nat)≤1099000000000→∃ t p' s',E 70 [.ptr 0 0,.int .i64 m] [cur l p s]=some (tmH t 1,[cur l p' s',GE t])∧(p≤p'∧p'+2≤p+(4*2 ^ d:Nat))∧t.nodes+1≤2*2 ^ d:=by
 intro d
 have leaf:∀ (p1 s1:Int),0≤p1→p1≤1099500000000→∃ x p2 s2,E 86 [.ptr 0 0,.arr [[D.str ⟨#[88]⟩],[D.str ⟨#[89]⟩],[D.str ⟨#[90]⟩],[D.str ⟨#[97]⟩],[D.str ⟨#[98]⟩],[D.str ⟨#[88]⟩],[D.str ⟨#[97]⟩]]] [cur l p1 s1]=some (.str x,[cur l p2 s2])∧p1≤p2∧p2≤p1+1:=fun p1 s1 a b=>by
  obtain ⟨x,p2,s2,ho,_,h2,h3⟩:=PI l hl hn [⟨#[88]⟩,⟨#[89]⟩,⟨#[90]⟩,⟨#[97]⟩,⟨#[98]⟩,⟨#[88]⟩,⟨#[97]⟩] (by decide) (by decide) p1 s1 a (by omega)
  simp only [zA,zK] at ho
  exact ⟨x,p2,s2,ho,h2,h3⟩
 have n1:∀ x,(Tm.mk x []).nodes=1:=fun x=>by rw [Tm.Av]; rfl
 induction d with
 | zero =>
  rintro m rfl _ p s h0 h1
  rw [show 2 ^ 0=1 by rfl] at h1
  obtain ⟨x,p1,s1,ho,h2,h3⟩:=leaf p s h0 (by omega)
  rw [show 2 ^ 0=1 by rfl]
  obtain ⟨Q,hQ⟩:∃ Q:SV × List Ob→Prop,Q=fun out=>∃ t p' s',out=(tmH t 1,[cur l p' s',GE t])∧(p≤p'∧p'+2≤p+(4*1:Nat))∧t.nodes+1≤2*1:=⟨_,rfl⟩
  suffices hq0:∃ out,E 70 [.ptr 0 0,.int .i64 ((0:Nat):Int)] [cur l p s]=some out∧Q out by
   obtain ⟨out,hq1,hq2⟩:=hq0
   rw [hQ] at hq2
   obtain ⟨t,p',s',rfl,hq3⟩:=hq2
   exact ⟨t,p',s',hq1,hq3⟩
  refine AO B5 Az (of_decide_eq_true rfl) ?_
  simp (disch:=omega) only [Br,go_sem,Aa,ho,AB]
  rw [hQ]
  exact ⟨.mk x [],p1,s1,rfl,by omega,by rw [n1]; decide⟩
 | succ e ih =>
  intro m hm hd p s h0 h1
  have hpe:2 ^ (e+1)=2*2 ^ e:=by rw [Nat.pow_succ,Nat.mul_comm]
  have hp1:1≤2 ^ e:=Nat.one_le_two_pow
  have hp2:2 ^ e≤2 ^ 20:=Nat.pow_le_pow_right (by omega) (by omega)
  have hp3:(2:Nat) ^ 20=1048576:=by decide
  have ih:=ih (m-1) (by omega) (by omega)
  rw [hpe] at h1 ⊢
  generalize 2 ^ e=q at *
  generalize hq2:2*q=q2 at *
  obtain ⟨Q,hQ⟩:∃ Q:SV × List Ob→Prop,Q=fun out=>∃ t p' s',out=(tmH t 1,[cur l p' s',GE t])∧(p≤p'∧p'+2≤p+(4*q2:Nat))∧t.nodes+1≤2*q2:=⟨_,rfl⟩
  suffices hq0:∃ out,E 70 [.ptr 0 0,.int .i64 m] [cur l p s]=some out∧Q out by
   obtain ⟨out,hq1,hq2⟩:=hq0
   rw [hQ] at hq2
   obtain ⟨t,p',s',rfl,hq3⟩:=hq2
   exact ⟨t,p',s',hq1,hq3⟩
  by_cases hm1:m≤1
  ·have q1:(m≤1)=True:=eq_true hm1
   obtain ⟨x,p1,s1,ho,h2,h3⟩:=leaf p s h0 (by omega)
   refine AO B5 Az (of_decide_eq_true rfl) ?_
   simp (disch:=omega) only [Br,go_sem,Aa,ho,q1,AB]
   rw [hQ]
   exact ⟨.mk x [],p1,s1,rfl,by omega,by rw [n1]; omega⟩
  ·have q1:(m≤1)=False:=eq_false hm1
   obtain ⟨b1,p1,s1,hb1,g1,g2⟩:=JK l hl hn 3 (by omega) (by omega) p s h0 (by omega)
   cases b1 with
   | true =>
    obtain ⟨x,p2,s2,ho,h2,h3⟩:=leaf p1 s1 (by omega) (by omega)
    refine AO B5 Az (of_decide_eq_true rfl) ?_
    simp (disch:=omega) only [Br,go_sem,Aa,q1,hb1,ho,AB,AK]
    rw [hQ]
    exact ⟨.mk x [],p2,s2,rfl,by omega,by rw [n1]; omega⟩
   | false =>
    obtain ⟨b2,p2,s2,hb2,g3,g4⟩:=JK l hl hn 2 (by omega) (by omega) p1 s1 (by omega) (by omega)
    obtain ⟨t3,p3,s3,h3,⟨g5,g6⟩,g7⟩:=ih p2 s2 (by omega) (by omega)
    cases b2 with
    | true =>
     have e1:(Tm.mk ⟨#[102]⟩ [t3]).nodes=1+(t3.nodes+0):=by rw [Tm.Av]; rfl
     refine AO B5 Az (of_decide_eq_true rfl) ?_
     simp (disch:=omega) only [Br,go_sem,Aa,q1,hb1,hb2,h3,AB,AK,Az]
     rw [hQ]
     exact ⟨.mk ⟨#[102]⟩ [t3],p3,s3,rfl,by omega,by rw [e1]; omega⟩
    | false =>
     obtain ⟨t4,p4,s4,h4,⟨g8,g9⟩,g10⟩:=ih p3 s3 (by omega) (by omega)
     have e1:(Tm.mk ⟨#[103]⟩ [t3,t4]).nodes=1+(t3.nodes+(t4.nodes+0)):=by rw [Tm.Av]; rfl
     refine AO B5 Az (of_decide_eq_true rfl) ?_
     simp (disch:=omega) only [Br,go_sem,Aa,q1,hb1,hb2,h3,h4,AB,AK,Az]
     rw [hQ]
     exact ⟨.mk ⟨#[103]⟩ [t3,t4],p4,s4,rfl,by omega,by rw [e1]; omega⟩
theorem Fi (l:List Int) (hl:Bytes l) (hn:l.length≤1099511627776) (p s:Int) (h0:0≤p) (h1:p≤1098000000000):∃ t p' s',E 42 [.ptr 0 0] [cur l p s]=some (tmH t 1,[cur l p' s',GE t])∧(p≤p'∧p'≤p+40)∧t.nodes≤20:=by
 obtain ⟨v,p1,s1,hv,⟨v0,v1⟩,g1,g2⟩:=Fh l hl hn 3 (by omega) (by omega) p s h0 (by omega)
 have hp3:(2:Nat) ^ (1+v).toNat≤2 ^ 3:=Nat.pow_le_pow_right (by omega) (by omega)
 obtain ⟨t,p2,s2,ht,⟨g3,g4⟩,g5⟩:=Km l hl hn (1+v).toNat (1+v) (by omega) (by omega) p1 s1 (by omega) (by omega)
 have hp4:(2:Nat) ^ 3=8:=by decide
 refine ⟨t,p2,s2,?_,by omega,by omega⟩
 have hi:dec (inK .i64 (1+v))=true:=Co (by omega) (by omega)
 refine Al GD Aq (of_decide_eq_true rfl) ?_
 simp (disch:=omega) only [DO,go_sem,Aa,hv,ht,hi,Ap,Az]
theorem QU (l:List Int) (hl:Bytes l) (hn:l.length≤1099511627776) (p s:Int) (h0:0≤p) (h1:p≤1097000000000):∃ t p' s',E 67 [.ptr 0 0] [cur l p s]=some (tmH t 1,[cur l p' s',GE t])∧(p≤p'∧p'≤p+100)∧t.nodes≤50:=by
 obtain ⟨Q,hQ⟩:∃ Q:SV × List Ob→Prop,Q=fun out=>∃ t p' s',out=(tmH t 1,[cur l p' s',GE t])∧(p≤p'∧p'≤p+100)∧t.nodes≤50:=⟨_,rfl⟩
 suffices hq0:∃ out,E 67 [.ptr 0 0] [cur l p s]=some out∧Q out by
  obtain ⟨out,hq1,hq2⟩:=hq0
  rw [hQ] at hq2
  obtain ⟨t,p',s',rfl,hq3⟩:=hq2
  exact ⟨t,p',s',hq1,hq3⟩
 have hp4:(2:Nat) ^ 2=4:=by decide
 have e1:∀ x a,(Tm.mk x [a]).nodes=1+(a.nodes+0):=fun x a=>by rw [Tm.Av]; rfl
 have e2:∀ x a b,(Tm.mk x [a,b]).nodes=1+(a.nodes+(b.nodes+0)):=fun x a b=>by rw [Tm.Av]; rfl
 obtain ⟨v,p1,s1,hv,⟨v0,v1⟩,g1,g2⟩:=Fh l hl hn 8 (by omega) (by omega) p s h0 (by omega)
 obtain ⟨ta,p2,s2,ha,⟨a3,a4⟩,a5⟩:=Fi l hl hn p1 s1 (by omega) (by omega)
 obtain ⟨tb,p3,s3,hb,⟨b3,b4⟩,b5⟩:=Fi l hl hn p2 s2 (by omega) (by omega)
 obtain ⟨tc,p4,s4,hc,⟨c3,c4⟩,c5⟩:=Km l hl hn 2 2 rfl (by omega) p1 s1 (by omega) (by omega)
 obtain ⟨td,p5,s5,hd,⟨d3,d4⟩,d5⟩:=Km l hl hn 2 2 rfl (by omega) p4 s4 (by omega) (by omega)
 rw [hp4] at c4 c5 d4 d5
 rcases (show v=0∨v=1∨v=2∨v=3∨v=4∨(¬ v=0∧¬ v=1∧¬ v=2∧¬ v=3∧¬ v=4) by omega) with rfl | rfl | rfl | rfl | rfl | ⟨k0,k1,k2,k3,k4⟩
 ·refine AO Bz AP (of_decide_eq_true rfl) ?_
  simp (disch:=omega) only [Bi,go_sem,Aa,hv,ha,hb,hc,hd,Ap,Az,Aq]
  rw [hQ]
  exact ⟨.mk ⟨#[61]⟩ [ta,tb],p3,s3,rfl,by omega,by rw [e2]; omega⟩
 ·refine AO Bz AP (of_decide_eq_true rfl) ?_
  simp (disch:=omega) only [Bi,go_sem,Aa,hv,ha,hb,hc,hd,Ap,Az,Aq]
  rw [hQ]
  exact ⟨.mk ⟨#[61]⟩ [ta,tb],p3,s3,rfl,by omega,by rw [e2]; omega⟩
 ·refine AO Bz AP (of_decide_eq_true rfl) ?_
  simp (disch:=omega) only [Bi,go_sem,Aa,hv,ha,hb,hc,hd,Ap,Az,Aq]
  rw [hQ]
  exact ⟨.mk ⟨#[114]⟩ [],p1,s1,rfl,by omega,by rw [Tm.Av]; show 1+0≤_; omega⟩
 ·refine AO Bz AP (of_decide_eq_true rfl) ?_
  simp (disch:=omega) only [Bi,go_sem,Aa,hv,ha,hb,hc,hd,Ap,Az,Aq]
  rw [hQ]
  exact ⟨.mk ⟨#[113]⟩ [tc,td],p5,s5,rfl,by omega,by rw [e2]; omega⟩
 ·refine AO Bz AP (of_decide_eq_true rfl) ?_
  simp (disch:=omega) only [Bi,go_sem,Aa,hv,ha,hb,hc,hd,Ap,Az,Aq]
  rw [hQ]
  exact ⟨.mk ⟨#[113]⟩ [tc,td],p5,s5,rfl,by omega,by rw [e2]; omega⟩
 ·have k0:=eq_false k0
  have k1:=eq_false k1
  have k2:=eq_false k2
  have k3:=eq_false k3
  have k4:=eq_false k4
  refine AO Bz AP (of_decide_eq_true rfl) ?_
  simp (disch:=omega) only [Bi,go_sem,Aa,hv,hc,k0,k1,k2,k3,k4,Ap,Az,Aq]
  rw [hQ]
  exact ⟨.mk ⟨#[112]⟩ [tc],p4,s4,rfl,by omega,by rw [e1]; omega⟩
def D6:SC:=(.seq (.reg [⟨(some 4),none,(.alloc 26 [(.str ⟨#[]⟩),.nil])⟩]) (.seq (.reg [⟨some 6,none,.mv (.t 0)⟩,⟨(some 7),none,(.mkrow 9 1 [(.str ⟨#[]⟩)] 2 [(0,(.c (.str ⟨#[88]⟩))),(1,(.c (.str ⟨#[97]⟩)))])⟩,⟨some 8,none,.call 86 [(.t 6),(.t 7)]⟩,⟨(some 9),none,(.build [(.str ⟨#[]⟩),.nil] [(0,(1,(.t 8)))])⟩,⟨(some 5),none,(.alloc 26 [(.str ⟨#[]⟩),.nil])⟩,⟨none,none,(.store 2 (.t 5) (.t 9))⟩]) (.seq (.block 0 (.loop [0,1,0,0,1,1,0,0,0,0,0,0,0,0,0,0,0,0] (.seq (.seq (.reg [⟨some 10,none,.mv (.t 1)⟩,⟨some 11,none,.bin .gtr false (.t 10) (.c (.int .i64 1))⟩]) (.cond (.t 11) .skip (.exit 0))) (.seq (.block 1 (.reg [⟨some 14,none,.load true 2 (.t 5)⟩,⟨(some 15),none,(.mkrow 26 2 [(.str ⟨#[]⟩),.nil] 1 [(0,(.t 14))])⟩,⟨(some 16),none,(.build [(.str ⟨#[]⟩),.nil] [(0,(1,(.c (.str ⟨#[102]⟩)))),(1,(1,(.t 15)))])⟩,⟨none,none,(.store 2 (.t 5) (.t 16))⟩])) (.reg [⟨some 12,none,.mv (.t 1)⟩,⟨some 13,none,.bin .sub false (.t 12) (.c (.int .i64 1))⟩,⟨some 1,none,.mv (.t 13)⟩]))))) (.seq (.reg [⟨some 17,none,.load true 2 (.t 5)⟩,⟨none,none,(.store 2 (.t 4) (.t 17))⟩]) .ret))))
theorem Gk:A2 Try.prog 88=some ⟨18,D6,[(.cell 4 true 2)]⟩:=by kernel_rfl
theorem AT:modes 88=⟨[],.half [none,some (26,2)],none,false⟩:=by unfold modes; rfl
def DP:SC:=(.seq (.reg [⟨(some 2),none,(.alloc 26 [(.str ⟨#[]⟩),.nil])⟩]) (.seq (.reg [⟨(some 7),none,(.build [(.str ⟨#[]⟩),.nil] [(0,(1,(.c (.str ⟨#[103]⟩))))])⟩,⟨(some 3),none,(.alloc 26 [(.str ⟨#[]⟩),.nil])⟩,⟨none,none,(.store 2 (.t 3) (.t 7))⟩]) (.seq (.seq (.reg [⟨some 4,none,.mv (.c (.int .i64 0))⟩]) (.block 0 (.loop [1,0,1,1,1,0,0,0,0,0,0,0,0,0,0,0,0,0,0,0,0,0,0,0,0,0,0,0,0,0,0,0,0,0,0,0,0,0,0,0,0,0,0,0,0,0,0,0,0,0,0,0,0,0] (.seq (.seq (.reg [⟨some 8,none,.mv (.t 4)⟩,⟨some 9,none,.bin .lss false (.t 8) (.c (.int .i64 4))⟩]) (.cond (.t 9) .skip (.exit 0))) (.seq (.block 1 (.seq (.reg [⟨(some 12),none,(.build [(.str ⟨#[]⟩),.nil] [(0,(1,(.c (.str ⟨#[104]⟩))))])⟩,⟨(some 5),none,(.alloc 26 [(.str ⟨#[]⟩),.nil])⟩,⟨none,none,(.store 2 (.t 5) (.t 12))⟩]) (.seq (.seq (.reg [⟨some 6,none,.mv (.c (.int .i64 0))⟩]) (.block 2 (.loop [1,0,1,1,1,1,1,0,0,0,0,0,0,0,0,0,0,0,0,0,0,0,0,0,0,0,0,0,0,0,0,0,0,0,0,0,0,0,0,0,0,0,0,0,0,0,0,0,0,0,0,0,0,0] (.seq (.seq (.reg [⟨some 13,none,.mv (.t 6)⟩,⟨some 14,none,.bin .lss false (.t 13) (.c (.int .i64 4))⟩]) (.cond (.t 14) .skip (.exit 2))) (.seq (.block 3 (.reg [⟨some 17,none,.faddr 1 (.t 5)⟩,⟨some 18,none,.load false 1 (.t 17)⟩,⟨(some 19),none,(.build [(.str ⟨#[]⟩),.nil] [(0,(1,(.c (.str ⟨#[97]⟩))))])⟩,⟨(some 20),none,(.mkrow 26 2 [(.str ⟨#[]⟩),.nil] 1 [(0,(.t 19))])⟩,⟨(some 21),none,(.build [(.str ⟨#[]⟩),.nil] [(0,(1,(.c (.str ⟨#[102]⟩)))),(1,(1,(.t 20)))])⟩,⟨(some 22),none,(.mkrow 26 2 [(.str ⟨#[]⟩),.nil] 1 [(0,(.t 21))])⟩,⟨(some 23),none,(.append 26 2 40 [(.str ⟨#[]⟩),.nil] (.t 18) (.t 22))⟩,⟨some 24,none,.faddr 1 (.t 5)⟩,⟨none,none,(.store 1 (.t 24) (.t 23))⟩])) (.reg [⟨some 15,none,.mv (.t 6)⟩,⟨some 16,none,.bin .add false (.t 15) (.c (.int .i64 1))⟩,⟨some 6,none,.mv (.t 16)⟩])))))) (.reg [⟨some 25,none,.faddr 1 (.t 3)⟩,⟨some 26,none,.load false 1 (.t 25)⟩,⟨some 27,none,.load true 2 (.t 5)⟩,⟨(some 28),none,(.mkrow 26 2 [(.str ⟨#[]⟩),.nil] 1 [(0,(.t 27))])⟩,⟨(some 29),none,(.append 26 2 40 [(.str ⟨#[]⟩),.nil] (.t 26) (.t 28))⟩,⟨some 30,none,.faddr 1 (.t 3)⟩,⟨none,none,(.store 1 (.t 30) (.t 29))⟩])))) (.reg [⟨some 10,none,.mv (.t 4)⟩,⟨some 11,none,.bin .add false (.t 10) (.c (.int .i64 1))⟩,⟨some 4,none,.mv (.t 11)⟩])))))) (.seq (.seq (.reg [⟨some 31,none,.mv (.t 0)⟩,⟨some 32,none,.call 45 [(.t 31),(.c (.int .i64 2))]⟩]) (.cond (.t 32) (.reg [⟨some 33,none,.faddr 1 (.t 3)⟩,⟨some 34,none,.load false 1 (.t 33)⟩,⟨some 35,none,.slice false 2 (.t 34) none (some (.c (.int .i64 3)))⟩,⟨some 36,none,.faddr 1 (.t 3)⟩,⟨none,none,(.store 1 (.t 36) (.t 35))⟩]) .skip)) (.seq (.seq (.reg [⟨some 37,none,.mv (.t 0)⟩,⟨some 38,none,.call 45 [(.t 37),(.c (.int .i64 2))]⟩,⟨some 39,none,.mv (.t 38)⟩,⟨(some 40),(some (39,true)),(.faddr 1 (.t 3))⟩,⟨(some 41),(some (39,true)),(.load false 1 (.t 40))⟩,⟨(some 42),(some (39,true)),(.len false (.t 41))⟩,⟨(some 43),(some (39,true)),(.bin .eql false (.t 42) (.c (.int .i64 3)))⟩,⟨some 44,none,.pick (.t 39) (.t 43) (.c (.bool false))⟩]) (.cond (.t 44) (.reg [⟨some 45,none,.faddr 1 (.t 3)⟩,⟨some 46,none,.load false 1 (.t 45)⟩,⟨(some 47),none,(.build [(.str ⟨#[]⟩),.nil] [(0,(1,(.c (.str ⟨#[98]⟩))))])⟩,⟨(some 48),none,(.mkrow 26 2 [(.str ⟨#[]⟩),.nil] 1 [(0,(.t 47))])⟩,⟨(some 49),none,(.build [(.str ⟨#[]⟩),.nil] [(0,(1,(.c (.str ⟨#[102]⟩)))),(1,(1,(.t 48)))])⟩,⟨(some 50),none,(.mkrow 26 2 [(.str ⟨#[]⟩),.nil] 1 [(0,(.t 49))])⟩,⟨(some 51),none,(.append 26 2 40 [(.str ⟨#[]⟩),.nil] (.t 46) (.t 50))⟩,⟨some 52,none,.faddr 1 (.t 3)⟩,⟨none,none,(.store 1 (.t 52) (.t 51))⟩]) .skip)) (.seq (.reg [⟨some 53,none,.load true 2 (.t 3)⟩,⟨none,none,(.store 2 (.t 2) (.t 53))⟩]) .ret))))))
theorem GF:A2 Try.prog 96=some ⟨54,DP,[(.cell 2 true 2)]⟩:=by kernel_rfl
theorem AX:modes 96=⟨[],.half [none,some (26,2)],none,false⟩:=by unfold modes; rfl
def AN:SC:=(.seq (.reg [⟨(some 2),none,(.alloc 26 [(.str ⟨#[]⟩),.nil])⟩]) (.seq (.reg [⟨some 4,none,.mv (.t 0)⟩,⟨some 5,none,.call 42 [(.t 4)]⟩,⟨(some 3),none,(.alloc 26 [(.str ⟨#[]⟩),.nil])⟩,⟨none,none,(.store 2 (.t 3) (.t 5))⟩]) (.seq (.seq (.reg [⟨some 6,none,.mv (.t 0)⟩,⟨some 7,none,.call 40 [(.t 6),(.c (.int .i64 24))]⟩]) (.block 0 (.seq (.reg [⟨some 9,none,.bin .eql false (.t 7) (.c (.int .i64 0))⟩,⟨some 8,none,.mv (.t 9)⟩]) (.cond (.t 8) (.reg [⟨some 10,none,.mv (.t 0)⟩,⟨(some 11),none,(.mkrow 9 1 [(.str ⟨#[]⟩)] 14 [(0,(.c (.str ⟨#[]⟩))),(1,(.c (.str ⟨#[116,114,117,101]⟩))),(2,(.c (.str ⟨#[116,114,117,116,104]⟩))),(3,(.c (.str ⟨#[105,102]⟩))),(4,(.c (.str ⟨#[88,121,122,57]⟩))),(5,(.c (.str ⟨#[88,121,122,57,57]⟩))),(6,(.c (.str ⟨#[120,65]⟩))),(7,(.c (.str ⟨#[97,95,98]⟩))),(8,(.c (.str ⟨#[97,98,99,100,101,102]⟩))),(9,(.c (.str ⟨#[97,98,99,100,101,102,103]⟩))),(10,(.c (.str ⟨#[95,97]⟩))),(11,(.c (.str ⟨#[57]⟩))),(12,(.c (.str ⟨#[88,95]⟩))),(13,(.c (.str ⟨#[61]⟩)))])⟩,⟨some 12,none,.call 86 [(.t 10),(.t 11)]⟩,⟨some 13,none,.faddr 0 (.t 3)⟩,⟨none,none,(.store 1 (.t 13) (.t 12))⟩]) (.seq (.reg [⟨some 15,none,.bin .eql false (.t 7) (.c (.int .i64 1))⟩,⟨some 14,none,.mv (.t 15)⟩]) (.cond (.t 14) (.seq (.reg [⟨some 16,none,.mv (.t 0)⟩,⟨some 17,none,.mv (.t 0)⟩,⟨some 18,none,.call 40 [(.t 17),(.c (.int .i64 3))]⟩,⟨some 19,none,.bin .add false (.c (.int .i64 7)) (.t 18)⟩,⟨some 20,none,.call 88 [(.t 16),(.t 19)]⟩,⟨none,none,(.store 2 (.t 2) (.t 20))⟩]) .ret) (.seq (.reg [⟨some 22,none,.bin .eql false (.t 7) (.c (.int .i64 2))⟩,⟨some 21,none,.mv (.t 22)⟩]) (.cond (.t 21) (.seq (.reg [⟨some 23,none,.mv (.t 0)⟩,⟨some 24,none,.call 96 [(.t 23)]⟩,⟨none,none,(.store 2 (.t 2) (.t 24))⟩]) .ret) (.seq (.reg [⟨some 26,none,.bin .eql false (.t 7) (.c (.int .i64 3))⟩,⟨some 25,none,.mv (.t 26)⟩]) (.cond (.t 25) (.dreg [[],[0],[],[2],[],[4,3,2],[],[6,5,4,3,2],[3,2,5,4,7,6],[1,0,8,3,2,5,4,7,6],[0,1,2,3,4,5,6,7,8,9],[10,0,1,2,3,4,5,6,7,8,9]] [⟨some 27,none,.faddr 1 (.t 3)⟩,⟨some 28,none,.load false 1 (.t 27)⟩,⟨some 29,none,.mv (.t 0)⟩,⟨some 30,none,.call 42 [(.t 29)]⟩,⟨some 31,none,.mv (.t 0)⟩,⟨some 32,none,.call 42 [(.t 31)]⟩,⟨some 33,none,.mv (.t 0)⟩,⟨some 34,none,.call 42 [(.t 33)]⟩,⟨(some 35),none,(.mkrow 26 2 [(.str ⟨#[]⟩),.nil] 3 [(0,(.t 30)),(1,(.t 32)),(2,(.t 34))])⟩,⟨(some 36),none,(.append 26 2 40 [(.str ⟨#[]⟩),.nil] (.t 28) (.t 35))⟩,⟨some 37,none,.faddr 1 (.t 3)⟩,⟨none,none,(.store 1 (.t 37) (.t 36))⟩]) (.seq (.reg [⟨some 39,none,.bin .eql false (.t 7) (.c (.int .i64 4))⟩,⟨some 38,none,.mv (.t 39)⟩]) (.cond (.t 38) (.seq (.reg [⟨some 40,none,.faddr 1 (.t 3)⟩,⟨some 41,none,.load false 1 (.t 40)⟩,⟨some 42,none,.len false (.t 41)⟩,⟨some 43,none,.bin .gtr false (.t 42) (.c (.int .i64 0))⟩]) (.cond (.t 43) (.dreg [[],[0],[],[],[2,3],[],[5],[6,5],[7,6,5],[8,7,6,5],[4,2,3,9,8,7,6,5],[1,0,2,3,4,5,6,7,8,9,10],[11,1,0,2,3,4,5,6,7,8,9,10]] [⟨some 44,none,.faddr 1 (.t 3)⟩,⟨some 45,none,.load false 1 (.t 44)⟩,⟨some 46,none,.mv (.t 0)⟩,⟨(some 47),none,(.mkrow 9 1 [(.str ⟨#[]⟩)] 4 [(0,(.c (.str ⟨#[61]⟩))),(1,(.c (.str ⟨#[]⟩))),(2,(.c (.str ⟨#[81,49]⟩))),(3,(.c (.str ⟨#[98,50]⟩)))])⟩,⟨some 48,none,.call 86 [(.t 46),(.t 47)]⟩,⟨some 49,none,.faddr 1 (.t 3)⟩,⟨some 50,none,.load false 1 (.t 49)⟩,⟨some 51,none,.iaddr 2 (.t 50) (.c (.int .i64 0))⟩,⟨some 52,none,.faddr 1 (.t 51)⟩,⟨some 53,none,.load false 1 (.t 52)⟩,⟨(some 54),none,(.build [(.str ⟨#[]⟩),.nil] [(0,(1,(.t 48))),(1,(1,(.t 53)))])⟩,⟨some 55,none,.iaddr 2 (.t 45) (.c (.int .i64 0))⟩,⟨none,none,(.store 2 (.t 55) (.t 54))⟩]) .skip)) .skip)))))))))))) (.seq (.reg [⟨some 56,none,.load true 2 (.t 3)⟩,⟨none,none,(.store 2 (.t 2) (.t 56))⟩]) .ret))))
theorem AU:A2 Try.prog 68=some ⟨57,AN,[(.cell 2 true 2)]⟩:=by kernel_rfl
theorem AA:modes 68=⟨[],.half [none,some (26,2)],none,false⟩:=by unfold modes; rfl
def B3:SC:=(.seq (.reg [⟨(some 2),none,(.alloc 26 [(.str ⟨#[]⟩),.nil])⟩]) (.seq (.seq (.reg [⟨some 4,none,.mv (.t 0)⟩,⟨some 5,none,.call 45 [(.t 4),(.c (.int .i64 3))]⟩]) (.cond (.t 5) (.seq (.reg [⟨some 6,none,.mv (.t 0)⟩,⟨some 7,none,.call 67 [(.t 6)]⟩,⟨(some 3),none,(.alloc 26 [(.str ⟨#[]⟩),.nil])⟩,⟨none,none,(.store 2 (.t 3) (.t 7))⟩]) (.seq (.seq (.reg [⟨some 8,none,.mv (.t 0)⟩,⟨some 9,none,.call 45 [(.t 8),(.c (.int .i64 12))]⟩]) (.cond (.t 9) (.dreg [[],[0],[],[2],[3,2],[1,0,4,3,2],[0,1,2,3,4,5],[6,0,1,2,3,4,5]] [⟨some 10,none,.faddr 1 (.t 3)⟩,⟨some 11,none,.load false 1 (.t 10)⟩,⟨some 12,none,.mv (.t 0)⟩,⟨some 13,none,.call 42 [(.t 12)]⟩,⟨(some 14),none,(.mkrow 26 2 [(.str ⟨#[]⟩),.nil] 1 [(0,(.t 13))])⟩,⟨(some 15),none,(.append 26 2 40 [(.str ⟨#[]⟩),.nil] (.t 11) (.t 14))⟩,⟨some 16,none,.faddr 1 (.t 3)⟩,⟨none,none,(.store 1 (.t 16) (.t 15))⟩]) .skip)) (.seq (.reg [⟨some 17,none,.load true 2 (.t 3)⟩,⟨none,none,(.store 2 (.t 2) (.t 17))⟩]) .ret))) .skip)) (.seq (.reg [⟨some 18,none,.mv (.t 0)⟩,⟨some 19,none,.call 68 [(.t 18)]⟩,⟨none,none,(.store 2 (.t 2) (.t 19))⟩]) .ret)))
theorem BQ:A2 Try.prog 39=some ⟨20,B3,[(.cell 2 true 2)]⟩:=by kernel_rfl
theorem AD:modes 39=⟨[],.half [none,some (26,2)],none,false⟩:=by unfold modes; rfl
def twr (x:ByteArray):Nat→Tm
 | 0=>.mk x []
 | k+1=>.mk ⟨#[102]⟩ [twr x k]
theorem JL (x:ByteArray):∀ k,(twr x k).nodes=k+1
 | 0=>by rw [twr,Tm.Av]; rfl
 | k+1=>by
  have:(twr x (k+1)).nodes=1+((twr x k).nodes+0):=by rw [twr,Tm.Av]; rfl
  rw [this,JL x k]; omega
theorem Qd (x:ByteArray):[[OT.str x,OT.ow []]]=[Tm.mk x []].map Tm.o:=by rw [zA,zK,Tm.IE]; rfl
theorem Ru (x:ByteArray) (l:List Tm):[[OT.str x,OT.ow (l.map Tm.o)]]=[Tm.mk x l].map Tm.o:=by rw [zA,zK,Tm.IE]; rfl
theorem Tm.PJ (x:Tm):OT.G8 x.o=x.osh:=by
 have:=Tm.LQ [x]
 simp only [zA,zK,OT.BG,zX,and_true] at this
 exact this
theorem Tm.PK (x:Tm):OT.C4 x.o=true:=by
 have:=Tm.fus [x]
 simp only [zA,zK,OT.A6,zQ] at this
 exact this
theorem Tm.Dh (x:Tm):x.o.length=2:=by rw [Tm.IE]; rfl
abbrev tZ:Ob:=.box 26 [.str ⟨#[]⟩,.nil]
theorem PL (l:List Int) (hl:Bytes l) (hn:l.length≤1099511627776) (m:Int) (hm:1≤m) (hm2:m≤100) (p s:Int) (h0:0≤p) (h1:p≤1099000000000):∃ t p' s',E 88 [.ptr 0 0,.int .i64 m] [cur l p s]=some (tmH t 1,[cur l p' s',GE t])∧(p≤p'∧p'≤p+1)∧t.nodes≤150:=by
 obtain ⟨Q,hQ⟩:∃ Q:SV × List Ob→Prop,Q=fun out=>∃ t p' s',out=(tmH t 1,[cur l p' s',GE t])∧(p≤p'∧p'≤p+1)∧t.nodes≤150:=⟨_,rfl⟩
 suffices hq0:∃ out,E 88 [.ptr 0 0,.int .i64 m] [cur l p s]=some out∧Q out by
  obtain ⟨out,hq1,hq2⟩:=hq0
  rw [hQ] at hq2
  obtain ⟨t,p',s',rfl,hq3⟩:=hq2
  exact ⟨t,p',s',hq1,hq3⟩
 obtain ⟨x,p1,s1,ho,_,g1,g2⟩:=PI l hl hn [⟨#[88]⟩,⟨#[97]⟩] (by decide) (by decide) p s h0 (by omega)
 simp only [zA,zK] at ho
 refine AO Gk AT (of_decide_eq_true rfl) ?_
 simp (disch:=omega) only [D6,go_sem,Aa,ho,AB]
 refine go_loop (α:=Nat) (fun k=>⟨slots 18 0 [(1,.int .i64 (m-(k:Nat))),(4,.ptr 1 0),(5,.ptr 2 0)],(if k=0 then [cur l p1 s1,tZ,.box 26 [.str x,.nil]] else [cur l p1 s1,tZ,.box 26 [.str ⟨#[102]⟩,.ref 3],.row 26 2 ([twr x (k-1)].map Tm.o)])⟩) (fun k=>(k:Int)≤m-1) (fun k=>(m-k).toNat) 0 (by omega) (by simp (disch:=omega) only [go_sem,Aa,eq_self,if_true,Int.natCast_zero,Int.sub_zero]) ?_
 intro k hk
 by_cases hlt:1<m-(k:Int)
 ·have q1:(1<m-(k:Int))=True:=eq_true hlt
  have hi:dec (inK .i64 (m-(k:Int)-1))=true:=Co (by omega) (by omega)
  have q4:m-(k:Int)-1=m-((k+1:Nat):Int):=by omega
  have q5:(k+1=0)=False:=by simp
  have q6:k+1-1=k:=by omega
  rcases zN k with hk0 | hk0
  ·subst hk0
   have hs:=Qd x
   have q7:m-((0:Nat):Int)-1=m-((0+1:Nat):Int):=by omega
   simp (disch:=omega) only [go_sem,Aa,q1,hi,eq_self,if_true]
   refine ⟨0+1,by omega,by omega,?_⟩
   simp (disch:=omega) only [go_sem,Aa,q5,if_false,q7]
   first | rfl | (rw [hs]; rfl)
  ·obtain ⟨j,rfl⟩:∃ j,k=j+1:=⟨k-1,by omega⟩
   have hs:=Ru ⟨#[102]⟩ [twr x j]
   have q8:(j+1=0)=False:=by simp
   have q9:j+1-1=j:=by omega
   simp (disch:=omega) only [go_sem,Aa,q1,hi,q8,q9,if_false]
   refine ⟨j+1+1,by omega,by omega,?_⟩
   simp (disch:=omega) only [go_sem,Aa,q5,q6,if_false,q4]
   first | rfl | (rw [hs]; rfl)
 ·have q1:(1<m-(k:Int))=False:=eq_false hlt
  have hnd:=JL x k
  rcases zN k with hk0 | hk0
  ·subst hk0
   simp (disch:=omega) only [go_sem,Aa,q1,eq_self,if_true]
   rw [hQ]
   exact ⟨twr x 0,p1,s1,rfl,by omega,by omega⟩
  ·obtain ⟨j,rfl⟩:∃ j,k=j+1:=⟨k-1,by omega⟩
   have q8:(j+1=0)=False:=by simp
   have q9:j+1-1=j:=by omega
   have hh:=Tm.PJ (twr x j)
   have hf:=Tm.PK (twr x j)
   simp (disch:=omega) only [go_sem,Aa,q1,q8,q9,if_false,hh,hf]
   rw [hQ]
   exact ⟨twr x (j+1),p1,s1,rfl,by omega,by omega⟩
def wdF:Tm:=.mk ⟨#[102]⟩ [.mk ⟨#[97]⟩ []]
def wdP:Tm:=.mk ⟨#[104]⟩ (zG 4 wdF)
theorem Di:[OT.str ⟨#[102]⟩,OT.ow [[OT.str ⟨#[97]⟩,OT.ow []]]]=wdF.o:=by
 rw [wdF,Tm.IE]
 show _=[OT.str ⟨#[102]⟩,OT.ow ([Tm.mk ⟨#[97]⟩ []].map Tm.o)]
 rw [←Qd]
theorem Dj:[OT.str ⟨#[104]⟩,OT.ow [wdF.o,wdF.o,wdF.o,wdF.o]]=wdP.o:=by rw [wdP,Tm.IE]; rfl
theorem IK {α β:Type} (f:α→β) (x:α) (n:Nat):(zG n x).map f++[f x]=(zG (n+1) x).map f:=by
 rw [List.replicate_succ',zT]; rfl
theorem No:wdF.nodes=2:=by rw [wdF,Tm.Av]; show 1+((Tm.mk _ []).nodes+0)=2; rw [Tm.Av]; rfl
theorem Hk:wdP.nodes=9:=by
 rw [wdP,Tm.Av]
 show 1+(wdF.nodes+(wdF.nodes+(wdF.nodes+(wdF.nodes+0))))=9
 rw [No]
theorem QV (l:List Int) (hl:Bytes l) (hn:l.length≤1099511627776) (p s:Int) (h0:0≤p) (h1:p≤1099000000000):∃ t p' s',E 96 [.ptr 0 0] [cur l p s]=some (tmH t 1,[cur l p' s',GE t])∧(p≤p'∧p'≤p+2)∧t.nodes≤150:=by
 obtain ⟨Q,hQ⟩:∃ Q:SV × List Ob→Prop,Q=fun out=>∃ t p' s',out=(tmH t 1,[cur l p' s',GE t])∧(p≤p'∧p'≤p+2)∧t.nodes≤150:=⟨_,rfl⟩
 suffices hq0:∃ out,E 96 [.ptr 0 0] [cur l p s]=some out∧Q out by
  obtain ⟨out,hq1,hq2⟩:=hq0
  rw [hQ] at hq2
  obtain ⟨t,p',s',rfl,hq3⟩:=hq2
  exact ⟨t,p',s',hq1,hq3⟩
 have h10:((1:Int)=0)=False:=by simp
 refine AO GF AX (of_decide_eq_true rfl) ?_
 simp (disch:=omega) only [DP,go_sem,Aa]
 refine go_loop (α:=Int) (fun i=>⟨slots 54 0 [(0,.ptr 0 0),(2,.ptr 1 0),(3,.ptr 2 0),(4,.int .i64 i)],(if i=0 then [cur l p s,tZ,.box 26 [.str ⟨#[103]⟩,.nil]] else [cur l p s,tZ,.box 26 [.str ⟨#[103]⟩,.ref 3],.row 26 2 ((zG i.toNat wdP).map Tm.o)])⟩) (fun i=>∃ k:Nat,i=k∧k≤4) (fun i=>(4-i).toNat) 0 ⟨0,rfl,by omega⟩ (by simp (disch:=omega) only [go_sem,Aa,eq_self,if_true]) ?_
 rintro i ⟨k,hi,hk⟩
 have hni:i.toNat=k:=by omega
 have hni1:(i+1).toNat=k+1:=by omega
 rcases zI k 4 with hlt | hge
 ·have q1:(i<4)=True:=eq_true (by omega)
  have hi1:(i+1=0)=False:=by simp; omega
  have hsP:=IK Tm.o wdP k
  rcases zN k with hk0 | hk0
  ·subst hk0
   obtain rfl:i=0:=hi
   simp (disch:=omega) only [go_sem,Aa,q1,eq_self,if_true,Di,Dj,zB,Tm.Dh]
   refine go_loop (α:=Int) (fun j=>⟨slots 54 0 [(0,.ptr 0 0),(2,.ptr 1 0),(3,.ptr 2 0),(4,.int .i64 0),(5,.ptr 3 0),(6,.int .i64 j)],(if (0:Int)=0 then (if j=0 then [cur l p s,tZ,.box 26 [.str ⟨#[103]⟩,.nil],.box 26 [.str ⟨#[104]⟩,.nil]] else [cur l p s,tZ,.box 26 [.str ⟨#[103]⟩,.nil],.box 26 [.str ⟨#[104]⟩,.ref 4],.row 26 2 ((zG j.toNat wdF).map Tm.o)]) else (if j=0 then [cur l p s,tZ,.box 26 [.str ⟨#[103]⟩,.ref 4],.box 26 [.str ⟨#[104]⟩,.nil],.row 26 2 ((zG (0:Int).toNat wdP).map Tm.o)] else [cur l p s,tZ,.box 26 [.str ⟨#[103]⟩,.ref 4],.box 26 [.str ⟨#[104]⟩,.ref 5],.row 26 2 ((zG (0:Int).toNat wdP).map Tm.o),.row 26 2 ((zG j.toNat wdF).map Tm.o)]))⟩) (fun j=>∃ k:Nat,j=k∧k≤4) (fun j=>(4-j).toNat) 0 ⟨0,rfl,by omega⟩ (by simp (disch:=omega) only [go_sem,Aa,eq_self,if_true,Di,Dj,zB,Tm.Dh]) ?_
   rintro j ⟨n,hj,hn4⟩
   have hnj:j.toNat=n:=by omega
   have hnj1:(j+1).toNat=n+1:=by omega
   have hj1:(j+1=0)=False:=by simp; omega
   rcases zI n 4 with hlt2 | hge2
   ·have q2:(j<4)=True:=eq_true (by omega)
    have hsF:=IK Tm.o wdF n
    rcases zN n with hn0 | hn0
    ·subst hn0
     obtain rfl:j=0:=hj
     simp (disch:=omega) only [go_sem,Aa,q2,eq_self,if_true,Di,Dj,zB,Tm.Dh]
     refine ⟨1,⟨1,rfl,by omega⟩,by omega,?_⟩
     simp (disch:=omega) only [go_sem,Aa,eq_self,if_true,h10,if_false,Di,Dj,zB,Tm.Dh]
    ·have hj0:(j=0)=False:=by simp; omega
     simp (disch:=omega) only [go_sem,Aa,q2,eq_self,if_true,hj0,if_false,hnj,Di,Dj,zB,Tm.Dh]
     refine ⟨j+1,⟨n+1,by omega,by omega⟩,by omega,?_⟩
     simp (disch:=omega) only [go_sem,Aa,eq_self,if_true,hj1,if_false,hnj,hnj1,hsF,Di,Dj,zB,Tm.Dh]
   ·obtain rfl:n=4:=by omega
    have hj4:j=4:=hj
    subst hj4
    have q2:((4:Int)=0)=False:=by simp
    simp (disch:=omega) only [go_sem,Aa,q2,eq_self,if_true,if_false,Di,Dj,zB,Tm.Dh]
    refine ⟨1,⟨1,rfl,by omega⟩,by omega,?_⟩
    simp (disch:=omega) only [go_sem,Aa,h10,if_false,Di,Dj,zB,Tm.Dh]
  ·have hi0:(i=0)=False:=by simp; omega
   simp (disch:=omega) only [go_sem,Aa,q1,hi0,if_false,Di,Dj,zB,Tm.Dh]
   refine go_loop (α:=Int) (fun j=>⟨slots 54 0 [(0,.ptr 0 0),(2,.ptr 1 0),(3,.ptr 2 0),(4,.int .i64 i),(5,.ptr 3 0),(6,.int .i64 j)],(if i=0 then (if j=0 then [cur l p s,tZ,.box 26 [.str ⟨#[103]⟩,.nil],.box 26 [.str ⟨#[104]⟩,.nil]] else [cur l p s,tZ,.box 26 [.str ⟨#[103]⟩,.nil],.box 26 [.str ⟨#[104]⟩,.ref 4],.row 26 2 ((zG j.toNat wdF).map Tm.o)]) else (if j=0 then [cur l p s,tZ,.box 26 [.str ⟨#[103]⟩,.ref 4],.box 26 [.str ⟨#[104]⟩,.nil],.row 26 2 ((zG i.toNat wdP).map Tm.o)] else [cur l p s,tZ,.box 26 [.str ⟨#[103]⟩,.ref 4],.box 26 [.str ⟨#[104]⟩,.ref 5],.row 26 2 ((zG i.toNat wdP).map Tm.o),.row 26 2 ((zG j.toNat wdF).map Tm.o)]))⟩) (fun j=>∃ k:Nat,j=k∧k≤4) (fun j=>(4-j).toNat) 0 ⟨0,rfl,by omega⟩ (by simp (disch:=omega) only [go_sem,Aa,hi0,if_false,eq_self,if_true,Di,Dj,zB,Tm.Dh]) ?_
   rintro j ⟨n,hj,hn4⟩
   have hnj:j.toNat=n:=by omega
   have hnj1:(j+1).toNat=n+1:=by omega
   have hj1:(j+1=0)=False:=by simp; omega
   rcases zI n 4 with hlt2 | hge2
   ·have q2:(j<4)=True:=eq_true (by omega)
    have hsF:=IK Tm.o wdF n
    rcases zN n with hn0 | hn0
    ·subst hn0
     obtain rfl:j=0:=hj
     simp (disch:=omega) only [go_sem,Aa,q2,hi0,if_false,eq_self,if_true,Di,Dj,zB,Tm.Dh]
     refine ⟨1,⟨1,rfl,by omega⟩,by omega,?_⟩
     simp (disch:=omega) only [go_sem,Aa,hi0,h10,if_false,Di,Dj,zB,Tm.Dh]
    ·have hj0:(j=0)=False:=by simp; omega
     simp (disch:=omega) only [go_sem,Aa,q2,hi0,hj0,if_false,hnj,Di,Dj,zB,Tm.Dh]
     refine ⟨j+1,⟨n+1,by omega,by omega⟩,by omega,?_⟩
     simp (disch:=omega) only [go_sem,Aa,hi0,hj1,if_false,hnj,hnj1,hsF,Di,Dj,zB,Tm.Dh]
   ·obtain rfl:n=4:=by omega
    have hj4:j=4:=hj
    subst hj4
    have q2:((4:Int)=0)=False:=by simp
    simp (disch:=omega) only [go_sem,Aa,q2,hi0,if_false,hni,Di,Dj,zB,Tm.Dh]
    refine ⟨i+1,⟨k+1,by omega,by omega⟩,by omega,?_⟩
    simp (disch:=omega) only [go_sem,Aa,hi1,if_false,hni1,hsP,Di,Dj,zB,Tm.Dh]
 ·obtain rfl:k=4:=by omega
  have hi4:i=4:=hi
  subst hi4
  have q2:((4:Int)=0)=False:=by simp
  obtain ⟨b1,p1,s1,hb1,g1,g2⟩:=JK l hl hn 2 (by omega) (by omega) p s h0 (by omega)
  obtain ⟨b2,p2,s2,hb2,g3,g4⟩:=JK l hl hn 2 (by omega) (by omega) p1 s1 (by omega) (by omega)
  have n4:(Tm.mk ⟨#[103]⟩ (zG 4 wdP)).nodes=37:=by
   rw [Tm.Av]
   show 1+(wdP.nodes+(wdP.nodes+(wdP.nodes+(wdP.nodes+0))))=37
   rw [Hk]
  have n3:(Tm.mk ⟨#[103]⟩ (zG 3 wdP)).nodes=28:=by
   rw [Tm.Av]
   show 1+(wdP.nodes+(wdP.nodes+(wdP.nodes+0)))=28
   rw [Hk]
  have n5:(Tm.mk ⟨#[103]⟩ (zG 3 wdP++[.mk ⟨#[102]⟩ [.mk ⟨#[98]⟩ []]])).nodes=30:=by
   rw [Tm.Av]
   show 1+(wdP.nodes+(wdP.nodes+(wdP.nodes+((Tm.mk _ [.mk _ []]).nodes+0))))=30
   rw [Hk,Tm.Av]
   show 1+(9+(9+(9+(1+((Tm.mk _ []).nodes+0)+0))))=30
   rw [Tm.Av]; rfl
  cases b1 <;> cases b2
  ·simp (disch:=omega) only [go_sem,Aa,q2,if_false,hb1,hb2,AK]
   rw [hQ]
   exact ⟨.mk ⟨#[103]⟩ (zG 4 wdP),p2,s2,rfl,by omega,by omega⟩
  ·simp (disch:=omega) only [go_sem,Aa,q2,if_false,hb1,hb2,AK]
   rw [hQ]
   exact ⟨.mk ⟨#[103]⟩ (zG 4 wdP),p2,s2,rfl,by omega,by omega⟩
  ·simp (disch:=omega) only [go_sem,Aa,q2,if_false,hb1,hb2,AK]
   rw [hQ]
   exact ⟨.mk ⟨#[103]⟩ (zG 3 wdP),p2,s2,rfl,by omega,by omega⟩
  ·simp (disch:=omega) only [go_sem,Aa,q2,if_false,hb1,hb2,AK]
   rw [hQ]
   exact ⟨.mk ⟨#[103]⟩ (zG 3 wdP++[.mk ⟨#[102]⟩ [.mk ⟨#[98]⟩ []]]),p2,s2,rfl,by omega,by omega⟩
theorem O2 (x:Tm) (hn:x.nodes≤1099511627776) (ih:∀ y∈x.args,E 41 [y.sv] []=some (y.osv,y.obs)):E 41 [x.sv] []=some (x.osv,x.obs):=by
 have hl:=Tm.length_le x.args
 have hne:=Tm.Av x
 have h10:((1:Int)=0)=False:=by simp
 have hfu:=Tm.Fg x.args
 have her:=Tm.Hi x.args
 refine Al Kl BB (of_decide_eq_true rfl) ?_
 simp (disch:=omega) only [GC,go_sem,Aa]
 refine go_loop (α:=Int) (fun a=>⟨slots 27 0 [(1,.ptr 0 0),(2,.ptr 1 0),(3,.ptr 2 0),(4,.int .i64 a)],(if a=0 then [.box 26 [.str x.name,.arr (x.args.map Tm.d)],.box 26 [.str ⟨#[]⟩,.nil],.box 26 [.str x.name,.nil]] else [.box 26 [.str x.name,.arr (x.args.map Tm.d)],.box 26 [.str ⟨#[]⟩,.nil],.box 26 [.str x.name,.ref 3],.row 26 2 ((x.args.take a.toNat).map Tm.o)])⟩) (fun a=>∃ k:Nat,a=k∧k≤(x.args).length) (fun a=>(x.args).length-(a).toNat) 0 ⟨0,rfl,zO _⟩ (by simp (disch:=omega) only [go_sem,Aa,eq_self,if_true]) ?_
 rintro i ⟨k,hi,hk⟩
 have hni:i.toNat=k:=by omega
 have hni1:(i+1).toNat=k+1:=by omega
 rcases zI k (x.args).length with hlt | hge
 ·have hg:=get_at Tm.d hlt
  rw [Tm.E7] at hg
  have hc:=ih x.args[k] (zH hlt)
  have hs:=O0 Tm.o hlt
  rw [Tm.IE] at hs
  rcases zN k with h0 | h0
  ·subst h0
   obtain rfl:i=0:=hi
   rw [List.take_zero,zK,List.nil_append] at hs
   simp (disch:=omega) only [go_sem,Aa,hni,hg,hc,BB,eq_self,if_true,Tm.osv,Tm.obs]
   refine ⟨1,⟨1,rfl,hlt⟩,by omega,?_⟩
   simp (disch:=omega) only [go_sem,Aa,h10,if_false,hs]
  ·have hi0:(i=0)=False:=by simp; omega
   have hi1:(i+1=0)=False:=by simp; omega
   have htl:(x.args.take k).length=k:=by rw [List.length_take]; omega
   simp (disch:=omega) only [go_sem,Aa,hni,hg,hc,BB,hi0,if_false,htl,Tm.osv,Tm.obs]
   refine ⟨i+1,⟨k+1,by omega,hlt⟩,by omega,?_⟩
   simp (disch:=omega) only [go_sem,Aa,hni1,hi1,if_false,hs]
 ·obtain rfl:k=x.args.length:=by omega
  have ht:x.args.take x.args.length=x.args:=List.take_length
  rcases zN x.args.length with h0 | h0
  ·have hx:x.args=[]:=zW h0
   obtain rfl:i=0:=by omega
   simp (disch:=omega) only [go_sem,Aa,hni,hx,eq_self,if_true,zK,List.length_nil,Tm.osv,Tm.obs]
  ·have hi0:(i=0)=False:=by simp; omega
   simp (disch:=omega) only [go_sem,Aa,hni,hi0,if_false,ht,hfu,her,Tm.osv,Tm.obs]
theorem M6 (x:Tm) (hn:x.nodes≤1099511627776):E 41 [x.sv] []=some (x.osv,x.obs) :=
 O2 x hn fun y hy=>M6 y (by have:=Tm.B4 hy; have:=Tm.Av x; omega)
termination_by SizeOf.sizeOf x
decreasing_by exact Tm.Bj hy
theorem Tm.Ev (x:ByteArray) (l:List Tm):(Tm.mk x l).nodes=1+Tm.Bg l:=Tm.Av _
theorem Tm.Hm:∀ (a b:List Tm),Tm.Bg (a++b)=Tm.Bg a+Tm.Bg b
 | [],b=>by simp [Tm.Bg]
 | x :: a,b=>by simp only [zS,Tm.Bg,Tm.Hm a b]; omega
theorem Tm.QW (a b c:Tm):Tm.Bg [a,b,c]=a.nodes+(b.nodes+(c.nodes+0)):=rfl
theorem Tm.QX (a:Tm):Tm.Bg [a]=a.nodes+0:=rfl
theorem Tm.JM:∀ (l:List Tm) (k:Nat) (w:Tm),Tm.Bg (l.set k w)≤Tm.Bg l+w.nodes
 | [],_,_=>by simp [Tm.Bg]
 | x :: l,0,w=>by simp only [z3,Tm.Bg]; omega
 | x :: l,k+1,w=>by
  have:=Tm.JM l k w
  simp only [zZ,Tm.Bg]; omega
theorem Tm.IL (t:Tm):t.args.length+1≤t.nodes:=by
 rw [Tm.Av]
 have:=Tm.length_le t.args
 omega
theorem Np (l:List Int) (hl:Bytes l) (hn:l.length≤1099511627776) (p s:Int) (h0:0≤p) (h1:p≤1096000000000):∃ t p' s',E 68 [.ptr 0 0] [cur l p s]=some (tmH t 1,[cur l p' s',GE t])∧(p≤p'∧p'≤p+400)∧t.nodes≤150:=by
 obtain ⟨Q,hQ⟩:∃ Q:SV × List Ob→Prop,Q=fun out=>∃ t p' s',out=(tmH t 1,[cur l p' s',GE t])∧(p≤p'∧p'≤p+400)∧t.nodes≤150:=⟨_,rfl⟩
 suffices hq0:∃ out,E 68 [.ptr 0 0] [cur l p s]=some out∧Q out by
  obtain ⟨out,hq1,hq2⟩:=hq0
  rw [hQ] at hq2
  obtain ⟨t,p',s',rfl,hq3⟩:=hq2
  exact ⟨t,p',s',hq1,hq3⟩
 obtain ⟨t,p1,s1,ht,⟨g1,g2⟩,g3⟩:=Fi l hl hn p s h0 (by omega)
 obtain ⟨v,p2,s2,hv,⟨v0,v1⟩,g4,g5⟩:=Fh l hl hn 24 (by omega) (by omega) p1 s1 (by omega) (by omega)
 have hal:=Tm.IL t
 rcases (show v=0∨v=1∨v=2∨v=3∨v=4∨(¬ v=0∧¬ v=1∧¬ v=2∧¬ v=3∧¬ v=4) by omega) with rfl | rfl | rfl | rfl | rfl | ⟨k0,k1,k2,k3,k4⟩
 ·obtain ⟨x,p3,s3,ho,_,g6,g7⟩:=PI l hl hn [⟨#[]⟩,⟨#[116,114,117,101]⟩,⟨#[116,114,117,116,104]⟩,⟨#[105,102]⟩,⟨#[88,121,122,57]⟩,⟨#[88,121,122,57,57]⟩,⟨#[120,65]⟩,⟨#[97,95,98]⟩,⟨#[97,98,99,100,101,102]⟩,⟨#[97,98,99,100,101,102,103]⟩,⟨#[95,97]⟩,⟨#[57]⟩,⟨#[88,95]⟩,⟨#[61]⟩] (by decide) (by decide) p2 s2 (by omega) (by omega)
  simp only [zA,zK] at ho
  refine AO AU AA (of_decide_eq_true rfl) ?_
  simp (disch:=omega) only [AN,go_sem,Aa,ht,hv,ho,Ap,Aq,AB,AT,AX]
  rw [hQ]
  exact ⟨.mk x t.args,p3,s3,rfl,by omega,by rw [Tm.Ev]; have:=Tm.Av t; omega⟩
 ·obtain ⟨u,p3,s3,hu,⟨u0,u1⟩,g6,g7⟩:=Fh l hl hn 3 (by omega) (by omega) p2 s2 (by omega) (by omega)
  have hi:dec (inK .i64 (7+u))=true:=Co (by omega) (by omega)
  obtain ⟨t2,p4,s4,ho,⟨g8,g9⟩,g10⟩:=PL l hl hn (7+u) (by omega) (by omega) p3 s3 (by omega) (by omega)
  refine AO AU AA (of_decide_eq_true rfl) ?_
  simp (disch:=omega) only [AN,go_sem,Aa,ht,hv,hu,hi,ho,Ap,Aq,AB,AT,AX]
  rw [hQ]
  exact ⟨t2,p4,s4,rfl,by omega,g10⟩
 ·obtain ⟨t2,p3,s3,ho,⟨g8,g9⟩,g10⟩:=QV l hl hn p2 s2 (by omega) (by omega)
  refine AO AU AA (of_decide_eq_true rfl) ?_
  simp (disch:=omega) only [AN,go_sem,Aa,ht,hv,ho,Ap,Aq,AB,AT,AX]
  rw [hQ]
  exact ⟨t2,p3,s3,rfl,by omega,g10⟩
 ·obtain ⟨t2,p3,s3,hu,⟨a1,a2⟩,a3⟩:=Fi l hl hn p2 s2 (by omega) (by omega)
  obtain ⟨t3,p4,s4,hw,⟨b1,b2⟩,b3⟩:=Fi l hl hn p3 s3 (by omega) (by omega)
  obtain ⟨t4,p5,s5,hx,⟨c1,c2⟩,c3⟩:=Fi l hl hn p4 s4 (by omega) (by omega)
  refine AO AU AA (of_decide_eq_true rfl) ?_
  simp (disch:=omega) only [AN,go_sem,Aa,ht,hv,hu,hw,hx,Ap,Aq,AB,AT,AX]
  rw [hQ]
  refine ⟨.mk t.name (t.args++[t2,t3,t4]),p5,s5,?_,by omega,by rw [Tm.Ev,Tm.Hm,Tm.QW]; have:=Tm.Av t; omega⟩
  show _=(tmH (.mk t.name (t.args++[t2,t3,t4])) 1,[cur l p5 s5,.row 26 2 ((t.args++[t2,t3,t4]).map Tm.osh)])
  rw [zT]
  rfl
 ·rcases hc:t.args with _ | ⟨a0,ar⟩
  ·have q0:((0:Int)<(t.args.length:Int))=False:=eq_false (by rw [hc]; simp)
   rw [←hc] at *
   refine AO AU AA (of_decide_eq_true rfl) ?_
   simp (disch:=omega) only [AN,go_sem,Aa,ht,hv,q0,Ap,Aq,AB,AT,AX]
   rw [hQ]
   exact ⟨t,p2,s2,rfl,by omega,by omega⟩
  ·have q0:((0:Int)<(t.args.length:Int))=True:=eq_true (by rw [hc]; simp)
   obtain ⟨x,p3,s3,ho,_,g6,g7⟩:=PI l hl hn [⟨#[61]⟩,⟨#[]⟩,⟨#[81,49]⟩,⟨#[98,50]⟩] (by decide) (by decide) p2 s2 (by omega) (by omega)
   simp only [zA,zK] at ho
   have hm:t.args.map Tm.osh=[.str a0.name,.sh (a0.args.map Tm.d)] :: ar.map Tm.osh:=by rw [hc]; rfl
   have hgl:(t.args.map Tm.osh)[0]?=some [.str a0.name,.sh (a0.args.map Tm.d)]:=by rw [hm]; rfl
   have hst:∀ y,(t.args.map Tm.osh).set 0 y=y :: ar.map Tm.osh:=fun y=>by rw [hm]; rfl
   have q1:0<t.args.length:=by rw [hc]; simp
   have hnn:t.nodes=1+(a0.nodes+Tm.Bg ar):=by rw [Tm.Av,hc]; rfl
   refine AO AU AA (of_decide_eq_true rfl) ?_
   simp (disch:=omega) only [AN,go_sem,Aa,ht,hv,q0,ho,hgl,hst,q1,Ap,Aq,AB,AT,AX]
   rw [hQ]
   refine ⟨.mk t.name (.mk x a0.args :: ar),p3,s3,?_,by omega,?_⟩
   ·rfl
   ·rw [Tm.Ev]
    show 1+((Tm.mk x a0.args).nodes+Tm.Bg ar)≤_
    rw [Tm.Ev]
    have:=Tm.Av a0
    omega
 ·have k0:=eq_false k0
  have k1:=eq_false k1
  have k2:=eq_false k2
  have k3:=eq_false k3
  have k4:=eq_false k4
  refine AO AU AA (of_decide_eq_true rfl) ?_
  simp (disch:=omega) only [AN,go_sem,Aa,ht,hv,k0,k1,k2,k3,k4,Ap,Aq,AB,AT,AX]
  rw [hQ]
  exact ⟨t,p2,s2,rfl,by omega,by omega⟩
theorem EA (l:List Int) (hl:Bytes l) (hn:l.length≤1099511627776) (p s:Int) (h0:0≤p) (h1:p≤1095000000000):∃ t p' s',E 39 [.ptr 0 0] [cur l p s]=some (tmH t 1,[cur l p' s',GE t])∧(p≤p'∧p'≤p+500)∧t.nodes≤150:=by
 obtain ⟨Q,hQ⟩:∃ Q:SV × List Ob→Prop,Q=fun out=>∃ t p' s',out=(tmH t 1,[cur l p' s',GE t])∧(p≤p'∧p'≤p+500)∧t.nodes≤150:=⟨_,rfl⟩
 suffices hq0:∃ out,E 39 [.ptr 0 0] [cur l p s]=some out∧Q out by
  obtain ⟨out,hq1,hq2⟩:=hq0
  rw [hQ] at hq2
  obtain ⟨t,p',s',rfl,hq3⟩:=hq2
  exact ⟨t,p',s',hq1,hq3⟩
 obtain ⟨b1,p1,s1,hb1,g1,g2⟩:=JK l hl hn 3 (by omega) (by omega) p s h0 (by omega)
 cases b1 with
 | false =>
  obtain ⟨t2,p3,s3,ho,⟨g8,g9⟩,g10⟩:=Np l hl hn p1 s1 (by omega) (by omega)
  refine AO BQ AD (of_decide_eq_true rfl) ?_
  simp (disch:=omega) only [B3,go_sem,Aa,hb1,ho,AK,Aq,AP,AA]
  rw [hQ]
  exact ⟨t2,p3,s3,rfl,by omega,g10⟩
 | true =>
  obtain ⟨t,p2,s2,ha,⟨g3,g4⟩,g5⟩:=QU l hl hn p1 s1 (by omega) (by omega)
  obtain ⟨b2,p3,s3,hb2,g6,g7⟩:=JK l hl hn 12 (by omega) (by omega) p2 s2 (by omega) (by omega)
  have hal:=Tm.IL t
  cases b2 with
  | false =>
   refine AO BQ AD (of_decide_eq_true rfl) ?_
   simp (disch:=omega) only [B3,go_sem,Aa,hb1,ha,hb2,AK,Aq,AP,AA]
   rw [hQ]
   exact ⟨t,p3,s3,rfl,by omega,by omega⟩
  | true =>
   obtain ⟨t2,p4,s4,hu,⟨a1,a2⟩,a3⟩:=Fi l hl hn p3 s3 (by omega) (by omega)
   refine AO BQ AD (of_decide_eq_true rfl) ?_
   simp (disch:=omega) only [B3,go_sem,Aa,hb1,ha,hb2,hu,AK,Aq,AP,AA]
   rw [hQ]
   refine ⟨.mk t.name (t.args++[t2]),p4,s4,?_,by omega,by rw [Tm.Ev,Tm.Hm,Tm.QX]; have:=Tm.Av t; omega⟩
   show _=(tmH (.mk t.name (t.args++[t2])) 1,[cur l p4 s4,.row 26 2 ((t.args++[t2]).map Tm.osh)])
   rw [zT]
   rfl
def CB:SC:=(.seq (.reg [⟨(some 2),none,(.alloc 26 [(.str ⟨#[]⟩),.nil])⟩]) (.seq (.reg [⟨some 4,none,.mv (.t 0)⟩,⟨some 5,none,.build [.nil,(.int .i64 0),(.int .u64 0)] [(0,(1,(.t 4)))]⟩,⟨some 6,none,.boxv 60 3 (.t 5)⟩,⟨some 3,none,.mv (.t 6)⟩]) (.seq (.reg [⟨some 7,none,.mv (.t 3)⟩,⟨some 8,none,.call 39 [(.t 7)]⟩,⟨none,none,(.store 2 (.t 2) (.t 8))⟩]) .ret)))
theorem EB:A2 Try.prog 28=some ⟨9,CB,[(.cell 2 true 2)]⟩:=by kernel_rfl
theorem EC:modes 28=⟨[],.frz,none,false⟩:=by unfold modes; rfl
def Bp:SC:=(.seq (.reg [⟨(some 2),none,(.alloc 26 [(.str ⟨#[]⟩),.nil])⟩,⟨(some 3),none,(.alloc 26 [(.str ⟨#[]⟩),.nil])⟩]) (.seq (.reg [⟨some 7,none,.mv (.t 0)⟩,⟨some 8,none,.build [.nil,(.int .i64 0),(.int .u64 0)] [(0,(1,(.t 7)))]⟩,⟨some 9,none,.boxv 60 3 (.t 8)⟩,⟨some 4,none,.mv (.t 9)⟩]) (.seq (.reg [⟨some 10,none,.mv (.t 4)⟩,⟨some 11,none,.call 39 [(.t 10)]⟩,⟨(some 5),none,(.alloc 26 [(.str ⟨#[]⟩),.nil])⟩,⟨none,none,(.store 2 (.t 5) (.t 11))⟩]) (.seq (.seq (.reg [⟨some 12,none,.mv (.t 4)⟩,⟨some 13,none,.call 40 [(.t 12),(.c (.int .i64 3))]⟩]) (.block 0 (.seq (.reg [⟨some 15,none,.bin .eql false (.t 13) (.c (.int .i64 0))⟩,⟨some 14,none,.mv (.t 15)⟩]) (.cond (.t 14) (.seq (.dreg [[],[],[1],[0,2,1],[2,1,3,0]] [⟨some 16,none,.load true 2 (.t 5)⟩,⟨some 17,none,.load true 2 (.t 5)⟩,⟨some 18,none,.call 41 [(.t 17)]⟩,⟨none,none,(.store 2 (.t 2) (.t 16))⟩,⟨none,none,(.store 2 (.t 3) (.t 18))⟩]) .ret) (.seq (.reg [⟨some 20,none,.bin .eql false (.t 13) (.c (.int .i64 1))⟩,⟨some 19,none,.mv (.t 20)⟩]) (.cond (.t 19) (.seq (.reg [⟨some 21,none,.faddr 1 (.t 5)⟩,⟨some 22,none,.load false 1 (.t 21)⟩,⟨some 23,none,.len false (.t 22)⟩,⟨some 24,none,.bin .gtr false (.t 23) (.c (.int .i64 0))⟩]) (.cond (.t 24) (.seq (.reg [⟨some 25,none,.load true 2 (.t 5)⟩,⟨some 26,none,.call 41 [(.t 25)]⟩,⟨(some 6),none,(.alloc 26 [(.str ⟨#[]⟩),.nil])⟩,⟨none,none,(.store 2 (.t 6) (.t 26))⟩]) (.seq (.dreg [[],[0],[],[],[3],[4,3],[2,5,4,3],[],[7,6,2,5,4,3],[1,0,6,2,5,4,3,7,8],[9,1,0,6,2,5,4,3,7,8]] [⟨some 27,none,.faddr 1 (.t 6)⟩,⟨some 28,none,.load false 1 (.t 27)⟩,⟨some 29,none,.mv (.t 4)⟩,⟨some 30,none,.faddr 1 (.t 6)⟩,⟨some 31,none,.load false 1 (.t 30)⟩,⟨some 32,none,.len false (.t 31)⟩,⟨some 33,none,.call 40 [(.t 29),(.t 32)]⟩,⟨some 34,none,.mv (.t 4)⟩,⟨some 35,none,.call 42 [(.t 34)]⟩,⟨some 36,none,.iaddr 2 (.t 28) (.t 33)⟩,⟨none,none,(.store 2 (.t 36) (.t 35))⟩]) (.seq (.dreg [[],[],[0],[1,2,0]] [⟨some 37,none,.load true 2 (.t 5)⟩,⟨some 38,none,.load true 2 (.t 6)⟩,⟨none,none,(.store 2 (.t 2) (.t 37))⟩,⟨none,none,(.store 2 (.t 3) (.t 38))⟩]) .ret))) .skip)) .skip)))))) (.seq (.dreg [[],[],[1],[0,2,1],[2,1,3,0]] [⟨some 39,none,.load true 2 (.t 5)⟩,⟨some 40,none,.mv (.t 4)⟩,⟨some 41,none,.call 39 [(.t 40)]⟩,⟨none,none,(.store 2 (.t 2) (.t 39))⟩,⟨none,none,(.store 2 (.t 3) (.t 41))⟩]) .ret)))))
theorem B7:A2 Try.prog 17=some ⟨42,Bp,[(.cell 2 true 2),(.cell 3 true 2)]⟩:=by kernel_rfl
theorem Ab:modes 17=⟨[],.frz,none,false⟩:=by unfold modes; rfl
def C5:SC:=(.seq (.reg [⟨(some 2),none,(.alloc 26 [(.str ⟨#[]⟩),.nil])⟩,⟨(some 3),none,(.alloc 26 [(.str ⟨#[]⟩),.nil])⟩]) (.seq (.reg [⟨some 4,none,.mv (.t 0)⟩,⟨some 5,none,.call 17 [(.t 4)]⟩,⟨some 6,none,.ext (.t 5) 0⟩,⟨some 7,none,.ext (.t 5) 1⟩,⟨none,none,(.store 2 (.t 2) (.t 6))⟩,⟨none,none,(.store 2 (.t 3) (.t 7))⟩]) .ret))
theorem Ew:A2 Try.prog 16=some ⟨8,C5,[(.cell 2 true 2),(.cell 3 true 2)]⟩:=by kernel_rfl
theorem Ac:modes 16=⟨[],.frz,none,false⟩:=by unfold modes; rfl
theorem M7 (l:List Int) (hl:Bytes l) (hn:l.length≤1099511627776):∃ t:Tm,E 28 [.arr (l.map by_)] []=some (t.sv,[])∧t.nodes≤150:=by
 obtain ⟨t,p1,s1,ht,_,g⟩:=EA l hl hn 0 0 (by omega) (by omega)
 refine ⟨t,?_,g⟩
 refine Al EB EC (of_decide_eq_true rfl) ?_
 simp (disch:=omega) only [CB,go_sem,Aa,ht,AD,Ap,Aq,BB]
theorem Ex (l:List Int) (hl:Bytes l) (hn:l.length≤1099511627776):∃ a b:Tm,E 17 [.arr (l.map by_)] []=some (.tup [a.sv,b.sv],[])∧a.nodes≤150∧b.nodes≤300:=by
 obtain ⟨Q,hQ⟩:∃ Q:SV × List Ob→Prop,Q=fun out=>∃ a b,out=(.tup [Tm.sv a,Tm.sv b],[])∧Tm.nodes a≤150∧Tm.nodes b≤300:=⟨_,rfl⟩
 suffices hq0:∃ out,E 17 [.arr (l.map by_)] []=some out∧Q out by
  obtain ⟨out,hq1,hq2⟩:=hq0
  rw [hQ] at hq2
  obtain ⟨a,b,rfl,hq3⟩:=hq2
  exact ⟨a,b,hq1,hq3⟩
 obtain ⟨t,p1,s1,ht,⟨g1,g2⟩,g3⟩:=EA l hl hn 0 0 (by omega) (by omega)
 obtain ⟨v,p2,s2,hv,⟨v0,v1⟩,g4,g5⟩:=Fh l hl hn 3 (by omega) (by omega) p1 s1 (by omega) (by omega)
 obtain ⟨u,p3,s3,hu,⟨g6,g7⟩,g8⟩:=EA l hl hn p2 s2 (by omega) (by omega)
 have hal:=Tm.IL t
 have hown:=M6 t (by omega)
 rcases (show v=0∨v=1∨v=2 by omega) with rfl | rfl | rfl
 ·refine AO B7 Ab (of_decide_eq_true rfl) ?_
  simp (disch:=omega) only [Bp,go_sem,Aa,ht,hv,hown,Tm.osv,Tm.obs,AD,Ap,Aq,BB]
  rw [hQ]
  exact ⟨t,t,rfl,g3,by omega⟩
 ·by_cases hc:0<t.args.length
  ·have q0:((0:Int)<(t.args.length:Int))=True:=eq_true (by omega)
   obtain ⟨k,p4,s4,hk,⟨k0,k1⟩,a1,a2⟩:=Fh l hl hn t.args.length (by omega) (by omega) p2 s2 (by omega) (by omega)
   obtain ⟨w,p5,s5,hw,⟨b1,b2⟩,b3⟩:=Fi l hl hn p4 s4 (by omega) (by omega)
   have q1:k.toNat<t.args.length:=by omega
   have hgl:=get_at Tm.o q1
   rw [Tm.IE] at hgl
   have hf:OT.A6 ((t.args.map Tm.o).set k.toNat [.str w.name,.ow (w.args.map Tm.osh)])=true:=OT.IJ _ (Tm.fus _) (by simp only [OT.C4,OT.full,Tm.Fg,zF])
   have he:OT.erss ((t.args.map Tm.o).set k.toNat [.str w.name,.ow (w.args.map Tm.osh)])=(t.args.set k.toNat w).map Tm.d:=by
    rw [OT.Lf,Tm.erss,List.map_set,Tm.E7 w]
    simp only [OT.ers,OT.er,Tm.Hi]
   have hz:Tm.Bg (t.args.set k.toNat w)≤Tm.Bg t.args+w.nodes:=Tm.JM _ _ _
   refine AO B7 Ab (of_decide_eq_true rfl) ?_
   simp (disch:=omega) only [Bp,go_sem,Aa,ht,hv,hown,Tm.osv,Tm.obs,q0,hk,hw,hgl,q1,hf,he,AD,Ap,Aq,BB]
   rw [hQ]
   exact ⟨t,.mk t.name (t.args.set k.toNat w),rfl,g3,by rw [Tm.Ev]; have:=Tm.Av t; omega⟩
  ·have q0:((0:Int)<(t.args.length:Int))=False:=eq_false (by omega)
   refine AO B7 Ab (of_decide_eq_true rfl) ?_
   simp (disch:=omega) only [Bp,go_sem,Aa,ht,hv,hu,q0,AD,Ap,Aq,BB]
   rw [hQ]
   exact ⟨t,u,rfl,g3,by omega⟩
 ·refine AO B7 Ab (of_decide_eq_true rfl) ?_
  simp (disch:=omega) only [Bp,go_sem,Aa,ht,hv,hu,AD,Ap,Aq,BB]
  rw [hQ]
  exact ⟨t,u,rfl,g3,by omega⟩
theorem Gl (l:List Int) (a b:Tm) (h:E 17 [.arr (l.map by_)] []=some (.tup [a.sv,b.sv],[])):E 16 [.arr (l.map by_)] []=some (.tup [a.sv,b.sv],[]):=by
 refine Al Ew Ac (of_decide_eq_true rfl) ?_
 simp (disch:=omega) only [C5,go_sem,Aa,h,Ab]
def A7:SC:=(.seq (.reg [⟨some 6,none,.mv (.c (.bool false))⟩]) (.seq (.seq (.reg [⟨some 10,none,.mv (.t 0)⟩,⟨some 11,none,.len false (.t 10)⟩,⟨some 12,none,.mv (.t 1)⟩,⟨some 13,none,.len false (.t 12)⟩,⟨some 14,none,.bin .neq false (.t 11) (.t 13)⟩]) (.cond (.t 14) (.seq (.reg [⟨some 6,none,.mv (.c (.bool false))⟩]) .ret) .skip)) (.seq (.seq (.reg [⟨some 15,none,.mv (.t 0)⟩,⟨some 16,none,.len false (.t 15)⟩,⟨some 17,none,.mv (.c (.int .i64 0))⟩]) (.block 0 (.loop [0,1,1,0,0,0,0,0,0,0,0,0,0,0,0,1,1,1,0,0,0,0,0,0,0,0,0,0,0,0,0,0] (.seq (.reg [⟨some 18,none,.bin .lss false (.t 17) (.t 16)⟩]) (.seq (.cond (.t 18) .skip (.exit 0)) (.seq (.block 1 (.seq (.reg [⟨some 19,none,.mv (.t 17)⟩,⟨some 20,none,.iaddr 2 (.t 15) (.t 17)⟩,⟨some 21,none,.load true 2 (.t 20)⟩,⟨(some 8),none,(.alloc 26 [(.str ⟨#[]⟩),.nil])⟩,⟨some 7,none,.mv (.t 19)⟩,⟨none,none,(.store 2 (.t 8) (.t 21))⟩]) (.seq (.reg [⟨some 22,none,.mv (.t 1)⟩,⟨some 23,none,.mv (.t 7)⟩,⟨some 24,none,.iaddr 2 (.t 22) (.t 23)⟩,⟨some 25,none,.load true 2 (.t 24)⟩,⟨(some 9),none,(.alloc 26 [(.str ⟨#[]⟩),.nil])⟩,⟨none,none,(.store 2 (.t 9) (.t 25))⟩]) (.seq (.reg [⟨some 26,none,.mv (.t 2)⟩,⟨some 27,none,.load true 2 (.t 8)⟩,⟨some 28,none,.load true 2 (.t 9)⟩,⟨some 29,none,.callv (.t 26) [(.t 27),(.t 28)]⟩,⟨some 30,none,.un .not (.t 29)⟩]) (.cond (.t 30) (.seq (.reg [⟨some 6,none,.mv (.c (.bool false))⟩]) .ret) .skip))))) (.reg [⟨some 31,none,.bin .add false (.t 17) (.c (.int .i64 1))⟩,⟨some 17,none,.mv (.t 31)⟩]))))))) (.seq (.reg [⟨some 6,none,.mv (.c (.bool true))⟩]) .ret))))
theorem AL:A2 Try.prog 44=some ⟨32,A7,[(.tmp 6)]⟩:=by kernel_rfl
theorem A8:modes 44=⟨[],.asis,none,false⟩:=by unfold modes; rfl
def CC:SC:=(.seq (.reg [⟨some 2,none,.boxv 26 2 (.t 0)⟩,⟨some 3,none,.boxv 26 2 (.t 1)⟩,⟨some 4,none,.mv (.c (.bool false))⟩]) (.seq (.reg [⟨some 5,none,.faddr 0 (.t 2)⟩,⟨some 6,none,.load false 1 (.t 5)⟩,⟨some 7,none,.faddr 0 (.t 3)⟩,⟨some 8,none,.load false 1 (.t 7)⟩,⟨some 9,none,.bin .eql false (.t 6) (.t 8)⟩,⟨some 10,none,.mv (.t 9)⟩,⟨(some 11),(some (10,true)),(.faddr 1 (.t 2))⟩,⟨(some 12),(some (10,true)),(.load false 1 (.t 11))⟩,⟨(some 13),(some (10,true)),(.faddr 1 (.t 3))⟩,⟨(some 14),(some (10,true)),(.load false 1 (.t 13))⟩,⟨(some 15),(some (10,true)),(.call 44 [(.t 12),(.t 14),(.c (.fn 20 []))])⟩,⟨some 16,none,.pick (.t 10) (.t 15) (.c (.bool false))⟩,⟨some 4,none,.mv (.t 16)⟩]) .ret))
theorem DQ:A2 Try.prog 20=some ⟨17,CC,[(.tmp 4)]⟩:=by kernel_rfl
theorem Ak:modes 20=⟨[],.asis,none,false⟩:=by unfold modes; rfl
theorem GG:GT Try.prog 20=true:=by kernel_rfl
theorem H9 {α:Type} {xs ys:List α} {k:Nat} (hx:k<xs.length) (hy:k<ys.length):xs.drop k=ys.drop k ↔ xs[k]=ys[k]∧xs.drop (k+1)=ys.drop (k+1):=by
 rw [zD hx,zD hy,zX]
theorem Lg (fid:Nat) (xs ys:List Tm) (hl:xs.length≤1099511627776) (hl':ys.length≤1099511627776) (hg:GT Try.prog fid=true) (hm:(modes fid).hand=[]) (hE:∀ x∈xs,∀ y∈ys,E fid [x.sv,y.sv] []=some (.bool (dec (x=y)),[])):E 44 [.arr (xs.map Tm.d),.arr (ys.map Tm.d),.fn fid []] []=some (.bool (dec (xs=ys)),[]):=by
 by_cases hlen:xs.length=ys.length
 ·have hq:((xs.length:Int)=(ys.length:Int))=True:=by first | exact eq_true (by omega) | exact eq_false (by omega)
  refine Al AL A8 (of_decide_eq_true rfl) ?_
  simp (disch:=omega) only [A7,go_sem,Aa,hq]
  refine go_loop (α:=Int) (fun a=>⟨slots 32 0 [(1,.arr (ys.map Tm.d)),(2,.fn fid []),(15,.arr (xs.map Tm.d)),(16,.int .i64 xs.length),(17,.int .i64 a)],[]⟩) (fun a=>∃ k:Nat,a=k∧k≤(xs).length∧dec (xs.drop k=ys.drop k)=dec (xs=ys)) (fun a=>(xs).length-(a).toNat) 0 ⟨0,rfl,zO _,by rw [zJ,zJ]⟩ (by simp (disch:=omega) only [go_sem,Aa]) ?_
  rintro i ⟨k,hi,hk,hR⟩
  have hni:i.toNat=k:=by omega
  have hni1:(i+1).toNat=k+1:=by omega
  rcases zI k (xs).length with hlt | hge
  ·have hgx:=get_at Tm.d hlt
   rw [Tm.E7] at hgx
   have hlt':k<ys.length:=by omega
   have hgy:=get_at Tm.d hlt'
   rw [Tm.E7] at hgy
   have hc:=hE xs[k] (zH hlt) ys[k] (zH hlt')
   rw [Dd (H9 hlt hlt')] at hR
   by_cases h0:xs[k]=ys[k]
   ·rw [BO h0] at hc
    rw [Dd (and_iff_right h0)] at hR
    simp (disch:=omega) only [go_sem,Aa,hni,hgx,hgy,hc,hg,hm]
    exact ⟨i+1,⟨k+1,by omega,hlt,hR⟩,by omega,by first | trivial | rfl⟩
   ·rw [BP h0] at hc
    rw [BP (fun h=>h0 h.1)] at hR
    simp (disch:=omega) only [go_sem,Aa,hni,hgx,hgy,hc,hg,hm]
    exact hR
  ·rw [zC hge,zC (by omega),Ld] at hR
   simp (disch:=omega) only [go_sem,Aa,hni]
   exact hR
 ·have hq:((xs.length:Int)=(ys.length:Int))=False:=by first | exact eq_true (by omega) | exact eq_false (by omega)
  have he:dec (xs=ys)=false:=BP fun h=>hlen (by rw [h])
  rw [he]
  refine Al AL A8 (of_decide_eq_true rfl) ?_
  simp (disch:=omega) only [A7,go_sem,Aa,hq]
theorem Tm.eq_iff (x y:Tm):x=y ↔ x.name=y.name∧x.args=y.args:=by
 obtain ⟨n,a⟩:=x
 obtain ⟨m,b⟩:=y
 rw [Tm.mk.injEq]; rfl
theorem Je (x:Tm) (y:Tm) (hnx:x.nodes≤1099511627776) (hny:y.nodes≤1099511627776) (ih:∀ x'∈x.args,∀ y':Tm,x'.nodes≤1099511627776→y'.nodes≤1099511627776→E 20 [x'.sv,y'.sv] []=some (.bool (dec (x'=y')),[])):E 20 [x.sv,y.sv] []=some (.bool (dec (x=y)),[]):=by
 have lx:=Tm.length_le x.args
 have ly:=Tm.length_le y.args
 have nx:=Tm.Av x
 have ny:=Tm.Av y
 have h6:=Lg 20 x.args y.args (by omega) (by omega) GG (by rw [Ak]) fun x' hx' y' hy'=>ih x' hx' y' (by have:=Tm.B4 hx'; omega) (by have:=Tm.B4 hy'; omega)
 rw [Dd (Tm.eq_iff x y)]
 by_cases h0:x.name=y.name
 ·rw [Dd (and_iff_right h0)]
  have hq:(x.name=y.name)=True:=by simp [h0]
  refine Al DQ Ak (of_decide_eq_true rfl) ?_
  simp (disch:=omega) only [CC,go_sem,Aa,hq,h6,A8]
 ·have hq:(x.name=y.name)=False:=by simp [h0]
  rw [BP (fun h=>h0 h.1)]
  refine Al DQ Ak (of_decide_eq_true rfl) ?_
  simp (disch:=omega) only [CC,go_sem,Aa,hq]
theorem BC (x y:Tm) (hnx:x.nodes≤1099511627776) (hny:y.nodes≤1099511627776):E 20 [x.sv,y.sv] []=some (.bool (dec (x=y)),[]) :=
 Je x y hnx hny fun x' hx' y' h h'=>BC x' y' h h'
termination_by SizeOf.sizeOf x
decreasing_by exact Tm.Bj hx'
def HA:SC:=(.seq (.reg [⟨some 2,none,.mv (.c (.bool false))⟩]) (.seq (.reg [⟨some 3,none,.mv (.t 0)⟩,⟨some 4,none,.len false (.t 3)⟩,⟨some 5,none,.bin .gtr false (.t 4) (.c (.int .i64 65536))⟩,⟨some 2,none,.mv (.t 5)⟩]) .ret))
theorem Lh:A2 Try.prog 6=some ⟨6,HA,[(.tmp 2)]⟩:=by kernel_rfl
theorem Ar:modes 6=⟨[],.asis,none,false⟩:=by unfold modes; rfl
def Fj:SC:=(.seq (.reg [⟨some 4,none,.mv (.c .nil)⟩]) (.seq (.seq (.reg [⟨some 5,none,.mv (.t 1)⟩,⟨some 6,none,.mv (.t 0)⟩,⟨some 7,none,.len false (.t 6)⟩,⟨some 8,none,.bin .gtr false (.t 5) (.t 7)⟩]) (.cond (.t 8) (.reg [⟨some 9,none,.mv (.t 0)⟩,⟨some 10,none,.len false (.t 9)⟩,⟨some 1,none,.mv (.t 10)⟩]) .skip)) (.seq (.reg [⟨some 11,none,.mkrow 5 1 [(.int .u8 0)] 0 []⟩,⟨some 12,none,.mv (.t 0)⟩,⟨some 13,none,.mv (.t 1)⟩,⟨some 14,none,.slice false 1 (.t 12) (some (.t 13)) none⟩,⟨some 15,none,.append 5 1 1 [(.int .u8 0)] (.t 11) (.t 14)⟩,⟨some 16,none,.mv (.t 1)⟩,⟨some 17,none,.conv .u8 (.t 16)⟩,⟨some 18,none,.mkrow 5 1 [(.int .u8 0)] 1 [(0,(.t 17))]⟩,⟨some 19,none,.append 5 1 1 [(.int .u8 0)] (.t 15) (.t 18)⟩,⟨some 4,none,.mv (.t 19)⟩]) .ret)))
theorem HC:A2 Try.prog 18=some ⟨20,Fj,[(.tmp 4)]⟩:=by kernel_rfl
theorem As:modes 18=⟨[],.frz,none,false⟩:=by unfold modes; rfl
def CT:SC:=(.seq (.reg [⟨some 2,none,.boxv 26 2 (.t 0)⟩,⟨some 3,none,.boxv 26 2 (.t 1)⟩,⟨some 4,none,.mv (.c (.bool false))⟩]) (.seq (.seq (.reg [⟨some 6,none,.faddr 0 (.t 2)⟩,⟨some 7,none,.load false 1 (.t 6)⟩,⟨some 8,none,.faddr 0 (.t 3)⟩,⟨some 9,none,.load false 1 (.t 8)⟩,⟨some 10,none,.bin .neq false (.t 7) (.t 9)⟩,⟨some 11,none,.mv (.t 10)⟩,⟨(some 12),(some (11,false)),(.faddr 1 (.t 2))⟩,⟨(some 13),(some (11,false)),(.load false 1 (.t 12))⟩,⟨(some 14),(some (11,false)),(.len false (.t 13))⟩,⟨(some 15),(some (11,false)),(.faddr 1 (.t 3))⟩,⟨(some 16),(some (11,false)),(.load false 1 (.t 15))⟩,⟨(some 17),(some (11,false)),(.len false (.t 16))⟩,⟨(some 18),(some (11,false)),(.bin .neq false (.t 14) (.t 17))⟩,⟨some 19,none,.pick (.t 11) (.c (.bool true)) (.t 18)⟩]) (.cond (.t 19) (.seq (.reg [⟨some 4,none,.mv (.c (.bool false))⟩]) .ret) .skip)) (.seq (.seq (.reg [⟨some 5,none,.mv (.c (.int .i64 0))⟩]) (.block 0 (.loop [0,0,1,1,0,1,0,0,0,0,0,0,0,0,0,0,0,0,0,0,0,0,0,0,0,0,0,0,0,0,0,0,0,0,0,0,0,0,0] (.seq (.seq (.reg [⟨some 20,none,.mv (.t 5)⟩,⟨some 21,none,.faddr 1 (.t 2)⟩,⟨some 22,none,.load false 1 (.t 21)⟩,⟨some 23,none,.len false (.t 22)⟩,⟨some 24,none,.bin .lss false (.t 20) (.t 23)⟩]) (.cond (.t 24) .skip (.exit 0))) (.seq (.block 1 (.seq (.dreg [[],[0],[],[1,0,2],[3,1,0,2],[],[5],[],[6,5,7],[8,6,5,7],[4,3,1,0,2,9,8,6,5,7],[10,4,3,1,0,2,9,8,6,5,7]] [⟨some 27,none,.faddr 1 (.t 2)⟩,⟨some 28,none,.load false 1 (.t 27)⟩,⟨some 29,none,.mv (.t 5)⟩,⟨some 30,none,.iaddr 2 (.t 28) (.t 29)⟩,⟨some 31,none,.load true 2 (.t 30)⟩,⟨some 32,none,.faddr 1 (.t 3)⟩,⟨some 33,none,.load false 1 (.t 32)⟩,⟨some 34,none,.mv (.t 5)⟩,⟨some 35,none,.iaddr 2 (.t 33) (.t 34)⟩,⟨some 36,none,.load true 2 (.t 35)⟩,⟨some 37,none,.call 15 [(.t 31),(.t 36)]⟩,⟨some 38,none,.un .not (.t 37)⟩]) (.cond (.t 38) (.seq (.reg [⟨some 4,none,.mv (.c (.bool false))⟩]) .ret) .skip))) (.reg [⟨some 25,none,.mv (.t 5)⟩,⟨some 26,none,.bin .add false (.t 25) (.c (.int .i64 1))⟩,⟨some 5,none,.mv (.t 26)⟩])))))) (.seq (.reg [⟨some 4,none,.mv (.c (.bool true))⟩]) .ret))))
theorem DZ:A2 Try.prog 15=some ⟨39,CT,[(.tmp 4)]⟩:=by kernel_rfl
theorem Am:modes 15=⟨[],.asis,none,false⟩:=by unfold modes; rfl
theorem QY (l:List Int):E 6 [.arr (l.map by_)] []=some (.bool (dec (65536<(l.length:Int))),[]):=by
 refine Al Lh Ar (of_decide_eq_true rfl) ?_
 simp (disch:=omega) only [HA,go_sem,Aa]
def D7 (l:List Int) (n:Int):List Int:=l.drop (min n.toNat l.length)++[((min n.toNat l.length:Nat):Int) % 256]
theorem LR {l:List Int} (h:Bytes l) (n:Int):Bytes (D7 l n):=by
 intro b hb
 rcases List.mem_append.1 hb with hb | hb
 ·exact h b (List.mem_of_mem_drop hb)
 ·simp only [List.mem_singleton] at hb
  omega
theorem O3 (l:List Int) (n:Int):(D7 l n).length≤l.length+1:=by
 unfold D7
 rw [List.length_append,z5,List.length_singleton]; omega
theorem Qe (l:List Int):OT.erss ((l.map by_).map (·.map D.ot))=l.map by_:=by
 rw [OT.Dt,List.map_map,List.map_map]
 exact List.map_congr_left fun b _=>rfl
theorem M8 (l:List Int):OT.A6 ((l.map by_).map (·.map D.ot))=true:=by
 induction l with
 | nil=>rfl
 | cons x xs ih=>simp only [zA,OT.A6,ih]; rfl
theorem O4 (l:List Int):((l.map by_).all fun e=>e.length == 1)=true:=by rw [List.all_map,zV]; intro x _; rfl
theorem M9 (l:List Int):(((l.map by_).map (·.map D.ot)).all fun e=>e.length == 1)=true:=by rw [List.all_map,List.all_map,zV]; intro x _; rfl
theorem erss_app:∀ a b:List (List OT),OT.erss (a++b)=OT.erss a++OT.erss b
 | [],b=>by simp [OT.erss]
 | x :: a,b=>by simp only [zS,OT.erss,erss_app a b]
theorem fullss_app:∀ a b:List (List OT),OT.A6 (a++b)=(OT.A6 a&&OT.A6 b)
 | [],b=>by simp [OT.A6]
 | x :: a,b=>by simp only [zS,OT.A6,fullss_app a b,Bool.and_assoc]
theorem QZ (l:List Int) (hn:l.length≤1099511627776) (n:Int) (h0:0≤n) (h1:n≤255):E 18 [.arr (l.map by_),.int .i64 n] []=some (.arr ((D7 l n).map by_),[]):=by
 have ht:(l.map by_).take l.length=l.map by_:=List.take_of_length_le (by rw [z6]; exact z0 _)
 have hd:∀ n,(l.map by_).drop n=(l.drop n).map by_:=fun n=>List.map_drop.symm
 by_cases hc:(l.length:Int)<n
 ·have hn1:((l.length:Int)<n)=True:=eq_true hc
  have hw:IntKind.u8.wrap (l.length:Int)=(l.length:Int) % 256:=rfl
  have e1:D7 l n=l.drop l.length++[((l.length:Nat):Int) % 256]:=by
   unfold D7
   rw [show min n.toNat l.length=l.length by omega]
  rw [e1,zT]
  refine Al HC As (of_decide_eq_true rfl) ?_
  simp (disch:=omega) only [Fj,go_sem,Aa,hn1,zK,ht,hd,O4,M9,Qe,M8,erss_app,fullss_app,hw,z5]
 ·have hn1:((l.length:Int)<n)=False:=eq_false hc
  have hw:IntKind.u8.wrap n=n % 256:=rfl
  have e1:D7 l n=l.drop n.toNat++[n % 256]:=by
   unfold D7
   rw [show min n.toNat l.length=n.toNat by omega]
   congr 2
   omega
  rw [e1,zT]
  refine Al HC As (of_decide_eq_true rfl) ?_
  simp (disch:=omega) only [Fj,go_sem,Aa,hn1,zK,ht,hd,O4,M9,Qe,M8,erss_app,fullss_app,hw,z5]
theorem Nq (x:Tm) (y:Tm) (hnx:x.nodes≤1099511627776) (hny:y.nodes≤1099511627776) (ih:∀ x'∈x.args,∀ y':Tm,x'.nodes≤1099511627776→y'.nodes≤1099511627776→E 15 [x'.sv,y'.sv] []=some (.bool (dec (x'=y')),[])):E 15 [x.sv,y.sv] []=some (.bool (dec (x=y)),[]):=by
 have lx:=Tm.length_le x.args
 have ly:=Tm.length_le y.args
 have nx:=Tm.Av x
 have ny:=Tm.Av y
 rw [Dd (Tm.eq_iff x y)]
 by_cases h0:x.name=y.name
 ·rw [Dd (and_iff_right h0)]
  have hq:(x.name=y.name)=True:=by simp [h0]
  by_cases hlen:x.args.length=y.args.length
  ·have hq2:((x.args.length:Int)=(y.args.length:Int))=True:=by first | exact eq_true (by omega) | exact eq_false (by omega)
   refine Al DZ Am (of_decide_eq_true rfl) ?_
   simp (disch:=omega) only [CT,go_sem,Aa,hq,hq2]
   refine go_loop (α:=Int) (fun a=>⟨slots 39 0 [(2,.ptr 0 0),(3,.ptr 1 0),(5,.int .i64 a)],[.box 26 [.str x.name,.arr (x.args.map Tm.d)],.box 26 [.str y.name,.arr (y.args.map Tm.d)]]⟩) (fun a=>∃ k:Nat,a=k∧k≤(x.args).length∧dec (x.args.drop k=y.args.drop k)=dec (x.args=y.args)) (fun a=>(x.args).length-(a).toNat) 0 ⟨0,rfl,zO _,by rw [zJ,zJ]⟩ (by simp (disch:=omega) only [go_sem,Aa]) ?_
   rintro i ⟨k,hi,hk,hR⟩
   have hni:i.toNat=k:=by omega
   have hni1:(i+1).toNat=k+1:=by omega
   rcases zI k (x.args).length with hlt | hge
   ·have hgx:=get_at Tm.d hlt
    rw [Tm.E7] at hgx
    have hlt':k<y.args.length:=by omega
    have hgy:=get_at Tm.d hlt'
    rw [Tm.E7] at hgy
    have hc:=ih x.args[k] (zH hlt) y.args[k] (by have:=Tm.B4 (zH hlt); omega) (by have:=Tm.B4 (zH hlt'); omega)
    rw [Dd (H9 hlt hlt')] at hR
    by_cases h0:x.args[k]=y.args[k]
    ·rw [BO h0] at hc
     rw [Dd (and_iff_right h0)] at hR
     simp (disch:=omega) only [go_sem,Aa,hni,hgx,hgy,hc,Am]
     exact ⟨i+1,⟨k+1,by omega,hlt,hR⟩,by omega,by first | trivial | rfl⟩
    ·rw [BP h0] at hc
     rw [BP (fun h=>h0 h.1)] at hR
     simp (disch:=omega) only [go_sem,Aa,hni,hgx,hgy,hc,Am]
     exact hR
   ·rw [zC hge,zC (by omega),Ld] at hR
    simp (disch:=omega) only [go_sem,Aa,hni]
    exact hR
  ·have hq2:((x.args.length:Int)=(y.args.length:Int))=False:=by first | exact eq_true (by omega) | exact eq_false (by omega)
   have he:dec (x.args=y.args)=false:=BP fun h=>hlen (by rw [h])
   rw [he]
   refine Al DZ Am (of_decide_eq_true rfl) ?_
   simp (disch:=omega) only [CT,go_sem,Aa,hq,hq2]
 ·have hq:(x.name=y.name)=False:=by simp [h0]
  rw [BP (fun h=>h0 h.1)]
  refine Al DZ Am (of_decide_eq_true rfl) ?_
  simp (disch:=omega) only [CT,go_sem,Aa,hq]
theorem CZ (x y:Tm) (hnx:x.nodes≤1099511627776) (hny:y.nodes≤1099511627776):E 15 [x.sv,y.sv] []=some (.bool (dec (x=y)),[]) :=
 Nq x y hnx hny fun x' hx' y' h h'=>CZ x' y' h h'
termination_by SizeOf.sizeOf x
decreasing_by exact Tm.Bj hx'
def HD:SC:=(.seq (.reg [⟨some 1,none,.boxv 26 2 (.t 0)⟩,⟨some 2,none,.mv (.c (.int .i64 0))⟩]) (.seq (.reg [⟨some 3,none,.mv (.c (.int .i64 1))⟩]) (.seq (.seq (.reg [⟨some 6,none,.faddr 1 (.t 1)⟩,⟨some 7,none,.load false 1 (.t 6)⟩,⟨some 8,none,.len false (.t 7)⟩,⟨some 9,none,.mv (.c (.int .i64 0))⟩]) (.block 0 (.loop [0,0,0,1,0,0,0,1,1,1,0,0,0,0,0,0,0,0,0,0,0,0] (.seq (.reg [⟨some 10,none,.bin .lss false (.t 9) (.t 8)⟩]) (.seq (.cond (.t 10) .skip (.exit 0)) (.seq (.block 1 (.seq (.reg [⟨some 11,none,.iaddr 2 (.t 7) (.t 9)⟩,⟨some 12,none,.load true 2 (.t 11)⟩,⟨(some 5),none,(.alloc 26 [(.str ⟨#[]⟩),.nil])⟩,⟨none,none,(.store 2 (.t 5) (.t 12))⟩]) (.seq (.seq (.reg [⟨some 13,none,.mv (.t 3)⟩,⟨some 14,none,.bin .gtr false (.t 13) (.c (.int .i64 30))⟩]) (.cond (.t 14) (.seq (.reg [⟨some 15,none,.mv (.t 3)⟩,⟨some 2,none,.mv (.t 15)⟩]) .ret) .skip)) (.reg [⟨some 16,none,.mv (.t 3)⟩,⟨some 17,none,.load true 2 (.t 5)⟩,⟨some 18,none,.call 31 [(.t 17)]⟩,⟨some 19,none,.bin .add false (.t 16) (.t 18)⟩,⟨some 3,none,.mv (.t 19)⟩])))) (.reg [⟨some 20,none,.bin .add false (.t 9) (.c (.int .i64 1))⟩,⟨some 9,none,.mv (.t 20)⟩]))))))) (.seq (.reg [⟨some 21,none,.mv (.t 3)⟩,⟨some 2,none,.mv (.t 21)⟩]) .ret))))
theorem Li:A2 Try.prog 31=some ⟨22,HD,[(.tmp 2)]⟩:=by kernel_rfl
theorem Da:modes 31=⟨[],.asis,none,false⟩:=by unfold modes; rfl
theorem PM (x:Tm) (hn:x.nodes≤1099511627776) (ih:∀ y∈x.args,E 31 [y.sv] []=some (.int .i64 y.cap,[])):E 31 [x.sv] []=some (.int .i64 x.cap,[]):=by
 have hl:=Tm.length_le x.args
 have hx:=Tm.Av x
 rw [Tm.Oz]
 refine Al Li Da (of_decide_eq_true rfl) ?_
 simp (disch:=omega) only [HD,go_sem,Aa]
 refine go_loop (α:=Int × Int) (fun a=>⟨slots 22 0 [(3,.int .i64 a.2),(7,.arr (x.args.map Tm.d)),(8,.int .i64 x.args.length),(9,.int .i64 a.1)],[]⟩) (fun a=>∃ k:Nat,a.1=k∧k≤x.args.length∧1≤a.2∧a.2+Tm.Bg (x.args.drop k)≤x.nodes∧Tm.Hh (x.args.drop k) a.2=Tm.Hh x.args 1) (fun a=>x.args.length-a.1.toNat) (0,1) ⟨0,rfl,zO _,by dsimp only; omega,by rw [zJ]; dsimp only; omega,rfl⟩ (by simp (disch:=omega) only [go_sem,Aa]) ?_
 rintro ⟨i,n⟩ ⟨k,hi,hk,hn0,hn1,hs⟩
 dsimp only at hi hn0 hn1 hs
 have hni:i.toNat=k:=by omega
 rcases zI k x.args.length with hlt | hge
 ·have hg:=get_at Tm.d hlt
  rw [Tm.E7] at hg
  have hd:x.args.drop k=x.args[k] :: x.args.drop (k+1):=zD hlt
  have hc:=ih x.args[k] (zH hlt)
  have hp:=Tm.GB x.args[k]
  rw [hd,Tm.Hh] at hs
  rw [hd,Tm.Bg] at hn1
  rcases Int.lt_or_le 30 n with h30 | h30
  ·rw [if_pos h30] at hs
   simp (disch:=omega) only [go_sem,Aa,hni,hg,hc,Da]
   exact hs
  ·rw [if_neg (by omega)] at hs
   simp (disch:=omega) only [go_sem,Aa,hni,hg,hc,Da]
   refine ⟨(i+1,n+x.args[k].cap),⟨k+1,by dsimp only; omega,hlt,by dsimp only; omega,by dsimp only; omega,hs⟩,by dsimp only; omega,?_⟩
   simp only [and_self]
 ·have hd:x.args.drop k=[]:=zC hge
  rw [hd,Tm.Hh] at hs
  simp (disch:=omega) only [go_sem,Aa,hni]
  exact hs
theorem O5 (x:Tm) (hn:x.nodes≤1099511627776):E 31 [x.sv] []=some (.int .i64 x.cap,[]) :=
 PM x hn fun y hy=>O5 y (by have:=Tm.B4 hy; have:=Tm.Av x; omega)
termination_by SizeOf.sizeOf x
decreasing_by exact Tm.Bj hy
def FP:SC:=(.seq (.reg [⟨some 2,none,.boxv 26 2 (.t 0)⟩,⟨some 4,none,.mv (.c (.int .i64 0))⟩]) (.seq (.reg [⟨some 5,none,.mv (.c (.int .i64 1))⟩]) (.seq (.seq (.reg [⟨some 6,none,.mv (.c (.int .i64 0))⟩]) (.block 0 (.loop [0,1,1,0,0,1,1,0,0,0,0,0,0,0,0,0,0,0,0,0,0,0,0,0,0,0,0,0,0,0,0] (.seq (.seq (.reg [⟨some 7,none,.mv (.t 6)⟩,⟨some 8,none,.faddr 1 (.t 2)⟩,⟨some 9,none,.load false 1 (.t 8)⟩,⟨some 10,none,.len false (.t 9)⟩,⟨some 11,none,.bin .lss false (.t 7) (.t 10)⟩,⟨some 12,none,.mv (.t 11)⟩,⟨(some 13),(some (12,true)),(.mv (.t 5))⟩,⟨(some 14),(some (12,true)),(.mv (.t 1))⟩,⟨(some 15),(some (12,true)),(.bin .leq false (.t 13) (.t 14))⟩,⟨some 16,none,.pick (.t 12) (.t 15) (.c (.bool false))⟩]) (.cond (.t 16) .skip (.exit 0))) (.seq (.block 1 (.reg [⟨some 19,none,.mv (.t 5)⟩,⟨some 20,none,.faddr 1 (.t 2)⟩,⟨some 21,none,.load false 1 (.t 20)⟩,⟨some 22,none,.mv (.t 6)⟩,⟨some 23,none,.iaddr 2 (.t 21) (.t 22)⟩,⟨some 24,none,.load true 2 (.t 23)⟩,⟨some 25,none,.mv (.t 1)⟩,⟨some 26,none,.mv (.t 5)⟩,⟨some 27,none,.bin .sub false (.t 25) (.t 26)⟩,⟨some 28,none,.call 89 [(.t 24),(.t 27)]⟩,⟨some 29,none,.bin .add false (.t 19) (.t 28)⟩,⟨some 5,none,.mv (.t 29)⟩])) (.reg [⟨some 17,none,.mv (.t 6)⟩,⟨some 18,none,.bin .add false (.t 17) (.c (.int .i64 1))⟩,⟨some 6,none,.mv (.t 18)⟩])))))) (.seq (.reg [⟨some 30,none,.mv (.t 5)⟩,⟨some 4,none,.mv (.t 30)⟩]) .ret))))
theorem Jf:A2 Try.prog 89=some ⟨31,FP,[(.tmp 4)]⟩:=by kernel_rfl
theorem Cw:modes 89=⟨[],.asis,none,false⟩:=by unfold modes; rfl
theorem PN (x:Tm) (m:Int) (hm:0≤m) (hm1:m≤1099511627776) (hn:x.nodes≤1099511627776) (ih:∀ y∈x.args,∀ m:Int,0≤m→m≤1099511627776→E 89 [y.sv,.int .i64 m] []=some (.int .i64 (y.many m),[])):E 89 [x.sv,.int .i64 m] []=some (.int .i64 (x.many m),[]):=by
 have hl:=Tm.length_le x.args
 have hx:=Tm.Av x
 rw [Tm.M3]
 refine Al Jf Cw (of_decide_eq_true rfl) ?_
 simp (disch:=omega) only [FP,go_sem,Aa]
 refine go_loop (α:=Int × Int) (fun a=>⟨slots 31 0 [(1,.int .i64 m),(2,.ptr 0 0),(5,.int .i64 a.2),(6,.int .i64 a.1)],[.box 26 [.str x.name,.arr (x.args.map Tm.d)]]⟩) (fun a=>∃ k:Nat,a.1=k∧k≤x.args.length∧1≤a.2∧a.2+Tm.Bg (x.args.drop k)≤x.nodes∧Tm.Et (x.args.drop k) m a.2=Tm.Et x.args m 1) (fun a=>x.args.length-a.1.toNat) (0,1) ⟨0,rfl,zO _,by dsimp only; omega,by rw [zJ]; dsimp only; omega,rfl⟩ (by simp (disch:=omega) only [go_sem,Aa]) ?_
 rintro ⟨i,n⟩ ⟨k,hi,hk,hn0,hn1,hs⟩
 dsimp only at hi hn0 hn1 hs
 have hni:i.toNat=k:=by omega
 rcases zI k x.args.length with hlt | hge
 ·have hg:=get_at Tm.d hlt
  rw [Tm.E7] at hg
  have hd:x.args.drop k=x.args[k] :: x.args.drop (k+1):=zD hlt
  rw [hd,Tm.Et] at hs
  rw [hd,Tm.Bg] at hn1
  rcases Int.lt_or_le m n with h30 | h30
  ·rw [if_neg (by omega)] at hs
   simp (disch:=omega) only [go_sem,Aa,hni,hg,Cw]
   exact hs
  ·rw [if_pos h30] at hs
   have hc:=ih x.args[k] (zH hlt) (m-n) (by omega) (by omega)
   have hp:=Tm.F8 x.args[k] (m-n)
   simp (disch:=omega) only [go_sem,Aa,hni,hg,hc,Cw]
   refine ⟨(i+1,n+x.args[k].many (m-n)),⟨k+1,by dsimp only; omega,hlt,by dsimp only; omega,by dsimp only; omega,hs⟩,by dsimp only; omega,?_⟩
   simp only [and_self]
 ·have hd:x.args.drop k=[]:=zC hge
  rw [hd,Tm.Et] at hs
  simp (disch:=omega) only [go_sem,Aa,hni]
  exact hs
theorem O6 (x:Tm) (m:Int) (hm:0≤m) (hm1:m≤1099511627776) (hn:x.nodes≤1099511627776):E 89 [x.sv,.int .i64 m] []=some (.int .i64 (x.many m),[]) :=
 PN x m hm hm1 hn fun y hy m hm hm1=>O6 y m hm hm1 (by have:=Tm.B4 hy; have:=Tm.Av x; omega)
termination_by SizeOf.sizeOf x
decreasing_by exact Tm.Bj hy
def GH:SC:=(.seq (.reg [⟨some 1,none,.boxv 26 2 (.t 0)⟩,⟨some 2,none,.mv (.c (.int .i64 0))⟩]) (.seq (.reg [⟨some 3,none,.mv (.c (.int .i64 0))⟩]) (.seq (.seq (.reg [⟨some 6,none,.faddr 1 (.t 1)⟩,⟨some 7,none,.load false 1 (.t 6)⟩,⟨some 8,none,.len false (.t 7)⟩,⟨some 9,none,.mv (.c (.int .i64 0))⟩]) (.block 0 (.loop [0,0,0,1,0,0,0,1,1,1,0,0,0,0,0,0,0,0,0,0] (.seq (.reg [⟨some 10,none,.bin .lss false (.t 9) (.t 8)⟩]) (.seq (.cond (.t 10) .skip (.exit 0)) (.seq (.block 1 (.seq (.reg [⟨some 11,none,.iaddr 2 (.t 7) (.t 9)⟩,⟨some 12,none,.load true 2 (.t 11)⟩,⟨(some 5),none,(.alloc 26 [(.str ⟨#[]⟩),.nil])⟩,⟨none,none,(.store 2 (.t 5) (.t 12))⟩]) (.reg [⟨some 13,none,.mv (.t 3)⟩,⟨some 14,none,.load true 2 (.t 5)⟩,⟨some 15,none,.call 63 [(.t 14)]⟩,⟨some 16,none,.minmax true (.t 13) (.t 15)⟩,⟨some 3,none,.mv (.t 16)⟩]))) (.reg [⟨some 17,none,.bin .add false (.t 9) (.c (.int .i64 1))⟩,⟨some 9,none,.mv (.t 17)⟩]))))))) (.seq (.reg [⟨some 18,none,.mv (.t 3)⟩,⟨some 19,none,.bin .add false (.t 18) (.c (.int .i64 1))⟩,⟨some 2,none,.mv (.t 19)⟩]) .ret))))
theorem Kn:A2 Try.prog 63=some ⟨20,GH,[(.tmp 2)]⟩:=by kernel_rfl
theorem Do:modes 63=⟨[],.asis,none,false⟩:=by unfold modes; rfl
def FQ:SC:=(.seq (.reg [⟨some 4,none,.mv (.c (.int .i64 0))⟩]) (.seq (.seq (.reg [⟨some 5,none,.mv (.t 0)⟩,⟨some 6,none,.mv (.t 1)⟩,⟨some 7,none,.bin .gtr false (.t 5) (.t 6)⟩]) (.cond (.t 7) (.seq (.reg [⟨some 8,none,.mv (.t 0)⟩,⟨some 4,none,.mv (.t 8)⟩]) .ret) .skip)) (.seq (.reg [⟨some 9,none,.mv (.t 1)⟩,⟨some 4,none,.mv (.t 9)⟩]) .ret)))
theorem Jg:A2 Try.prog 102=some ⟨10,FQ,[(.tmp 4)]⟩:=by kernel_rfl
theorem FR:modes 102=⟨[],.asis,none,false⟩:=by unfold modes; rfl
def Fk:SC:=(.seq (.reg [⟨some 1,none,.boxv 26 2 (.t 0)⟩,⟨some 2,none,.mv (.c (.int .i64 0))⟩]) (.seq (.reg [⟨some 3,none,.mv (.c (.int .i64 0))⟩]) (.seq (.seq (.reg [⟨some 4,none,.mv (.c (.int .i64 0))⟩]) (.block 0 (.loop [0,1,0,1,1,0,0,0,0,0,0,0,0,0,0,0,0,0,0,0,0,0] (.seq (.seq (.reg [⟨some 5,none,.mv (.t 4)⟩,⟨some 6,none,.faddr 1 (.t 1)⟩,⟨some 7,none,.load false 1 (.t 6)⟩,⟨some 8,none,.len false (.t 7)⟩,⟨some 9,none,.bin .lss false (.t 5) (.t 8)⟩]) (.cond (.t 9) .skip (.exit 0))) (.seq (.block 1 (.reg [⟨some 12,none,.mv (.t 3)⟩,⟨some 13,none,.faddr 1 (.t 1)⟩,⟨some 14,none,.load false 1 (.t 13)⟩,⟨some 15,none,.mv (.t 4)⟩,⟨some 16,none,.iaddr 2 (.t 14) (.t 15)⟩,⟨some 17,none,.load true 2 (.t 16)⟩,⟨some 18,none,.call 90 [(.t 17)]⟩,⟨some 19,none,.call 102 [(.t 12),(.t 18)]⟩,⟨some 3,none,.mv (.t 19)⟩])) (.reg [⟨some 10,none,.mv (.t 4)⟩,⟨some 11,none,.bin .add false (.t 10) (.c (.int .i64 1))⟩,⟨some 4,none,.mv (.t 11)⟩])))))) (.seq (.reg [⟨some 20,none,.mv (.t 3)⟩,⟨some 21,none,.bin .add false (.t 20) (.c (.int .i64 1))⟩,⟨some 2,none,.mv (.t 21)⟩]) .ret))))
theorem IM:A2 Try.prog 90=some ⟨22,Fk,[(.tmp 2)]⟩:=by kernel_rfl
theorem CD:modes 90=⟨[],.asis,none,false⟩:=by unfold modes; rfl
theorem O7 (a b:Int):E 102 [.int .i64 a,.int .i64 b] []=some (.int .i64 (max a b),[]):=by
 refine Al Jg FR (of_decide_eq_true rfl) ?_
 simp (disch:=omega) only [FQ,go_sem,Aa]
 repeat' (refine La (fun hq=>?_) (fun hq=>?_) <;> (first | replace hq:=A3.1 hq | replace hq:=DH.1 hq) <;> (try simp (disch:=omega) only [go_sem,Aa]))
 all_goals omega
theorem O8 (x:Tm) (hn:x.nodes≤1099511627776) (ih:∀ y∈x.args,E 63 [y.sv] []=some (.int .i64 y.deep,[])):E 63 [x.sv] []=some (.int .i64 x.deep,[]):=by
 have hl:=Tm.length_le x.args
 have hx:=Tm.Av x
 have hd1:=Tm.Kk x
 have hd2:=Tm.DY x
 refine Al Kn Do (of_decide_eq_true rfl) ?_
 simp (disch:=omega) only [GH,go_sem,Aa]
 refine go_loop (α:=Int × (Int)) (fun a=>⟨slots 20 0 [(3,.int .i64 (a.2)),(7,.arr (x.args.map Tm.d)),(8,.int .i64 x.args.length),(9,.int .i64 (a.1))],[]⟩) (fun a=>∃ k:Nat,a.1=k∧k≤(x.args).length∧0≤(a.2)∧max (a.2) (Tm.DL (x.args.drop k):Nat)=(Tm.DL x.args:Nat)) (fun a=>(x.args).length-(a.1).toNat) (0,0) ⟨0,rfl,zO _,by dsimp only; omega,by rw [zJ]; dsimp only; omega⟩ (by simp (disch:=omega) only [go_sem,Aa]) ?_
 rintro ⟨i,n⟩ ⟨k,hi,hk,hR⟩
 dsimp only at hi hR
 have hni:i.toNat=k:=by omega
 have hni1:(i+1).toNat=k+1:=by omega
 rcases zI k (x.args).length with hlt | hge
 ·have hg:=get_at Tm.d hlt
  rw [Tm.E7] at hg
  have hc:=ih x.args[k] (zH hlt)
  rw [zD hlt,Tm.DL] at hR
  simp (disch:=omega) only [go_sem,Aa,hni,hg,hc,Do,PH]
  refine ⟨(i+1,max n (x.args[k].deep:Int)),⟨k+1,by dsimp only; omega,hlt,by dsimp only; omega⟩,by dsimp only; omega,?_⟩
  simp only [and_self]
 ·rw [zC hge,Tm.DL] at hR
  simp (disch:=omega) only [go_sem,Aa,hni]
  omega
theorem MA (x:Tm) (hn:x.nodes≤1099511627776):E 63 [x.sv] []=some (.int .i64 x.deep,[]) :=
 O8 x hn fun y hy=>MA y (by have:=Tm.B4 hy; have:=Tm.Av x; omega)
termination_by SizeOf.sizeOf x
decreasing_by exact Tm.Bj hy
theorem LS (x:Tm) (hn:x.nodes≤1099511627776) (ih:∀ y∈x.args,E 90 [y.sv] []=some (.int .i64 y.deep,[])):E 90 [x.sv] []=some (.int .i64 x.deep,[]):=by
 have hl:=Tm.length_le x.args
 have hx:=Tm.Av x
 have hd1:=Tm.Kk x
 have hd2:=Tm.DY x
 refine Al IM CD (of_decide_eq_true rfl) ?_
 simp (disch:=omega) only [Fk,go_sem,Aa]
 refine go_loop (α:=Int × (Int)) (fun a=>⟨slots 22 0 [(1,.ptr 0 0),(3,.int .i64 (a.2)),(4,.int .i64 (a.1))],[.box 26 [.str x.name,.arr (x.args.map Tm.d)]]⟩) (fun a=>∃ k:Nat,a.1=k∧k≤(x.args).length∧0≤(a.2)∧max (a.2) (Tm.DL (x.args.drop k):Nat)=(Tm.DL x.args:Nat)) (fun a=>(x.args).length-(a.1).toNat) (0,0) ⟨0,rfl,zO _,by dsimp only; omega,by rw [zJ]; dsimp only; omega⟩ (by simp (disch:=omega) only [go_sem,Aa]) ?_
 rintro ⟨i,n⟩ ⟨k,hi,hk,hR⟩
 dsimp only at hi hR
 have hni:i.toNat=k:=by omega
 have hni1:(i+1).toNat=k+1:=by omega
 rcases zI k (x.args).length with hlt | hge
 ·have hg:=get_at Tm.d hlt
  rw [Tm.E7] at hg
  have hc:=ih x.args[k] (zH hlt)
  rw [zD hlt,Tm.DL] at hR
  simp (disch:=omega) only [go_sem,Aa,hni,hg,hc,CD,O7,FR]
  refine ⟨(i+1,max n (x.args[k].deep:Int)),⟨k+1,by dsimp only; omega,hlt,by dsimp only; omega⟩,by dsimp only; omega,?_⟩
  simp only [and_self]
 ·rw [zC hge,Tm.DL] at hR
  simp (disch:=omega) only [go_sem,Aa,hni]
  omega
theorem JN (x:Tm) (hn:x.nodes≤1099511627776):E 90 [x.sv] []=some (.int .i64 x.deep,[]) :=
 LS x hn fun y hy=>JN y (by have:=Tm.B4 hy; have:=Tm.Av x; omega)
termination_by SizeOf.sizeOf x
decreasing_by exact Tm.Bj hy
def Bv:SC:=(.seq (.reg [⟨some 4,none,.mv (.c (.int .i64 0))⟩]) (.seq (.seq (.reg [⟨some 6,none,.mv (.t 0)⟩,⟨some 7,none,.len false (.t 6)⟩,⟨some 8,none,.mv (.c (.int .i64 0))⟩]) (.block 0 (.loop [1,1,0,0,0,0,0,1,1,0,0,0,0,0,0,0,0,0,0] (.seq (.reg [⟨some 9,none,.bin .lss false (.t 8) (.t 7)⟩]) (.seq (.cond (.t 9) .skip (.exit 0)) (.seq (.block 1 (.seq (.reg [⟨some 10,none,.mv (.t 8)⟩,⟨some 5,none,.mv (.t 10)⟩]) (.seq (.reg [⟨some 11,none,.mv (.t 1)⟩,⟨some 12,none,.mv (.t 0)⟩,⟨some 13,none,.mv (.t 5)⟩,⟨some 14,none,.iaddr 2 (.t 12) (.t 13)⟩,⟨some 15,none,.load true 2 (.t 14)⟩,⟨some 16,none,.callv (.t 11) [(.t 15)]⟩]) (.cond (.t 16) (.seq (.reg [⟨some 17,none,.mv (.t 5)⟩,⟨some 4,none,.mv (.t 17)⟩]) .ret) .skip)))) (.reg [⟨some 18,none,.bin .add false (.t 8) (.c (.int .i64 1))⟩,⟨some 8,none,.mv (.t 18)⟩]))))))) (.seq (.reg [⟨some 4,none,.mv (.c (.int .i64 (-(0+1))))⟩]) .ret)))
theorem Cj:A2 Try.prog 95=some ⟨19,Bv,[(.tmp 4)]⟩:=by kernel_rfl
theorem Bw:modes 95=⟨[],.asis,none,false⟩:=by unfold modes; rfl
def Bl:SC:=(.seq (.reg [⟨some 4,none,.mv (.c (.bool false))⟩]) (.seq (.reg [⟨some 5,none,.mv (.t 0)⟩,⟨some 6,none,.mv (.t 1)⟩,⟨some 7,none,.call 95 [(.t 5),(.t 6)]⟩,⟨some 8,none,.bin .geq false (.t 7) (.c (.int .i64 0))⟩,⟨some 4,none,.mv (.t 8)⟩]) .ret))
theorem Cb:A2 Try.prog 65=some ⟨9,Bl,[(.tmp 4)]⟩:=by kernel_rfl
theorem Bm:modes 65=⟨[],.asis,none,false⟩:=by unfold modes; rfl
theorem HI (fid:Nat) (p:Tm→Bool) (xs:List Tm) (hl:xs.length≤1099511627776) (hg:GT Try.prog fid=true) (hm:(modes fid).hand=[]) (hE:∀ x∈xs,E fid [x.sv] []=some (.bool (p x),[])):E 95 [.arr (xs.map Tm.d),.fn fid []] []=some (.int .i64 (Jd p xs 0),[]):=by
 refine Al Cj Bw (of_decide_eq_true rfl) ?_
 simp (disch:=omega) only [Bv,go_sem,Aa]
 refine go_loop (α:=Int) (fun a=>⟨slots 19 0 [(0,.arr (xs.map Tm.d)),(1,.fn fid []),(7,.int .i64 xs.length),(8,.int .i64 a)],[]⟩) (fun a=>∃ k:Nat,a=k∧k≤(xs).length∧Jd p (xs.drop k) a=Jd p xs 0) (fun a=>(xs).length-(a).toNat) 0 ⟨0,rfl,zO _,by rw [zJ]⟩ (by simp (disch:=omega) only [go_sem,Aa]) ?_
 rintro i ⟨k,hi,hk,hR⟩
 have hni:i.toNat=k:=by omega
 have hni1:(i+1).toNat=k+1:=by omega
 rcases zI k (xs).length with hlt | hge
 ·have hg':=get_at Tm.d hlt
  rw [Tm.E7] at hg'
  have hc:=hE xs[k] (zH hlt)
  rw [zD hlt,Jd] at hR
  cases hp:p xs[k] with
  | true =>
   rw [hp] at hc hR
   simp (disch:=omega) only [go_sem,Aa,hni,hg',hc,hg,hm]
   simpa using hR
  | false =>
   rw [hp] at hc hR
   simp (disch:=omega) only [go_sem,Aa,hni,hg',hc,hg,hm]
   exact ⟨i+1,⟨k+1,by omega,hlt,by simpa using hR⟩,by omega,by first | trivial | rfl⟩
 ·rw [zC hge,Jd] at hR
  simp (disch:=omega) only [go_sem,Aa,hni]
  exact hR
theorem Gm (fid:Nat) (p:Tm→Bool) (xs:List Tm) (hl:xs.length≤1099511627776) (hg:GT Try.prog fid=true) (hm:(modes fid).hand=[]) (hE:∀ x∈xs,E fid [x.sv] []=some (.bool (p x),[])):E 65 [.arr (xs.map Tm.d),.fn fid []] []=some (.bool (xs.any p),[]):=by
 have h:=HI fid p xs hl hg hm hE
 refine Al Cb Bm (of_decide_eq_true rfl) ?_
 simp (disch:=omega) only [Bl,go_sem,Aa,h,Bw]
 rw [Oy]
def Cc:SC:=(.seq (.reg [⟨some 1,none,.boxv 26 2 (.t 0)⟩,⟨some 2,none,.mv (.c (.bool false))⟩]) (.seq (.seq (.reg [⟨some 3,none,.faddr 0 (.t 1)⟩,⟨some 4,none,.load false 1 (.t 3)⟩,⟨some 5,none,.call 54 [(.t 4)]⟩]) (.cond (.t 5) (.seq (.reg [⟨some 6,none,.faddr 1 (.t 1)⟩,⟨some 7,none,.load false 1 (.t 6)⟩,⟨some 8,none,.len false (.t 7)⟩,⟨some 9,none,.bin .eql false (.t 8) (.c (.int .i64 0))⟩,⟨some 2,none,.mv (.t 9)⟩]) .ret) .skip)) (.seq (.reg [⟨some 10,none,.faddr 0 (.t 1)⟩,⟨some 11,none,.load false 1 (.t 10)⟩,⟨some 12,none,.call 64 [(.t 11)]⟩,⟨some 13,none,.mv (.t 12)⟩,⟨(some 14),(some (13,true)),(.faddr 1 (.t 1))⟩,⟨(some 15),(some (13,true)),(.load false 1 (.t 14))⟩,⟨(some 16),(some (13,true)),(.len false (.t 15))⟩,⟨(some 17),(some (13,true)),(.bin .leq false (.t 16) (.c (.int .i64 4)))⟩,⟨some 18,none,.pick (.t 13) (.t 17) (.c (.bool false))⟩,⟨some 19,none,.mv (.t 18)⟩,⟨(some 20),(some (19,true)),(.faddr 1 (.t 1))⟩,⟨(some 21),(some (19,true)),(.load false 1 (.t 20))⟩,⟨(some 22),(some (19,true)),(.call 65 [(.t 21),(.c (.fn 66 []))])⟩,⟨(some 23),(some (19,true)),(.un .not (.t 22))⟩,⟨some 24,none,.pick (.t 19) (.t 23) (.c (.bool false))⟩,⟨some 2,none,.mv (.t 24)⟩]) .ret)))
theorem C0:A2 Try.prog 37=some ⟨25,Cc,[(.tmp 2)]⟩:=by kernel_rfl
theorem AE:modes 37=⟨[],.asis,none,false⟩:=by unfold modes; rfl
def DR:SC:=(.seq (.reg [⟨some 1,none,.boxv 26 2 (.t 0)⟩,⟨some 2,none,.mv (.c (.bool false))⟩]) (.seq (.reg [⟨some 3,none,.load true 2 (.t 1)⟩,⟨some 4,none,.call 37 [(.t 3)]⟩,⟨some 5,none,.un .not (.t 4)⟩,⟨some 2,none,.mv (.t 5)⟩]) .ret))
theorem GI:A2 Try.prog 66=some ⟨6,DR,[(.tmp 2)]⟩:=by kernel_rfl
theorem DS:modes 66=⟨[],.asis,none,false⟩:=by unfold modes; rfl
theorem GJ:GT Try.prog 66=true:=by kernel_rfl
theorem Tm.PO (xs:List Tm):(!xs.any fun y=>!y.names)=Tm.Dg xs:=by
 rw [Tm.F7]
 induction xs with
 | nil=>rfl
 | cons x xs ih=>simp only [z8,List.all_cons,Bool.not_or,Bool.not_not,ih]
theorem Lj (x:Tm) (hn:x.nodes≤1099511627776) (ih:∀ y∈x.args,E 37 [y.sv] []=some (.bool y.names,[])):E 37 [x.sv] []=some (.bool x.names,[]):=by
 have hl:=Tm.length_le x.args
 have hx:=Tm.Av x
 have h1:∀ y∈x.args,E 66 [y.sv] []=some (.bool (!y.names),[]):=fun y hy=>by
  have h:=ih y hy
  refine Al GI DS (of_decide_eq_true rfl) ?_
  simp (disch:=omega) only [DR,go_sem,Aa,h,AE]
 have h2:=Gm 66 (fun y=>!y.names) x.args (by omega) GJ (by rw [DS]) h1
 rw [Tm.IF,← Tm.PO]
 cases hv:Ca x.name with
 | true =>
  have h3:=GA x.name
  rw [hv] at h3
  refine Al C0 AE (of_decide_eq_true rfl) ?_
  simp (disch:=omega) only [Cc,go_sem,Aa,h3,BA]
  rw [Ip]; cases x.args <;> simp <;> omega
 | false =>
  have h3:=GA x.name
  rw [hv] at h3
  have h4:=IC x.name
  cases hs:Dc x.name with
  | false =>
   rw [hs] at h4
   refine Al C0 AE (of_decide_eq_true rfl) ?_
   simp (disch:=omega) only [Cc,go_sem,Aa,h2,h3,h4,BA,AV]
  | true =>
   rw [hs] at h4
   rcases zI 4 x.args.length with h5 | h5
   ·refine Al C0 AE (of_decide_eq_true rfl) ?_
    simp (disch:=omega) only [Cc,go_sem,Aa,h2,h3,h4,BA,AV]
    simp; omega
   ·refine Al C0 AE (of_decide_eq_true rfl) ?_
    simp (disch:=omega) only [Cc,go_sem,Aa,h2,h3,h4,BA,AV,Bm]
    simp [h5]
theorem ED (x:Tm) (hn:x.nodes≤1099511627776):E 37 [x.sv] []=some (.bool x.names,[]) :=
 Lj x hn fun y hy=>ED y (by have:=Tm.B4 hy; have:=Tm.Av x; omega)
termination_by SizeOf.sizeOf x
decreasing_by exact Tm.Bj hy
def Ck:SC:=(.seq (.reg [⟨some 1,none,.boxv 26 2 (.t 0)⟩,⟨some 2,none,.mv (.c (.bool false))⟩]) (.seq (.seq (.reg [⟨some 4,none,.faddr 0 (.t 1)⟩,⟨some 5,none,.load false 1 (.t 4)⟩,⟨some 6,none,.call 76 [(.t 5)]⟩]) (.cond (.t 6) (.seq (.reg [⟨some 7,none,.faddr 1 (.t 1)⟩,⟨some 8,none,.load false 1 (.t 7)⟩,⟨some 9,none,.len false (.t 8)⟩,⟨some 10,none,.bin .eql false (.t 9) (.c (.int .i64 0))⟩,⟨some 2,none,.mv (.t 10)⟩]) .ret) .skip)) (.seq (.seq (.reg [⟨some 11,none,.faddr 0 (.t 1)⟩,⟨some 12,none,.load false 1 (.t 11)⟩,⟨some 13,none,.call 60 [(.t 12)]⟩,⟨some 14,none,.un .not (.t 13)⟩,⟨some 15,none,.mv (.t 14)⟩,⟨(some 16),(some (15,false)),(.faddr 1 (.t 1))⟩,⟨(some 17),(some (15,false)),(.load false 1 (.t 16))⟩,⟨(some 18),(some (15,false)),(.len false (.t 17))⟩,⟨(some 19),(some (15,false)),(.bin .gtr false (.t 18) (.c (.int .i64 4)))⟩,⟨some 20,none,.pick (.t 15) (.c (.bool true)) (.t 19)⟩]) (.cond (.t 20) (.seq (.reg [⟨some 2,none,.mv (.c (.bool false))⟩]) .ret) .skip)) (.seq (.seq (.reg [⟨some 3,none,.mv (.c (.int .i64 0))⟩]) (.block 0 (.loop [0,1,0,1,0,0,0,0,0,0,0,0,0,0,0,0,0,0,0,0,0,0,0,0,0,0,0,0,0,0,0,0,0,0,0] (.seq (.seq (.reg [⟨some 21,none,.mv (.t 3)⟩,⟨some 22,none,.faddr 1 (.t 1)⟩,⟨some 23,none,.load false 1 (.t 22)⟩,⟨some 24,none,.len false (.t 23)⟩,⟨some 25,none,.bin .lss false (.t 21) (.t 24)⟩]) (.cond (.t 25) .skip (.exit 0))) (.seq (.block 1 (.seq (.reg [⟨some 28,none,.faddr 1 (.t 1)⟩,⟨some 29,none,.load false 1 (.t 28)⟩,⟨some 30,none,.mv (.t 3)⟩,⟨some 31,none,.iaddr 2 (.t 29) (.t 30)⟩,⟨some 32,none,.load true 2 (.t 31)⟩,⟨some 33,none,.call 59 [(.t 32)]⟩,⟨some 34,none,.un .not (.t 33)⟩]) (.cond (.t 34) (.seq (.reg [⟨some 2,none,.mv (.c (.bool false))⟩]) .ret) .skip))) (.reg [⟨some 26,none,.mv (.t 3)⟩,⟨some 27,none,.bin .add false (.t 26) (.c (.int .i64 1))⟩,⟨some 3,none,.mv (.t 27)⟩])))))) (.seq (.reg [⟨some 2,none,.mv (.c (.bool true))⟩]) .ret)))))
theorem CE:A2 Try.prog 59=some ⟨35,Ck,[(.tmp 2)]⟩:=by kernel_rfl
theorem AF:modes 59=⟨[],.asis,none,false⟩:=by unfold modes; rfl
theorem LT (x:Tm) (hn:x.nodes≤1099511627776) (ih:∀ y∈x.args,E 59 [y.sv] []=some (.bool y.names,[])):E 59 [x.sv] []=some (.bool x.names,[]):=by
 have hl:=Tm.length_le x.args
 have hx:=Tm.Av x
 have h3:=PG x.name
 have h4:=ID x.name
 rw [Tm.IF]
 cases hv:Ca x.name with
 | true =>
  rw [hv] at h3
  refine Al CE AF (of_decide_eq_true rfl) ?_
  simp (disch:=omega) only [Ck,go_sem,Aa,h3,C7]
  rw [Ip]; cases x.args <;> simp <;> omega
 | false =>
  rw [hv] at h3
  cases hs:Dc x.name with
  | false =>
   rw [hs] at h4
   refine Al CE AF (of_decide_eq_true rfl) ?_
   simp (disch:=omega) only [Ck,go_sem,Aa,h3,h4,C7,AW]
  | true =>
   rw [hs] at h4
   rcases zI 4 x.args.length with h5 | h5
   ·refine Al CE AF (of_decide_eq_true rfl) ?_
    simp (disch:=omega) only [Ck,go_sem,Aa,h3,h4,C7,AW]
    simp; omega
   ·refine Al CE AF (of_decide_eq_true rfl) ?_
    simp (disch:=omega) only [Ck,go_sem,Aa,h3,h4,C7,AW]
    refine go_loop (α:=Int) (fun a=>⟨slots 35 0 [(1,.ptr 0 0),(3,.int .i64 a)],[.box 26 [.str x.name,.arr (x.args.map Tm.d)]]⟩) (fun a=>∃ k:Nat,a=k∧k≤(x.args).length∧Tm.Dg (x.args.drop k)=Tm.Dg x.args) (fun a=>(x.args).length-(a).toNat) 0 ⟨0,rfl,zO _,by rw [zJ]⟩ (by simp (disch:=omega) only [go_sem,Aa]) ?_
    rintro i ⟨k,hi,hk,hR⟩
    have hni:i.toNat=k:=by omega
    have hni1:(i+1).toNat=k+1:=by omega
    rcases zI k (x.args).length with hlt | hge
    ·have hg:=get_at Tm.d hlt
     rw [Tm.E7] at hg
     have hc:=ih x.args[k] (zH hlt)
     rw [zD hlt,Tm.Dg] at hR
     cases hp:x.args[k].names with
     | true =>
      rw [hp] at hc hR
      simp (disch:=omega) only [go_sem,Aa,hni,hg,hc,AF]
      exact ⟨i+1,⟨k+1,by omega,hlt,by simpa using hR⟩,by omega,by first | trivial | rfl⟩
     | false =>
      rw [hp] at hc hR
      simp (disch:=omega) only [go_sem,Aa,hni,hg,hc,AF]
      simp at hR ⊢; exact fun _=>hR
    ·rw [zC hge,Tm.Dg] at hR
     simp (disch:=omega) only [go_sem,Aa,hni]
     simp [h5,← hR]
theorem F9 (x:Tm) (hn:x.nodes≤1099511627776):E 59 [x.sv] []=some (.bool x.names,[]) :=
 LT x hn fun y hy=>F9 y (by have:=Tm.B4 hy; have:=Tm.Av x; omega)
termination_by SizeOf.sizeOf x
decreasing_by exact Tm.Bj hy
def D8:SC:=(.seq (.reg [⟨some 1,none,.boxv 26 2 (.t 0)⟩,⟨some 2,none,.mv (.c (.bool false))⟩]) (.seq (.reg [⟨some 3,none,.load true 2 (.t 1)⟩,⟨some 4,none,.call 31 [(.t 3)]⟩,⟨some 5,none,.bin .leq false (.t 4) (.c (.int .i64 30))⟩,⟨some 6,none,.mv (.t 5)⟩,⟨(some 7),(some (6,true)),(.load true 2 (.t 1))⟩,⟨(some 8),(some (6,true)),(.call 63 [(.t 7)])⟩,⟨(some 9),(some (6,true)),(.bin .leq false (.t 8) (.c (.int .i64 8)))⟩,⟨some 10,none,.pick (.t 6) (.t 9) (.c (.bool false))⟩,⟨some 2,none,.mv (.t 10)⟩]) .ret))
theorem Fl:A2 Try.prog 36=some ⟨11,D8,[(.tmp 2)]⟩:=by kernel_rfl
theorem AY:modes 36=⟨[],.asis,none,false⟩:=by unfold modes; rfl
def Ea:SC:=(.seq (.reg [⟨some 1,none,.boxv 26 2 (.t 0)⟩,⟨some 2,none,.mv (.c (.bool false))⟩]) (.seq (.reg [⟨some 3,none,.load true 2 (.t 1)⟩,⟨some 4,none,.call 89 [(.t 3),(.c (.int .i64 30))]⟩,⟨some 5,none,.bin .leq false (.t 4) (.c (.int .i64 30))⟩,⟨some 6,none,.mv (.t 5)⟩,⟨(some 7),(some (6,true)),(.load true 2 (.t 1))⟩,⟨(some 8),(some (6,true)),(.call 90 [(.t 7)])⟩,⟨(some 9),(some (6,true)),(.bin .leq false (.t 8) (.c (.int .i64 8)))⟩,⟨some 10,none,.pick (.t 6) (.t 9) (.c (.bool false))⟩,⟨some 2,none,.mv (.t 10)⟩]) .ret))
theorem FS:A2 Try.prog 58=some ⟨11,Ea,[(.tmp 2)]⟩:=by kernel_rfl
theorem Bh:modes 58=⟨[],.asis,none,false⟩:=by unfold modes; rfl
def C3:SC:=(.seq (.reg [⟨some 1,none,.boxv 26 2 (.t 0)⟩,⟨some 2,none,.mv (.c (.bool false))⟩]) (.seq (.reg [⟨some 3,none,.load true 2 (.t 1)⟩,⟨some 4,none,.call 36 [(.t 3)]⟩,⟨some 5,none,.mv (.t 4)⟩,⟨(some 6),(some (5,true)),(.load true 2 (.t 1))⟩,⟨(some 7),(some (5,true)),(.call 37 [(.t 6)])⟩,⟨some 8,none,.pick (.t 5) (.t 7) (.c (.bool false))⟩,⟨some 2,none,.mv (.t 8)⟩]) .ret))
theorem D9:A2 Try.prog 13=some ⟨9,C3,[(.tmp 2)]⟩:=by kernel_rfl
theorem AC:modes 13=⟨[],.asis,none,false⟩:=by unfold modes; rfl
def Eb:SC:=(.seq (.reg [⟨some 1,none,.boxv 26 2 (.t 0)⟩,⟨some 2,none,.mv (.c (.bool false))⟩]) (.seq (.reg [⟨some 3,none,.load true 2 (.t 1)⟩,⟨some 4,none,.call 58 [(.t 3)]⟩,⟨some 5,none,.mv (.t 4)⟩,⟨(some 6),(some (5,true)),(.load true 2 (.t 1))⟩,⟨(some 7),(some (5,true)),(.call 59 [(.t 6)])⟩,⟨some 8,none,.pick (.t 5) (.t 7) (.c (.bool false))⟩,⟨some 2,none,.mv (.t 8)⟩]) .ret))
theorem FT:A2 Try.prog 32=some ⟨9,Eb,[(.tmp 2)]⟩:=by kernel_rfl
theorem Bt:modes 32=⟨[],.asis,none,false⟩:=by unfold modes; rfl
def DT:SC:=(.seq (.reg [⟨some 1,none,.boxv 26 2 (.t 0)⟩,⟨some 2,none,.mv (.c (.bool false))⟩]) (.seq (.reg [⟨some 3,none,.faddr 0 (.t 1)⟩,⟨some 4,none,.load false 1 (.t 3)⟩,⟨(some 5),none,(.bin .eql false (.t 4) (.c (.str ⟨#[61]⟩)))⟩,⟨some 2,none,.mv (.t 5)⟩]) .ret))
theorem GK:A2 Try.prog 56=some ⟨6,DT,[(.tmp 2)]⟩:=by kernel_rfl
theorem AQ:modes 56=⟨[],.asis,none,false⟩:=by unfold modes; rfl
def AZ:SC:=(.seq (.reg [⟨some 1,none,.boxv 26 2 (.t 0)⟩,⟨some 2,none,.mv (.c (.bool false))⟩]) (.seq (.seq (.reg [⟨some 3,none,.load true 2 (.t 1)⟩,⟨some 4,none,.call 56 [(.t 3)]⟩]) (.cond (.t 4) (.seq (.reg [⟨some 5,none,.faddr 1 (.t 1)⟩,⟨some 6,none,.load false 1 (.t 5)⟩,⟨some 7,none,.len false (.t 6)⟩,⟨some 8,none,.bin .eql false (.t 7) (.c (.int .i64 2))⟩,⟨some 9,none,.mv (.t 8)⟩,⟨(some 10),(some (9,true)),(.load true 2 (.t 1))⟩,⟨(some 11),(some (9,true)),(.call 36 [(.t 10)])⟩,⟨some 12,none,.pick (.t 9) (.t 11) (.c (.bool false))⟩,⟨some 13,none,.mv (.t 12)⟩,⟨(some 14),(some (13,true)),(.faddr 1 (.t 1))⟩,⟨(some 15),(some (13,true)),(.load false 1 (.t 14))⟩,⟨(some 16),(some (13,true)),(.iaddr 2 (.t 15) (.c (.int .i64 0)))⟩,⟨(some 17),(some (13,true)),(.load true 2 (.t 16))⟩,⟨(some 18),(some (13,true)),(.call 37 [(.t 17)])⟩,⟨some 19,none,.pick (.t 13) (.t 18) (.c (.bool false))⟩,⟨some 20,none,.mv (.t 19)⟩,⟨(some 21),(some (20,true)),(.faddr 1 (.t 1))⟩,⟨(some 22),(some (20,true)),(.load false 1 (.t 21))⟩,⟨(some 23),(some (20,true)),(.iaddr 2 (.t 22) (.c (.int .i64 1)))⟩,⟨(some 24),(some (20,true)),(.load true 2 (.t 23))⟩,⟨(some 25),(some (20,true)),(.call 37 [(.t 24)])⟩,⟨some 26,none,.pick (.t 20) (.t 25) (.c (.bool false))⟩,⟨some 2,none,.mv (.t 26)⟩]) .ret) .skip)) (.seq (.reg [⟨some 27,none,.faddr 0 (.t 1)⟩,⟨some 28,none,.load false 1 (.t 27)⟩,⟨some 29,none,.call 64 [(.t 28)]⟩,⟨some 30,none,.mv (.t 29)⟩,⟨(some 31),(some (30,true)),(.load true 2 (.t 1))⟩,⟨(some 32),(some (30,true)),(.call 13 [(.t 31)])⟩,⟨some 33,none,.pick (.t 30) (.t 32) (.c (.bool false))⟩,⟨some 2,none,.mv (.t 33)⟩]) .ret)))
theorem Bs:A2 Try.prog 57=some ⟨34,AZ,[(.tmp 2)]⟩:=by kernel_rfl
theorem Ba:modes 57=⟨[],.asis,none,false⟩:=by unfold modes; rfl
def BH:SC:=(.seq (.reg [⟨some 1,none,.boxv 26 2 (.t 0)⟩,⟨some 2,none,.mv (.c (.bool false))⟩]) (.seq (.seq (.reg [⟨some 3,none,.faddr 0 (.t 1)⟩,⟨some 4,none,.load false 1 (.t 3)⟩,⟨(some 5),none,(.bin .eql false (.t 4) (.c (.str ⟨#[61]⟩)))⟩]) (.cond (.t 5) (.seq (.reg [⟨some 6,none,.faddr 1 (.t 1)⟩,⟨some 7,none,.load false 1 (.t 6)⟩,⟨some 8,none,.len false (.t 7)⟩,⟨some 9,none,.bin .eql false (.t 8) (.c (.int .i64 2))⟩,⟨some 10,none,.mv (.t 9)⟩,⟨(some 11),(some (10,true)),(.load true 2 (.t 1))⟩,⟨(some 12),(some (10,true)),(.call 58 [(.t 11)])⟩,⟨some 13,none,.pick (.t 10) (.t 12) (.c (.bool false))⟩,⟨some 14,none,.mv (.t 13)⟩,⟨(some 15),(some (14,true)),(.faddr 1 (.t 1))⟩,⟨(some 16),(some (14,true)),(.load false 1 (.t 15))⟩,⟨(some 17),(some (14,true)),(.iaddr 2 (.t 16) (.c (.int .i64 0)))⟩,⟨(some 18),(some (14,true)),(.load true 2 (.t 17))⟩,⟨(some 19),(some (14,true)),(.call 59 [(.t 18)])⟩,⟨some 20,none,.pick (.t 14) (.t 19) (.c (.bool false))⟩,⟨some 21,none,.mv (.t 20)⟩,⟨(some 22),(some (21,true)),(.faddr 1 (.t 1))⟩,⟨(some 23),(some (21,true)),(.load false 1 (.t 22))⟩,⟨(some 24),(some (21,true)),(.iaddr 2 (.t 23) (.c (.int .i64 1)))⟩,⟨(some 25),(some (21,true)),(.load true 2 (.t 24))⟩,⟨(some 26),(some (21,true)),(.call 59 [(.t 25)])⟩,⟨some 27,none,.pick (.t 21) (.t 26) (.c (.bool false))⟩,⟨some 2,none,.mv (.t 27)⟩]) .ret) .skip)) (.seq (.reg [⟨some 28,none,.faddr 0 (.t 1)⟩,⟨some 29,none,.load false 1 (.t 28)⟩,⟨some 30,none,.call 60 [(.t 29)]⟩,⟨some 31,none,.mv (.t 30)⟩,⟨(some 32),(some (31,true)),(.load true 2 (.t 1))⟩,⟨(some 33),(some (31,true)),(.call 32 [(.t 32)])⟩,⟨some 34,none,.pick (.t 31) (.t 33) (.c (.bool false))⟩,⟨some 2,none,.mv (.t 34)⟩]) .ret)))
theorem Cd:A2 Try.prog 33=some ⟨35,BH,[(.tmp 2)]⟩:=by kernel_rfl
theorem BI:modes 33=⟨[],.asis,none,false⟩:=by unfold modes; rfl
def BK:SC:=(.seq (.reg [⟨some 1,none,.boxv 26 2 (.t 0)⟩,⟨some 2,none,.mv (.c (.bool false))⟩]) (.seq (.reg [⟨some 3,none,.load true 2 (.t 1)⟩,⟨some 4,none,.call 13 [(.t 3)]⟩,⟨some 5,none,.mv (.t 4)⟩,⟨(some 6),(some (5,false)),(.load true 2 (.t 1))⟩,⟨(some 7),(some (5,false)),(.call 56 [(.t 6)])⟩,⟨(some 8),(some (5,false)),(.mv (.t 7))⟩,⟨(some 9),(some (8,true)),(.load true 2 (.t 1))⟩,⟨(some 10),(some (8,true)),(.call 57 [(.t 9)])⟩,⟨(some 11),(some (5,false)),(.pick (.t 8) (.t 10) (.c (.bool false)))⟩,⟨some 12,none,.pick (.t 5) (.c (.bool true)) (.t 11)⟩,⟨some 2,none,.mv (.t 12)⟩]) .ret))
theorem Cr:A2 Try.prog 29=some ⟨13,BK,[(.tmp 2)]⟩:=by kernel_rfl
theorem Bk:modes 29=⟨[],.asis,none,false⟩:=by unfold modes; rfl
theorem JO (x:Tm) (hn:x.nodes≤1099511627776):E 36 [x.sv] []=some (.bool x.small,[]):=by
 have h1:=O5 x hn
 have h2:=MA x hn
 have h3:=Tm.GB x
 have h4:=Tm.F8 x 30
 unfold Tm.small
 rcases zI 30 x.nodes with h5 | h5
 ·rw [decide_eq_false (by omega),z4]
  refine Al Fl AY (of_decide_eq_true rfl) ?_
  simp (disch:=omega) only [D8,go_sem,Aa,h1,h2,Da,Do]
 ·rw [decide_eq_true h5,zL]
  refine Al Fl AY (of_decide_eq_true rfl) ?_
  simp (disch:=omega) only [D8,go_sem,Aa,h1,h2,Da,Do]
  rcases zI 8 x.deep with h6 | h6
  ·rw [decide_eq_false (by omega),BP (by omega)]
  ·rw [decide_eq_true h6,BO (by omega)]
theorem Lk (x:Tm) (hn:x.nodes≤1099511627776):E 58 [x.sv] []=some (.bool x.small,[]):=by
 have h1:=O6 x 30 (by omega) (by omega) hn
 have h2:=JN x hn
 have h3:=Tm.GB x
 have h4:=Tm.F8 x 30
 unfold Tm.small
 rcases zI 30 x.nodes with h5 | h5
 ·rw [decide_eq_false (by omega),z4]
  refine Al FS Bh (of_decide_eq_true rfl) ?_
  simp (disch:=omega) only [Ea,go_sem,Aa,h1,h2,Cw,CD]
 ·rw [decide_eq_true h5,zL]
  refine Al FS Bh (of_decide_eq_true rfl) ?_
  simp (disch:=omega) only [Ea,go_sem,Aa,h1,h2,Cw,CD]
  rcases zI 8 x.deep with h6 | h6
  ·rw [decide_eq_false (by omega),BP (by omega)]
  ·rw [decide_eq_true h6,BO (by omega)]
theorem FU (x:Tm) (hn:x.nodes≤1099511627776):E 13 [x.sv] []=some (.bool x.valid,[]):=by
 have h1:=JO x hn
 have h2:=ED x hn
 unfold Tm.valid
 cases h3:x.small <;> rw [h3] at h1
 ·refine Al D9 AC (of_decide_eq_true rfl) ?_
  simp (disch:=omega) only [C3,go_sem,Aa,h1,h2,AY,AE]
 ·refine Al D9 AC (of_decide_eq_true rfl) ?_
  simp (disch:=omega) only [C3,go_sem,Aa,h1,h2,AY,AE]
theorem Ll (x:Tm) (hn:x.nodes≤1099511627776):E 32 [x.sv] []=some (.bool x.valid,[]):=by
 have h1:=Lk x hn
 have h2:=F9 x hn
 unfold Tm.valid
 cases h3:x.small <;> rw [h3] at h1
 ·refine Al FT Bt (of_decide_eq_true rfl) ?_
  simp (disch:=omega) only [Eb,go_sem,Aa,h1,h2,Bh,AF]
 ·refine Al FT Bt (of_decide_eq_true rfl) ?_
  simp (disch:=omega) only [Eb,go_sem,Aa,h1,h2,Bh,AF]
theorem EE (x:Tm):E 56 [x.sv] []=some (.bool x.eqn,[]):=by
 unfold Tm.eqn
 refine Al GK AQ (of_decide_eq_true rfl) ?_
 simp (disch:=omega) only [DT,go_sem,Aa]
theorem Jh (x:Tm) (hn:x.nodes≤1099511627776):E 57 [x.sv] []=some (.bool x.atom,[]):=by
 have hl:=Tm.length_le x.args
 have hx:=Tm.Av x
 have h0:=EE x
 have h1:=JO x hn
 have h2:=IC x.name
 have h3:=FU x hn
 have hE:dec (x.name=⟨#[61]⟩)=x.eqn:=rfl
 unfold Tm.atom
 cases he:x.eqn <;> rw [he] at h0 hE
 ·rw [if_neg (by simp)]
  cases hs:Dc x.name <;> rw [hs] at h2
  ·refine Al Bs Ba (of_decide_eq_true rfl) ?_
   simp (disch:=omega) only [AZ,go_sem,Aa,h0,h1,h2,h3,hE,AY,AE,AV,AC,AQ]
  ·refine Al Bs Ba (of_decide_eq_true rfl) ?_
   simp (disch:=omega) only [AZ,go_sem,Aa,h0,h1,h2,h3,hE,AY,AE,AV,AC,AQ]
 ·rw [if_pos rfl]
  by_cases hc:x.args.length=2
  ·have hlt0:0<x.args.length:=by omega
   have hlt1:1<x.args.length:=by omega
   have hg0:=get_at Tm.d hlt0
   have hg1:=get_at Tm.d hlt1
   rw [Tm.E7] at hg0 hg1
   have hb0:=Tm.Es x.args 0 hlt0
   have hb1:=Tm.Es x.args 1 hlt1
   have hn0:=ED x.args[0] (by omega)
   have hn1:=ED x.args[1] (by omega)
   rw [JI hc,show (x.args.length == 2)=true by simpa using hc]
   cases hs:x.small <;> rw [hs] at h1
   ·refine Al Bs Ba (of_decide_eq_true rfl) ?_
    simp (disch:=omega) only [AZ,go_sem,Aa,h0,h1,h2,h3,hE,hg0,hg1,hn0,hn1,hc,AY,AE,AV,AC,AQ]
    try simp
   ·cases hq:(x.args[0]'hlt0).names <;> rw [hq] at hn0
    ·refine Al Bs Ba (of_decide_eq_true rfl) ?_
     simp (disch:=omega) only [AZ,go_sem,Aa,h0,h1,h2,h3,hE,hg0,hg1,hn0,hn1,hc,AY,AE,AV,AC,AQ]
     try simp
    ·refine Al Bs Ba (of_decide_eq_true rfl) ?_
     simp (disch:=omega) only [AZ,go_sem,Aa,h0,h1,h2,h3,hE,hg0,hg1,hn0,hn1,hc,AY,AE,AV,AC,AQ]
     try simp
  ·refine Al Bs Ba (of_decide_eq_true rfl) ?_
   simp (disch:=omega) only [AZ,go_sem,Aa,h0,h1,h2,h3,hE,AY,AE,AV,AC,AQ]
   rw [show (x.args.length == 2)=false by simpa using hc]
   try simp
theorem O9 (x:Tm) (hn:x.nodes≤1099511627776):E 33 [x.sv] []=some (.bool x.atom,[]):=by
 have hl:=Tm.length_le x.args
 have hx:=Tm.Av x
 have h0:=EE x
 have h1:=Lk x hn
 have h2:=ID x.name
 have h3:=Ll x hn
 have hE:dec (x.name=⟨#[61]⟩)=x.eqn:=rfl
 unfold Tm.atom
 cases he:x.eqn <;> rw [he] at h0 hE
 ·rw [if_neg (by simp)]
  cases hs:Dc x.name <;> rw [hs] at h2
  ·refine Al Cd BI (of_decide_eq_true rfl) ?_
   simp (disch:=omega) only [BH,go_sem,Aa,h0,h1,h2,h3,hE,Bh,AF,AW,Bt]
  ·refine Al Cd BI (of_decide_eq_true rfl) ?_
   simp (disch:=omega) only [BH,go_sem,Aa,h0,h1,h2,h3,hE,Bh,AF,AW,Bt]
 ·rw [if_pos rfl]
  by_cases hc:x.args.length=2
  ·have hlt0:0<x.args.length:=by omega
   have hlt1:1<x.args.length:=by omega
   have hg0:=get_at Tm.d hlt0
   have hg1:=get_at Tm.d hlt1
   rw [Tm.E7] at hg0 hg1
   have hb0:=Tm.Es x.args 0 hlt0
   have hb1:=Tm.Es x.args 1 hlt1
   have hn0:=F9 x.args[0] (by omega)
   have hn1:=F9 x.args[1] (by omega)
   rw [JI hc,show (x.args.length == 2)=true by simpa using hc]
   cases hs:x.small <;> rw [hs] at h1
   ·refine Al Cd BI (of_decide_eq_true rfl) ?_
    simp (disch:=omega) only [BH,go_sem,Aa,h0,h1,h2,h3,hE,hg0,hg1,hn0,hn1,hc,Bh,AF,AW,Bt]
    try simp
   ·cases hq:(x.args[0]'hlt0).names <;> rw [hq] at hn0
    ·refine Al Cd BI (of_decide_eq_true rfl) ?_
     simp (disch:=omega) only [BH,go_sem,Aa,h0,h1,h2,h3,hE,hg0,hg1,hn0,hn1,hc,Bh,AF,AW,Bt]
     try simp
    ·refine Al Cd BI (of_decide_eq_true rfl) ?_
     simp (disch:=omega) only [BH,go_sem,Aa,h0,h1,h2,h3,hE,hg0,hg1,hn0,hn1,hc,Bh,AF,AW,Bt]
     try simp
  ·refine Al Cd BI (of_decide_eq_true rfl) ?_
   simp (disch:=omega) only [BH,go_sem,Aa,h0,h1,h2,h3,hE,Bh,AF,AW,Bt]
   rw [show (x.args.length == 2)=false by simpa using hc]
   try simp
noncomputable def FD (a b:ByteArray):Int:=bif strLt a b then -1 else bif dec (a=b) then 0 else 1
noncomputable def FE (a b:Int):Int:=bif dec (a<b) then -1 else bif dec (b<a) then 1 else 0
def orZ (x y:Int):Int:=if x=0 then y else x
mutual
noncomputable def Tm.cmp:Tm→Tm→Int
 | .mk n xs,y=>if Ca n&&!Ca y.name then -1 else if Ca y.name&&!Ca n then 1 else orZ (orZ (FD n y.name) (FE xs.length y.args.length)) (Tm.B6 xs y.args)
noncomputable def Tm.B6:List Tm→List Tm→Int
 | [],[]=>0
 | [],_ :: _=>-1
 | _ :: _,[]=>1
 | x :: xs,y :: ys=>orZ (Tm.cmp x y) (Tm.B6 xs ys)
end
theorem Tm.OA (x y:Tm):x.cmp y=if Ca x.name&&!Ca y.name then -1 else if Ca y.name&&!Ca x.name then 1 else orZ (orZ (FD x.name y.name) (FE x.args.length y.args.length)) (Tm.B6 x.args y.args):=by
 obtain ⟨n,xs⟩:=x
 rw [Tm.cmp]; rfl
def FV (s:ByteArray):Bool:=decide (0<s.size)&&(Ke (FN s 0) == Ca s)
mutual
def Tm.cok:Tm→Bool
 | .mk n xs=>FV n&&Tm.Ji xs
def Tm.Ji:List Tm→Bool
 | []=>true
 | x :: xs=>Tm.cok x&&Tm.Ji xs
end
theorem Tm.LU (x:Tm):x.cok=(FV x.name&&Tm.Ji x.args):=by
 obtain ⟨n,xs⟩:=x
 rw [Tm.cok]; rfl
theorem Tm.Lm {xs:List Tm} (h:Tm.Ji xs=true) {y:Tm} (hy:y∈xs):y.cok=true:=by
 induction xs with
 | nil=>cases hy
 | cons x xs ih =>
  rw [Tm.Ji,zE] at h
  rcases z2.1 hy with rfl | hy
  ·exact h.1
  ·exact ih h.2 hy
theorem Hn:∀ x:List UInt8,Op.bytesLess x x=false
 | []=>rfl
 | a :: x=>by simp [Op.bytesLess,Hn x]
theorem IN:∀ x y z:List UInt8,Op.bytesLess x y=true→Op.bytesLess y z=true→Op.bytesLess x z=true
 | [],_,[],_,h=>by cases ‹List UInt8› <;> simp [Op.bytesLess] at *
 | [],_,_ :: _,_,_=>rfl
 | _ :: _,[],_,h,_=>by simp [Op.bytesLess] at h
 | _ :: _,_ :: _,[],_,h=>by simp [Op.bytesLess] at h
 | a :: x,b :: y,c :: z,h,k=>by
  simp only [Op.bytesLess,Bool.or_eq_true,decide_eq_true_eq,zE,beq_iff_eq] at h k ⊢
  rcases h with h | ⟨rfl,h⟩
  ·rcases k with k | ⟨rfl,k⟩
   ·exact .inl (UInt8.lt_trans h k)
   ·exact .inl h
  ·rcases k with k | ⟨rfl,k⟩
   ·exact .inl k
   ·exact .inr ⟨rfl,IN x y z h k⟩
theorem OB:∀ x y:List UInt8,Op.bytesLess x y=false→Op.bytesLess y x=false→x=y
 | [],[],_,_=>rfl
 | [],_ :: _,h,_=>by simp [Op.bytesLess] at h
 | _ :: _,[],_,h=>by simp [Op.bytesLess] at h
 | a :: x,b :: y,h,k=>by
  simp only [Op.bytesLess,Bool.or_eq_false_iff,decide_eq_false_iff_not] at h k
  have hab:a=b:=by
   have h1:=h.1; have h2:=k.1
   rw [UInt8.lt_iff_toNat_lt] at h1 h2
   exact UInt8.toNat_inj.1 (by omega)
  subst hab
  have h1:Op.bytesLess x y=false:=by simpa using h.2
  have h2:Op.bytesLess y x=false:=by simpa using k.2
  rw [OB x y h1 h2]
theorem OC {a b:ByteArray} (h:a.toList=b.toList):a=b:=by
 rw [ByteArray.toList_eq,ByteArray.toList_eq] at h
 obtain ⟨⟨x⟩⟩:=a
 obtain ⟨⟨y⟩⟩:=b
 simp at h
 rw [h]
structure Ord3 {α:Type} (c:α→α→Int) (a b d:α):Prop where
 anti:c b a=- c a b
 zero:c a b=0 ↔ a=b
 trans:c a b<0→c b d<0→c a d<0
theorem IO (a b d:ByteArray):Ord3 FD a b d:=by
 have key:∀ x y:ByteArray,(FD x y=-1∧strLt x y=true∧x≠y)∨(FD x y=0∧x=y)∨(FD x y=1∧strLt y x=true∧strLt x y=false∧x≠y):=by
  intro x y
  unfold FD
  cases h:strLt x y with
  | true =>
   refine .inl ⟨rfl,rfl,?_⟩
   rintro rfl
   unfold strLt at h
   rw [Hn] at h; cases h
  | false =>
   by_cases e:x=y
   ·refine .inr (.inl ⟨?_,e⟩)
    rw [BO e]; rfl
   ·refine .inr (.inr ⟨?_,?_,rfl,e⟩)
    ·rw [BP e]; rfl
    ·cases h2:strLt y x with
     | true=>rfl
     | false=>exact absurd (OC (OB _ _ h h2)) e
 have asy:∀ x y:ByteArray,strLt x y=true→strLt y x=true→False:=fun x y h k=>by
  have:=IN _ _ _ h k
  rw [Hn] at this; cases this
 refine ⟨?_,?_,?_⟩
 ·rcases key a b with ⟨h,h1,h2⟩ | ⟨h,rfl⟩ | ⟨h,h1,h2,h3⟩
  ·rcases key b a with ⟨k,k1,k2⟩ | ⟨k,rfl⟩ | ⟨k,k1,k2,k3⟩
   ·exact (asy _ _ h1 k1).elim
   ·exact absurd rfl h2
   ·rw [h,k]; rfl
  ·rw [h]; rfl
  ·rcases key b a with ⟨k,k1,k2⟩ | ⟨k,rfl⟩ | ⟨k,k1,k2,k3⟩
   ·rw [h,k]
   ·exact absurd rfl h3
   ·exact (asy _ _ h1 k1).elim
 ·rcases key a b with ⟨h,h1,h2⟩ | ⟨h,rfl⟩ | ⟨h,h1,h2,h3⟩
  ·rw [h]; constructor
   ·intro e; cases e
   ·intro e; exact absurd e h2
  ·rw [h]; simp
  ·rw [h]; constructor
   ·intro e; cases e
   ·intro e; exact absurd e h3
 ·intro h k
  rcases key a b with ⟨_,h1,h2⟩ | ⟨e,_⟩ | ⟨e,_⟩
  ·rcases key b d with ⟨_,k1,k2⟩ | ⟨e,_⟩ | ⟨e,_⟩
   ·have:=IN _ _ _ h1 k1
    have e:strLt a d=true:=this
    unfold FD
    rw [e]; exact (by decide:(-1:Int)<0)
   ·omega
   ·omega
  ·omega
  ·omega
theorem Ey (a b d:Int):Ord3 FE a b d:=by
 have key:∀ x y:Int,FE x y=if x<y then -1 else if y<x then 1 else 0:=fun x y=>by
  unfold FE
  by_cases h:x<y
  ·rw [BO h,if_pos h]; rfl
  ·rw [BP h,if_neg h]
   by_cases h2:y<x
   ·rw [BO h2,if_pos h2]; rfl
   ·rw [BP h2,if_neg h2]; rfl
 refine ⟨?_,?_,?_⟩ <;> simp only [key]
 ·split <;> split <;> omega
 ·split
  ·constructor <;> omega
  ·split <;> constructor <;> omega
 ·split <;> split <;> split <;> omega
theorem GM {a b a' b':Int} (h:a'=-a) (k:b'=-b):orZ a' b'=- orZ a b:=by
 unfold orZ
 subst h k
 split <;> split <;> omega
theorem GN {a b:Int}:orZ a b=0 ↔ a=0∧b=0:=by
 unfold orZ
 split
 ·rename_i h; simp [h]
 ·rename_i h; simp [h]
theorem HR {a b:Int}:orZ a b<0 ↔ a<0∨(a=0∧b<0):=by
 unfold orZ
 split <;> omega
theorem IP {α:Type} {c:α→α→Int} (hc:∀ a b d,Ord3 c a b d) {a b d:α} {p q r:Int} (hk:p<0→q<0→r<0) (h1:orZ (c a b) p<0) (h2:orZ (c b d) q<0):orZ (c a d) r<0:=by
 rw [HR] at h1 h2 ⊢
 rcases h1 with h1 | ⟨h1,h3⟩
 ·rcases h2 with h2 | ⟨h2,h4⟩
  ·exact .inl ((hc a b d).trans h1 h2)
  ·have e:=(hc b d d).zero.1 h2
   subst e
   exact .inl h1
 ·have e:=(hc a b d).zero.1 h1
  subst e
  rcases h2 with h2 | ⟨h2,h4⟩
  ·exact .inl h2
  ·exact .inr ⟨h2,hk h3 h4⟩
def kvZ (n:ByteArray):Int:=if Ca n then 0 else 1
theorem Tm.Gn (x y:Tm):x.cmp y=orZ (FE (kvZ x.name) (kvZ y.name)) (orZ (FD x.name y.name) (orZ (FE x.args.length y.args.length) (Tm.B6 x.args y.args))):=by
 rw [Tm.OA]
 have hI:∀ p q:Int,FE p q=if p<q then -1 else if q<p then 1 else 0:=fun x y=>by
  unfold FE
  by_cases h:x<y
  ·rw [BO h,if_pos h]; rfl
  ·rw [BP h,if_neg h]
   by_cases h2:y<x
   ·rw [BO h2,if_pos h2]; rfl
   ·rw [BP h2,if_neg h2]; rfl
 rw [hI (kvZ _) (kvZ _)]
 have e:∀ p q r:Int,orZ (orZ p q) r=orZ p (orZ q r):=fun p q r=>by
  unfold orZ
  by_cases h:p=0
  ·simp [h]
  ·simp [h]
 unfold kvZ
 cases Ca x.name <;> cases Ca y.name <;> simp [e] <;> rfl
mutual
theorem Tm.Fn:∀ x y:Tm,y.cmp x=- x.cmp y
 | .mk n xs,.mk m ys=>by
  rw [Tm.Gn,Tm.Gn (.mk n xs)]
  exact GM (Ey _ _ 0).anti (GM (IO _ _ m).anti (GM (Ey _ _ 0).anti (Tm.JP xs ys)))
theorem Tm.JP:∀ xs ys:List Tm,Tm.B6 ys xs=- Tm.B6 xs ys
 | [],[]=>rfl
 | [],y :: ys=>by rw [Tm.B6,Tm.B6]; rfl
 | x :: xs,[]=>by rw [Tm.B6,Tm.B6]
 | x :: xs,y :: ys=>by
  rw [Tm.B6,Tm.B6]
  exact GM (Tm.Fn x y) (Tm.JP xs ys)
end
mutual
theorem Tm.CF:∀ x y:Tm,x.cmp y=0 ↔ x=y
 | .mk n xs,.mk m ys=>by
  rw [Tm.Gn,GN,GN,GN,(Ey _ _ 0).zero,(IO _ _ m).zero,(Ey _ _ 0).zero,show Tm.B6 (Tm.mk n xs).args (Tm.mk m ys).args=0 ↔ xs=ys from Tm.JQ xs ys]
  constructor
  ·rintro ⟨_,h1,_,h2⟩
   have h1:n=m:=h1
   rw [h1,h2]
  ·intro h
   injection h with h1 h2
   subst h1 h2
   exact ⟨rfl,rfl,rfl,rfl⟩
theorem Tm.JQ:∀ xs ys:List Tm,Tm.B6 xs ys=0 ↔ xs=ys
 | [],[]=>by rw [Tm.B6]; simp
 | [],y :: ys=>by rw [Tm.B6]; simp
 | x :: xs,[]=>by rw [Tm.B6]; simp
 | x :: xs,y :: ys=>by rw [Tm.B6,GN,Tm.CF x y,Tm.JQ xs ys,zX]
end
mutual
theorem Tm.Dr:∀ x y z:Tm,x.cmp y<0→y.cmp z<0→x.cmp z<0
 | .mk n xs,.mk m ys,.mk k zs=>by
  rw [Tm.Gn,Tm.Gn (.mk m ys),Tm.Gn (.mk n xs)]
  exact IP Ey (IP IO (IP Ey (Tm.IQ xs ys zs)))
theorem Tm.IQ:∀ xs ys zs:List Tm,Tm.B6 xs ys<0→Tm.B6 ys zs<0→Tm.B6 xs zs<0
 | [],[],zs=>by rw [Tm.B6]; intro h; omega
 | [],y :: ys,[]=>by intro _ h; rw [Tm.B6] at h; omega
 | [],y :: ys,z :: zs=>by intro _ _; rw [Tm.B6]; omega
 | x :: xs,[],zs=>by intro h; rw [Tm.B6] at h; omega
 | x :: xs,y :: ys,[]=>by intro _ h; rw [Tm.B6] at h; omega
 | x :: xs,y :: ys,z :: zs=>by
  rw [Tm.B6,Tm.B6,Tm.B6,HR,HR,HR]
  intro h1 h2
  rcases h1 with h1 | ⟨h1,h3⟩
  ·rcases h2 with h2 | ⟨h2,h4⟩
   ·exact .inl (Tm.Dr x y z h1 h2)
   ·obtain rfl:=(Tm.CF y z).1 h2
    exact .inl h1
  ·obtain rfl:=(Tm.CF x y).1 h1
   rcases h2 with h2 | ⟨h2,h4⟩
   ·exact .inl h2
   ·exact .inr ⟨h2,Tm.IQ xs ys zs h3 h4⟩
end
theorem Nr {xs ys:List Tm} {k:Nat} (h:k<xs.length) (h':k<ys.length):Tm.B6 (xs.drop k) (ys.drop k)=orZ (xs[k].cmp ys[k]) (Tm.B6 (xs.drop (k+1)) (ys.drop (k+1))):=by
 rw [zD h,zD h',Tm.B6]
theorem LV {xs ys:List Tm} {k:Nat} (h:k<xs.length) (h':ys.length≤k):Tm.B6 (xs.drop k) (ys.drop k)=1:=by
 rw [zD h,zC h',Tm.B6]
theorem OD {xs ys:List Tm} {k:Nat} (h:xs.length≤k) (h':k<ys.length):Tm.B6 (xs.drop k) (ys.drop k)=-1:=by
 rw [zD h',zC h,Tm.B6]
theorem Ns {xs ys:List Tm} {k:Nat} (h:xs.length≤k) (h':ys.length≤k):Tm.B6 (xs.drop k) (ys.drop k)=0:=by
 rw [zC h',zC h,Tm.B6]
theorem Gp {p:Nat→Int→Bool} {s:ByteArray} (h:CI p s s.size=true) (hs:0<s.size):p 0 (FN s 0)=true:=by
 unfold CI at h
 rw [zV] at h
 exact h 0 (List.mem_range.2 hs)
theorem Nt {s:ByteArray} (h:Ca s=true):FV s=true:=by
 have h0:=h
 unfold Ca inB at h
 rw [zE,zE,decide_eq_true_eq,decide_eq_true_eq] at h
 have hs:0<s.size:=by omega
 have h1:=Gp h.1 hs
 unfold Fe at h1
 unfold FV
 rw [h0]
 simp at h1
 simp [hs,h1]
theorem Nu {s:ByteArray} (hs:0<s.size) (h:Ke (FN s 0)=false):FV s=true:=by
 have hv:Ca s=false:=by
  rw [Bool.eq_false_iff]
  intro hv
  unfold Ca at hv
  rw [zE] at hv
  have h1:=Gp hv.1 hs
  unfold Fe at h1
  rw [h] at h1
  simp at h1
 unfold FV
 rw [hv,h]
 simp [hs]
theorem Nv {s:ByteArray} (h:Dc s=true):FV s=true:=by
 unfold Dc inB at h
 rw [zE,zE,zE,decide_eq_true_eq,decide_eq_true_eq] at h
 have hs:0<s.size:=by omega
 refine Nu hs ?_
 have h1:=Gp h.1.1 hs
 unfold FO at h1
 simp at h1
 have h2:=h1.1
 unfold KX at h2
 unfold Ke
 simp at h2 ⊢
 omega
mutual
theorem Tm.Ho:∀ x:Tm,x.names=true→x.cok=true
 | .mk n xs,h=>by
  rw [Tm.names] at h
  rw [Tm.cok,zE]
  split at h
  ·rename_i hv
   have:xs=[]:=by
    rw [beq_iff_eq] at h
    exact zW h
   subst this
   exact ⟨Nt hv,rfl⟩
  ·rw [zE,zE] at h
   exact ⟨Nv h.1.1,Tm.IR xs h.2⟩
theorem Tm.IR:∀ xs:List Tm,Tm.Dg xs=true→Tm.Ji xs=true
 | [],_=>rfl
 | x :: xs,h=>by
  rw [Tm.Dg,zE] at h
  rw [Tm.Ji,zE]
  exact ⟨Tm.Ho x h.1,Tm.IR xs h.2⟩
end
theorem Nw {s:ByteArray} {k:Nat} (h:k<s.size):EQ s k=FN s k:=by
 rw [←CQ h]
 unfold EQ
 rw [show s[k]?=some s[k] from getElem?_pos s k h]; rfl
theorem Nx {s:ByteArray} (h:FV s=true):0<s.size∧(dec (65≤EQ s 0)&&dec (EQ s 0≤90))=Ca s:=by
 unfold FV at h
 rw [zE,decide_eq_true_eq,beq_iff_eq] at h
 refine ⟨h.1,?_⟩
 rw [←h.2,Nw h.1,Ip,Ip]
 unfold Ke
 rfl
def DA:SC:=(.seq (.reg [⟨some 2,none,.mv (.c (.bool false))⟩]) (.seq (.reg [⟨some 3,none,.mv (.t 0)⟩,⟨some 4,none,.mv (.t 0)⟩,⟨some 5,none,.bin .neq false (.t 3) (.t 4)⟩,⟨some 2,none,.mv (.t 5)⟩]) .ret))
theorem Gq:A2 Try.prog 97=some ⟨6,DA,[(.tmp 2)]⟩:=by kernel_rfl
theorem BW:modes 97=⟨[],.asis,none,false⟩:=by unfold modes; rfl
def EM:SC:=(.seq (.reg [⟨some 2,none,.mv (.c (.bool false))⟩]) (.seq (.reg [⟨some 3,none,.mv (.t 0)⟩,⟨some 4,none,.mv (.t 0)⟩,⟨some 5,none,.bin .neq false (.t 3) (.t 4)⟩,⟨some 2,none,.mv (.t 5)⟩]) .ret))
theorem HJ:A2 Try.prog 98=some ⟨6,EM,[(.tmp 2)]⟩:=by kernel_rfl
theorem C1:modes 98=⟨[],.asis,none,false⟩:=by unfold modes; rfl
def BD:SC:=(.seq (.reg [⟨some 4,none,.mv (.c (.int .i64 0))⟩]) (.seq (.reg [⟨some 7,none,.mv (.t 0)⟩,⟨some 8,none,.call 97 [(.t 7)]⟩,⟨some 5,none,.mv (.t 8)⟩]) (.seq (.reg [⟨some 9,none,.mv (.t 1)⟩,⟨some 10,none,.call 97 [(.t 9)]⟩,⟨some 6,none,.mv (.t 10)⟩]) (.seq (.seq (.reg [⟨some 11,none,.mv (.t 5)⟩]) (.cond (.t 11) (.seq (.seq (.reg [⟨some 12,none,.mv (.t 6)⟩]) (.cond (.t 12) (.seq (.reg [⟨some 4,none,.mv (.c (.int .i64 0))⟩]) .ret) .skip)) (.seq (.reg [⟨some 4,none,.mv (.c (.int .i64 (-(0+1))))⟩]) .ret)) .skip)) (.seq (.seq (.reg [⟨some 13,none,.mv (.t 6)⟩]) (.cond (.t 13) (.seq (.reg [⟨some 4,none,.mv (.c (.int .i64 1))⟩]) .ret) .skip)) (.seq (.seq (.reg [⟨some 14,none,.mv (.t 0)⟩,⟨some 15,none,.mv (.t 1)⟩,⟨some 16,none,.bin .lss false (.t 14) (.t 15)⟩]) (.cond (.t 16) (.seq (.reg [⟨some 4,none,.mv (.c (.int .i64 (-(0+1))))⟩]) .ret) .skip)) (.seq (.seq (.reg [⟨some 17,none,.mv (.t 0)⟩,⟨some 18,none,.mv (.t 1)⟩,⟨some 19,none,.bin .gtr false (.t 17) (.t 18)⟩]) (.cond (.t 19) (.seq (.reg [⟨some 4,none,.mv (.c (.int .i64 1))⟩]) .ret) .skip)) (.seq (.reg [⟨some 4,none,.mv (.c (.int .i64 0))⟩]) .ret))))))))
theorem Cm:A2 Try.prog 73=some ⟨20,BD,[(.tmp 4)]⟩:=by kernel_rfl
theorem Bx:modes 73=⟨[],.asis,none,false⟩:=by unfold modes; rfl
def Cg:SC:=(.seq (.reg [⟨some 4,none,.mv (.c (.int .i64 0))⟩]) (.seq (.reg [⟨some 7,none,.mv (.t 0)⟩,⟨some 8,none,.call 98 [(.t 7)]⟩,⟨some 5,none,.mv (.t 8)⟩]) (.seq (.reg [⟨some 9,none,.mv (.t 1)⟩,⟨some 10,none,.call 98 [(.t 9)]⟩,⟨some 6,none,.mv (.t 10)⟩]) (.seq (.seq (.reg [⟨some 11,none,.mv (.t 5)⟩]) (.cond (.t 11) (.seq (.seq (.reg [⟨some 12,none,.mv (.t 6)⟩]) (.cond (.t 12) (.seq (.reg [⟨some 4,none,.mv (.c (.int .i64 0))⟩]) .ret) .skip)) (.seq (.reg [⟨some 4,none,.mv (.c (.int .i64 (-(0+1))))⟩]) .ret)) .skip)) (.seq (.seq (.reg [⟨some 13,none,.mv (.t 6)⟩]) (.cond (.t 13) (.seq (.reg [⟨some 4,none,.mv (.c (.int .i64 1))⟩]) .ret) .skip)) (.seq (.seq (.reg [⟨some 14,none,.mv (.t 0)⟩,⟨some 15,none,.mv (.t 1)⟩,⟨some 16,none,.bin .lss false (.t 14) (.t 15)⟩]) (.cond (.t 16) (.seq (.reg [⟨some 4,none,.mv (.c (.int .i64 (-(0+1))))⟩]) .ret) .skip)) (.seq (.seq (.reg [⟨some 17,none,.mv (.t 0)⟩,⟨some 18,none,.mv (.t 1)⟩,⟨some 19,none,.bin .gtr false (.t 17) (.t 18)⟩]) (.cond (.t 19) (.seq (.reg [⟨some 4,none,.mv (.c (.int .i64 1))⟩]) .ret) .skip)) (.seq (.reg [⟨some 4,none,.mv (.c (.int .i64 0))⟩]) .ret))))))))
theorem CG:A2 Try.prog 74=some ⟨20,Cg,[(.tmp 4)]⟩:=by kernel_rfl
theorem BE:modes 74=⟨[],.asis,none,false⟩:=by unfold modes; rfl
def GO:SC:=(.seq (.reg [⟨some 2,none,.mv (.c (.int .i64 0))⟩]) (.seq (.reg [⟨some 3,none,.mv (.c (.int .i64 0))⟩]) (.seq (.seq (.reg [⟨some 6,none,.mv (.t 0)⟩,⟨some 7,none,.len false (.t 6)⟩,⟨some 8,none,.mv (.c (.int .i64 0))⟩]) (.block 0 (.loop [0,0,0,1,0,0,1,1,1,0,0,0,0,0,0,0,0,0] (.seq (.reg [⟨some 9,none,.bin .lss false (.t 8) (.t 7)⟩]) (.seq (.cond (.t 9) .skip (.exit 0)) (.seq (.block 1 (.seq (.reg [⟨some 10,none,.iaddr 1 (.t 6) (.t 8)⟩,⟨some 11,none,.load false 1 (.t 10)⟩,⟨some 5,none,.mv (.t 11)⟩]) (.seq (.reg [⟨some 12,none,.mv (.t 5)⟩,⟨some 13,none,.mv (.t 3)⟩,⟨some 14,none,.bin .neq false (.t 12) (.t 13)⟩]) (.cond (.t 14) (.seq (.reg [⟨some 15,none,.mv (.t 5)⟩,⟨some 2,none,.mv (.t 15)⟩]) .ret) .skip)))) (.reg [⟨some 16,none,.bin .add false (.t 8) (.c (.int .i64 1))⟩,⟨some 8,none,.mv (.t 16)⟩]))))))) (.seq (.reg [⟨some 17,none,.mv (.t 3)⟩,⟨some 2,none,.mv (.t 17)⟩]) .ret))))
theorem Ko:A2 Try.prog 72=some ⟨18,GO,[(.tmp 2)]⟩:=by kernel_rfl
theorem EF:modes 72=⟨[],.asis,none,false⟩:=by unfold modes; rfl
theorem Ln (a:ByteArray):E 97 [.str a] []=some (.bool false,[]):=by
 refine Al Gq BW (of_decide_eq_true rfl) ?_
 simp (disch:=omega) only [DA,go_sem,Aa]
theorem Lo (a:Int):E 98 [.int .i64 a] []=some (.bool false,[]):=by
 refine Al HJ C1 (of_decide_eq_true rfl) ?_
 simp (disch:=omega) only [EM,go_sem,Aa]
theorem LW (a b:ByteArray):E 73 [.str a,.str b] []=some (.int .i64 (FD a b),[]):=by
 have h1:=Ln a
 have h2:=Ln b
 unfold FD
 cases h3:strLt a b
 ·cases h4:dec (a=b)
  ·refine Al Cm Bx (of_decide_eq_true rfl) ?_
   simp (disch:=omega) only [BD,go_sem,Aa,h1,h2,h3,h4,BW]
  ·refine Al Cm Bx (of_decide_eq_true rfl) ?_
   simp (disch:=omega) only [BD,go_sem,Aa,h1,h2,h3,h4,BW]
 ·refine Al Cm Bx (of_decide_eq_true rfl) ?_
  simp (disch:=omega) only [BD,go_sem,Aa,h1,h2,h3,BW]
theorem LX (a b:Int):E 74 [.int .i64 a,.int .i64 b] []=some (.int .i64 (FE a b),[]):=by
 have h1:=Lo a
 have h2:=Lo b
 unfold FE
 cases h3:dec (a<b)
 ·cases h4:dec (b<a)
  ·refine Al CG BE (of_decide_eq_true rfl) ?_
   simp (disch:=omega) only [Cg,go_sem,Aa,h1,h2,h3,h4,C1]
  ·refine Al CG BE (of_decide_eq_true rfl) ?_
   simp (disch:=omega) only [Cg,go_sem,Aa,h1,h2,h3,h4,C1]
 ·refine Al CG BE (of_decide_eq_true rfl) ?_
  simp (disch:=omega) only [Cg,go_sem,Aa,h1,h2,h3,C1]
def orL:List Int→Int
 | []=>0
 | x :: xs=>if x=0 then orL xs else x
theorem Ry (xs:List Int) (hl:xs.length≤1099511627776):E 72 [.arr (xs.map fun n=>[D.int n])] []=some (.int .i64 (orL xs),[]):=by
 refine Al Ko EF (of_decide_eq_true rfl) ?_
 simp (disch:=omega) only [GO,go_sem,Aa]
 refine go_loop (α:=Int) (fun a=>⟨slots 18 0 [(3,.int .i64 0),(6,.arr (xs.map fun n=>[D.int n])),(7,.int .i64 xs.length),(8,.int .i64 a)],[]⟩) (fun a=>∃ k:Nat,a=k∧k≤(xs).length∧orL (xs.drop k)=orL xs) (fun a=>(xs).length-(a).toNat) 0 ⟨0,rfl,zO _,by rw [zJ]⟩ (by simp (disch:=omega) only [go_sem,Aa]) ?_
 rintro i ⟨k,hi,hk,hR⟩
 have hni:i.toNat=k:=by omega
 have hni1:(i+1).toNat=k+1:=by omega
 rcases zI k (xs).length with hlt | hge
 ·have hg:=get_at (fun n=>[D.int n]) hlt
  rw [zD hlt,orL] at hR
  by_cases h0:xs[k]=0
  ·rw [if_pos h0] at hR
   simp (disch:=omega) only [go_sem,Aa,hni,hg,h0]
   exact ⟨i+1,⟨k+1,by omega,hlt,hR⟩,by omega,by first | trivial | rfl⟩
  ·rw [if_neg h0] at hR
   simp (disch:=omega) only [go_sem,Aa,hni,hg,h0]
   exact hR
 ·rw [zC hge,orL] at hR
  simp (disch:=omega) only [go_sem,Aa,hni]
  exact hR
theorem Rv (a b:Int):E 72 [.arr [[.int a],[.int b]]] []=some (.int .i64 (orZ a b),[]):=by
 have h:=Ry [a,b] (by simp)
 have e:orL [a,b]=orZ a b:=by
  simp only [orL,orZ]
  split
  ·split <;> omega
  ·rfl
 rw [e] at h
 exact h
def DB:SC:=(.seq (.reg [⟨some 2,none,.mv (.c (.bool false))⟩]) (.seq (.reg [⟨some 3,none,.mv (.t 0)⟩,⟨some 4,none,.bin .geq false (.t 3) (.c (.int .u8 65))⟩,⟨some 5,none,.mv (.t 4)⟩,⟨(some 6),(some (5,true)),(.mv (.t 0))⟩,⟨(some 7),(some (5,true)),(.bin .leq false (.t 6) (.c (.int .u8 90)))⟩,⟨some 8,none,.pick (.t 5) (.t 7) (.c (.bool false))⟩,⟨some 2,none,.mv (.t 8)⟩]) .ret))
theorem Fo:A2 Try.prog 83=some ⟨9,DB,[(.tmp 2)]⟩:=by kernel_rfl
theorem DC:modes 83=⟨[],.asis,none,false⟩:=by unfold modes; rfl
def GP:SC:=(.seq (.reg [⟨some 1,none,.boxv 26 2 (.t 0)⟩,⟨some 2,none,.mv (.c (.bool false))⟩]) (.seq (.reg [⟨some 3,none,.faddr 0 (.t 1)⟩,⟨some 4,none,.load false 1 (.t 3)⟩,⟨some 5,none,.idx (.t 4) (.c (.int .i64 0))⟩,⟨some 6,none,.call 83 [(.t 5)]⟩,⟨some 2,none,.mv (.t 6)⟩]) .ret))
theorem Kp:A2 Try.prog 71=some ⟨7,GP,[(.tmp 2)]⟩:=by kernel_rfl
theorem EG:modes 71=⟨[],.asis,none,false⟩:=by unfold modes; rfl
theorem Ny (n:Int):E 83 [.int .u8 n] []=some (.bool (dec (65≤n)&&dec (n≤90)),[]):=by
 cases h1:dec (65≤n)
 ·refine Al Fo DC (of_decide_eq_true rfl) ?_
  simp (disch:=omega) only [DB,go_sem,Aa,h1]
 ·refine Al Fo DC (of_decide_eq_true rfl) ?_
  simp (disch:=omega) only [DB,go_sem,Aa,h1]
theorem MB (x:Tm) (h:x.cok=true):E 71 [x.sv] []=some (.bool (Ca x.name),[]):=by
 rw [Tm.LU,zE] at h
 obtain ⟨h1,h2⟩:=Nx h.1
 have h3:=Ny (EQ x.name 0)
 rw [h2] at h3
 refine Al Kp EG (of_decide_eq_true rfl) ?_
 simp (disch:=omega) only [GP,go_sem,Aa,h3,DC]
def AH:SC:=(.seq (.reg [⟨some 6,none,.mv (.c (.int .i64 0))⟩]) (.seq (.seq (.reg [⟨some 11,none,.mv (.t 0)⟩,⟨some 12,none,.len false (.t 11)⟩,⟨some 13,none,.mv (.c (.int .i64 0))⟩]) (.block 0 (.loop [1,1,1,0,0,0,0,0,0,0,0,1,1,1,0,0,0,0,0,0,0,0,0,0,0,0,0,0,0,0,0,0,0,0,0,0,0,0,0] (.seq (.reg [⟨some 14,none,.bin .lss false (.t 13) (.t 12)⟩]) (.seq (.cond (.t 14) .skip (.exit 0)) (.seq (.block 1 (.seq (.reg [⟨some 15,none,.mv (.t 13)⟩,⟨some 16,none,.iaddr 2 (.t 11) (.t 13)⟩,⟨some 17,none,.load true 2 (.t 16)⟩,⟨(some 8),none,(.alloc 26 [(.str ⟨#[]⟩),.nil])⟩,⟨some 7,none,.mv (.t 15)⟩,⟨none,none,(.store 2 (.t 8) (.t 17))⟩]) (.seq (.seq (.reg [⟨some 18,none,.mv (.t 7)⟩,⟨some 19,none,.mv (.t 1)⟩,⟨some 20,none,.len false (.t 19)⟩,⟨some 21,none,.bin .geq false (.t 18) (.t 20)⟩]) (.cond (.t 21) (.seq (.reg [⟨some 6,none,.mv (.c (.int .i64 1))⟩]) .ret) .skip)) (.seq (.reg [⟨some 22,none,.mv (.t 1)⟩,⟨some 23,none,.mv (.t 7)⟩,⟨some 24,none,.iaddr 2 (.t 22) (.t 23)⟩,⟨some 25,none,.load true 2 (.t 24)⟩,⟨(some 9),none,(.alloc 26 [(.str ⟨#[]⟩),.nil])⟩,⟨none,none,(.store 2 (.t 9) (.t 25))⟩]) (.seq (.reg [⟨some 26,none,.mv (.t 2)⟩,⟨some 27,none,.load true 2 (.t 8)⟩,⟨some 28,none,.load true 2 (.t 9)⟩,⟨some 29,none,.callv (.t 26) [(.t 27),(.t 28)]⟩,⟨some 10,none,.mv (.t 29)⟩]) (.seq (.reg [⟨some 30,none,.mv (.t 10)⟩,⟨some 31,none,.bin .neq false (.t 30) (.c (.int .i64 0))⟩]) (.cond (.t 31) (.seq (.reg [⟨some 32,none,.mv (.t 10)⟩,⟨some 6,none,.mv (.t 32)⟩]) .ret) .skip))))))) (.reg [⟨some 33,none,.bin .add false (.t 13) (.c (.int .i64 1))⟩,⟨some 13,none,.mv (.t 33)⟩]))))))) (.seq (.seq (.reg [⟨some 34,none,.mv (.t 0)⟩,⟨some 35,none,.len false (.t 34)⟩,⟨some 36,none,.mv (.t 1)⟩,⟨some 37,none,.len false (.t 36)⟩,⟨some 38,none,.bin .lss false (.t 35) (.t 37)⟩]) (.cond (.t 38) (.seq (.reg [⟨some 6,none,.mv (.c (.int .i64 (-(0+1))))⟩]) .ret) .skip)) (.seq (.reg [⟨some 6,none,.mv (.c (.int .i64 0))⟩]) .ret))))
theorem Bo:A2 Try.prog 75=some ⟨39,AH,[(.tmp 6)]⟩:=by kernel_rfl
theorem AI:modes 75=⟨[],.asis,none,false⟩:=by unfold modes; rfl
def Cs:SC:=(.seq (.reg [⟨some 2,none,.boxv 26 2 (.t 0)⟩,⟨some 3,none,.boxv 26 2 (.t 1)⟩,⟨some 4,none,.mv (.c (.int .i64 0))⟩]) (.seq (.dreg [[],[0],[],[2,1,0],[1,0,3,2],[3,2,1,0,4]] [⟨some 8,none,.load true 2 (.t 2)⟩,⟨some 9,none,.call 71 [(.t 8)]⟩,⟨some 10,none,.load true 2 (.t 3)⟩,⟨some 11,none,.call 71 [(.t 10)]⟩,⟨some 5,none,.mv (.t 9)⟩,⟨some 6,none,.mv (.t 11)⟩]) (.seq (.block 0 (.seq (.reg [⟨some 13,none,.mv (.t 5)⟩,⟨some 14,none,.mv (.t 13)⟩,⟨(some 15),(some (14,true)),(.mv (.t 6))⟩,⟨(some 16),(some (14,true)),(.un .not (.t 15))⟩,⟨some 17,none,.pick (.t 14) (.t 16) (.c (.bool false))⟩,⟨some 12,none,.mv (.t 17)⟩]) (.cond (.t 12) (.seq (.reg [⟨some 4,none,.mv (.c (.int .i64 (-(0+1))))⟩]) .ret) (.seq (.reg [⟨some 19,none,.mv (.t 6)⟩,⟨some 20,none,.mv (.t 19)⟩,⟨(some 21),(some (20,true)),(.mv (.t 5))⟩,⟨(some 22),(some (20,true)),(.un .not (.t 21))⟩,⟨some 23,none,.pick (.t 20) (.t 22) (.c (.bool false))⟩,⟨some 18,none,.mv (.t 23)⟩]) (.cond (.t 18) (.seq (.reg [⟨some 4,none,.mv (.c (.int .i64 1))⟩]) .ret) .skip))))) (.seq (.seq (.dreg [[],[0],[],[2],[1,0,3,2],[],[5],[6,5],[],[8],[9,8],[7,6,5,10,9,8,4,1,0,3,2],[4,1,0,3,2,11,7,6,5,10,9,8],[12,4,1,0,3,2,11,7,6,5,10,9,8],[13,12,4,1,0,3,2,11,7,6,5,10,9,8]] [⟨some 24,none,.faddr 0 (.t 2)⟩,⟨some 25,none,.load false 1 (.t 24)⟩,⟨some 26,none,.faddr 0 (.t 3)⟩,⟨some 27,none,.load false 1 (.t 26)⟩,⟨some 28,none,.call 73 [(.t 25),(.t 27)]⟩,⟨some 29,none,.faddr 1 (.t 2)⟩,⟨some 30,none,.load false 1 (.t 29)⟩,⟨some 31,none,.len false (.t 30)⟩,⟨some 32,none,.faddr 1 (.t 3)⟩,⟨some 33,none,.load false 1 (.t 32)⟩,⟨some 34,none,.len false (.t 33)⟩,⟨some 35,none,.call 74 [(.t 31),(.t 34)]⟩,⟨some 36,none,.mkrow 3 1 [(.int .i64 0)] 2 [(0,(.t 28)),(1,(.t 35))]⟩,⟨some 37,none,.call 72 [(.t 36)]⟩,⟨some 7,none,.mv (.t 37)⟩]) (.seq (.reg [⟨some 38,none,.mv (.t 7)⟩,⟨some 39,none,.bin .neq false (.t 38) (.c (.int .i64 0))⟩]) (.cond (.t 39) (.seq (.reg [⟨some 40,none,.mv (.t 7)⟩,⟨some 4,none,.mv (.t 40)⟩]) .ret) .skip))) (.seq (.reg [⟨some 41,none,.faddr 1 (.t 2)⟩,⟨some 42,none,.load false 1 (.t 41)⟩,⟨some 43,none,.faddr 1 (.t 3)⟩,⟨some 44,none,.load false 1 (.t 43)⟩,⟨some 45,none,.call 75 [(.t 42),(.t 44),(.c (.fn 43 []))]⟩,⟨some 4,none,.mv (.t 45)⟩]) .ret)))))
theorem Dk:A2 Try.prog 43=some ⟨46,Cs,[(.tmp 4)]⟩:=by kernel_rfl
theorem BL:modes 43=⟨[],.asis,none,false⟩:=by unfold modes; rfl
theorem FF:GT Try.prog 43=true:=by kernel_rfl
theorem Jj (fid:Nat) (xs ys:List Tm) (hl:xs.length≤1099511627776) (hl':ys.length≤1099511627776) (hg:GT Try.prog fid=true) (hm:(modes fid).hand=[]) (hE:∀ x∈xs,∀ y∈ys,E fid [x.sv,y.sv] []=some (.int .i64 (x.cmp y),[])):E 75 [.arr (xs.map Tm.d),.arr (ys.map Tm.d),.fn fid []] []=some (.int .i64 (Tm.B6 xs ys),[]):=by
 refine Al Bo AI (of_decide_eq_true rfl) ?_
 simp (disch:=omega) only [AH,go_sem,Aa]
 refine go_loop (α:=Int) (fun a=>⟨slots 39 0 [(0,.arr (xs.map Tm.d)),(1,.arr (ys.map Tm.d)),(2,.fn fid []),(11,.arr (xs.map Tm.d)),(12,.int .i64 xs.length),(13,.int .i64 a)],[]⟩) (fun a=>∃ k:Nat,a=k∧k≤(xs).length∧k≤ys.length∧Tm.B6 (xs.drop k) (ys.drop k)=Tm.B6 xs ys) (fun a=>(xs).length-(a).toNat) 0 ⟨0,rfl,zO _,zO _,by rw [zJ,zJ]⟩ (by simp (disch:=omega) only [go_sem,Aa]) ?_
 rintro i ⟨k,hi,hk,hR⟩
 have hni:i.toNat=k:=by omega
 have hni1:(i+1).toNat=k+1:=by omega
 rcases zI k (xs).length with hlt | hge
 ·obtain ⟨hk',hR⟩:=hR
  have hgx:=get_at Tm.d hlt
  rw [Tm.E7] at hgx
  rcases zI k ys.length with hlt' | hge'
  ·have hgy:=get_at Tm.d hlt'
   rw [Tm.E7] at hgy
   have hc:=hE xs[k] (zH hlt) ys[k] (zH hlt')
   rw [Nr hlt hlt'] at hR
   by_cases h0:xs[k].cmp ys[k]=0
   ·rw [orZ,if_pos h0] at hR
    rw [h0] at hc
    simp (disch:=omega) only [go_sem,Aa,hni,hgx,hgy,hc,hg,hm]
    exact ⟨i+1,⟨k+1,by omega,hlt,hlt',hR⟩,by omega,by first | trivial | rfl⟩
   ·rw [orZ,if_neg h0] at hR
    simp (disch:=omega) only [go_sem,Aa,hni,hgx,hgy,hc,hg,hm,h0]
    exact hR
  ·rw [LV hlt hge'] at hR
   simp (disch:=omega) only [go_sem,Aa,hni,hgx]
   exact hR
 ·obtain ⟨hk',hR⟩:=hR
  obtain rfl:k=xs.length:=by omega
  rcases zI xs.length ys.length with hlt' | hge'
  ·rw [OD (z0 _) hlt'] at hR
   simp (disch:=omega) only [go_sem,Aa,hni]
   exact hR
  ·rw [Ns (z0 _) hge'] at hR
   simp (disch:=omega) only [go_sem,Aa,hni]
   exact hR
abbrev Ra (f:FuncId) (x y:Tm):Prop:=x.cok=true→y.cok=true→x.nodes≤1099511627776→y.nodes≤1099511627776→E f [x.sv,y.sv] []=some (.int .i64 (x.cmp y),[])
theorem HK (x:Tm) (ih:∀ x'∈x.args,∀ y,Ra 43 x' y) (y:Tm):Ra 43 x y:=by
 intro hx hy hnx hny
 have lx:=Tm.length_le x.args
 have ly:=Tm.length_le y.args
 have nx:=Tm.Av x
 have ny:=Tm.Av y
 have h1:=MB x hx
 have h2:=MB y hy
 have h3:=LW x.name y.name
 have h4:=LX x.args.length y.args.length
 have h5:=Rv (FD x.name y.name) (FE x.args.length y.args.length)
 rw [Tm.LU,zE] at hx hy
 have h6:=Jj 43 x.args y.args (by omega) (by omega) FF (by rw [BL]) fun x' hx' y' hy'=>ih x' hx' y' (Tm.Lm hx.2 hx') (Tm.Lm hy.2 hy') (by have:=Tm.B4 hx'; omega) (by have:=Tm.B4 hy'; omega)
 rw [Tm.OA]
 cases vx:Ca x.name <;> rw [vx] at h1 <;> cases vy:Ca y.name <;> rw [vy] at h2
 all_goals
  simp only [Bool.not_true,Bool.not_false,zQ,zY,zL,z4,if_true,if_false,Bool.false_eq_true]
  by_cases h0:orZ (FD x.name y.name) (FE x.args.length y.args.length)=0
  ·rw [h0] at h5
   try rw [h0]
   refine Al Dk BL (of_decide_eq_true rfl) ?_
   simp (disch:=omega) only [Cs,go_sem,Aa,h1,h2,h3,h4,h5,h6,EG,Bx,BE,EF,AI]
   try rfl
  ·try rw [orZ.eq_1 (orZ _ _) _,if_neg h0]
   refine Al Dk BL (of_decide_eq_true rfl) ?_
   simp (disch:=omega) only [Cs,go_sem,Aa,h0,h1,h2,h3,h4,h5,EG,Bx,BE,EF]
theorem Fp (x y:Tm):Ra 43 x y:=HK x (fun x' hx' y'=>Fp x' y') y
termination_by SizeOf.sizeOf x
decreasing_by exact Tm.Bj hx'
theorem Tm.Nz {x:Tm} (h:x.names=true) {y:Tm} (hy:y∈x.args):y.names=true:=by
 rw [Tm.IF] at h
 split at h
 ·have:x.args=[]:=zW (by simpa using h)
  rw [this] at hy; cases hy
 ·rw [zE,Tm.F7,zV] at h
  exact h.2 y hy
noncomputable def Tm.expr (x:Tm):Bool:=x.valid || x.atom
theorem Tm.IS {x:Tm} (h:x.expr=true):x.names=true∨(x.eqn=true∧Tm.Dg x.args=true):=by
 unfold Tm.expr Tm.valid at h
 cases hn:x.names with
 | true=>exact .inl rfl
 | false =>
  rw [hn,zY,z9] at h
  unfold Tm.atom at h
  split at h
  ·rename_i he
   rw [zE] at h
   exact .inr ⟨he,h.2⟩
  ·unfold Tm.valid at h; rw [hn,zY,zY] at h; cases h
theorem Tm.OE {x:Tm} (h:x.expr=true) {y:Tm} (hy:y∈x.args):y.names=true:=by
 rcases Tm.IS h with h1 | ⟨h1,h2⟩
 ·exact Tm.Nz h1 hy
 ·rw [Tm.F7,zV] at h2; exact h2 y hy
theorem Fq (x:Tm) (hn:x.nodes≤1099511627776):E 29 [x.sv] []=some (.bool x.expr,[]):=by
 have h1:=FU x hn
 have h2:=EE x
 have h3:=Jh x hn
 unfold Tm.expr
 cases hv:x.valid with
 | true =>
  rw [hv] at h1
  rw [Bool.true_or]
  refine Al Cr Bk (of_decide_eq_true rfl) ?_
  simp (disch:=omega) only [BK,go_sem,Aa,h1,AC]
 | false =>
  rw [hv] at h1
  rw [z9]
  cases he:x.eqn with
  | true =>
   rw [he] at h2
   refine Al Cr Bk (of_decide_eq_true rfl) ?_
   simp (disch:=omega) only [BK,go_sem,Aa,h1,h2,h3,AC,AQ,Ba]
  | false =>
   rw [he] at h2
   have ha:x.atom=false:=by unfold Tm.atom; rw [if_neg (by rw [he]; simp),hv,zY]
   rw [ha]
   refine Al Cr Bk (of_decide_eq_true rfl) ?_
   simp (disch:=omega) only [BK,go_sem,Aa,h1,h2,AC,AQ]
theorem Tm.Lp {x:Tm} (h:x.expr=true):x.cok=true:=by
 rcases Tm.IS h with hn | ⟨he,ha⟩
 ·exact Tm.Ho x hn
 ·have hname:x.name=⟨#[61]⟩:=by unfold Tm.eqn at he; exact A3.1 he
  have hc:FV ⟨#[61]⟩=true:=by kernel_rfl
  rw [Tm.LU,hname,hc,zL]
  have key:∀ xs:List Tm,(∀ y∈xs,y.names=true)→Tm.Ji xs=true:=by
   intro xs
   induction xs with
   | nil=>intro _; rw [Tm.Ji]
   | cons y ys ih=>intro hh; rw [Tm.Ji,Tm.Ho y (hh y (by simp)),ih fun z hz=>hh z (by simp [hz])]; rfl
  exact key _ fun y hy=>Tm.OE h hy
def BM:SC:=(.seq (.reg [⟨some 2,none,.boxv 26 2 (.t 0)⟩,⟨some 3,none,.boxv 26 2 (.t 1)⟩,⟨some 4,none,.mv (.c (.int .i64 0))⟩,⟨some 5,none,.mv (.c (.bool false))⟩]) (.seq (.seq (.reg [⟨some 6,none,.load true 2 (.t 2)⟩,⟨some 7,none,.call 29 [(.t 6)]⟩,⟨some 8,none,.un .not (.t 7)⟩,⟨some 9,none,.mv (.t 8)⟩,⟨(some 10),(some (9,false)),(.load true 2 (.t 3))⟩,⟨(some 11),(some (9,false)),(.call 29 [(.t 10)])⟩,⟨(some 12),(some (9,false)),(.un .not (.t 11))⟩,⟨some 13,none,.pick (.t 9) (.c (.bool true)) (.t 12)⟩]) (.cond (.t 13) (.seq (.reg [⟨some 4,none,.mv (.c (.int .i64 0))⟩,⟨some 5,none,.mv (.c (.bool false))⟩]) .ret) .skip)) (.seq (.reg [⟨some 14,none,.load true 2 (.t 2)⟩,⟨some 15,none,.load true 2 (.t 3)⟩,⟨some 16,none,.call 43 [(.t 14),(.t 15)]⟩,⟨some 4,none,.mv (.t 16)⟩,⟨some 5,none,.mv (.c (.bool true))⟩]) .ret)))
theorem Ct:A2 Try.prog 19=some ⟨17,BM,[(.tmp 4),(.tmp 5)]⟩:=by kernel_rfl
theorem Ad:modes 19=⟨[],.asis,none,false⟩:=by unfold modes; rfl
def DD:SC:=(.seq (.reg [⟨some 1,none,.boxv 26 2 (.t 0)⟩,⟨some 2,none,.mv (.c (.bool false))⟩]) (.seq (.reg [⟨some 3,none,.load true 2 (.t 1)⟩,⟨some 4,none,.call 32 [(.t 3)]⟩,⟨some 2,none,.mv (.t 4)⟩]) .ret))
theorem Gr:A2 Try.prog 10=some ⟨5,DD,[(.tmp 2)]⟩:=by kernel_rfl
theorem Af:modes 10=⟨[],.asis,none,false⟩:=by unfold modes; rfl
def DE:SC:=(.seq (.reg [⟨some 1,none,.boxv 26 2 (.t 0)⟩,⟨some 2,none,.mv (.c (.bool false))⟩]) (.seq (.reg [⟨some 3,none,.load true 2 (.t 1)⟩,⟨some 4,none,.call 33 [(.t 3)]⟩,⟨some 2,none,.mv (.t 4)⟩]) .ret))
theorem Gs:A2 Try.prog 11=some ⟨5,DE,[(.tmp 2)]⟩:=by kernel_rfl
theorem Ah:modes 11=⟨[],.asis,none,false⟩:=by unfold modes; rfl
def Ae:SC:=(.seq (.reg [⟨some 2,none,.mv (.c (.bool false))⟩]) (.seq (.seq (.reg [⟨some 16,none,.mv (.t 0)⟩,⟨some 17,none,.call 6 [(.t 16)]⟩]) (.cond (.t 17) (.seq (.reg [⟨some 2,none,.mv (.c (.bool true))⟩]) .ret) .skip)) (.seq (.reg [⟨some 19,none,.mv (.t 0)⟩,⟨some 20,none,.call 16 [(.t 19)]⟩,⟨some 18,none,.mv (.t 20)⟩,⟨some 21,none,.ext (.t 18) 0⟩,⟨some 22,none,.ext (.t 18) 1⟩,⟨(some 3),none,(.alloc 26 [(.str ⟨#[]⟩),.nil])⟩,⟨(some 4),none,(.alloc 26 [(.str ⟨#[]⟩),.nil])⟩,⟨none,none,(.store 2 (.t 3) (.t 21))⟩,⟨none,none,(.store 2 (.t 4) (.t 22))⟩]) (.seq (.reg [⟨some 24,none,.mv (.t 0)⟩,⟨some 25,none,.call 18 [(.t 24),(.c (.int .i64 7))]⟩,⟨some 26,none,.call 17 [(.t 25)]⟩,⟨some 23,none,.mv (.t 26)⟩,⟨some 27,none,.ext (.t 23) 0⟩,⟨some 28,none,.ext (.t 23) 1⟩,⟨(some 5),none,(.alloc 26 [(.str ⟨#[]⟩),.nil])⟩,⟨(some 6),none,(.alloc 26 [(.str ⟨#[]⟩),.nil])⟩,⟨none,none,(.store 2 (.t 5) (.t 27))⟩,⟨none,none,(.store 2 (.t 6) (.t 28))⟩]) (.seq (.reg [⟨some 30,none,.load true 2 (.t 3)⟩,⟨some 31,none,.load true 2 (.t 4)⟩,⟨some 32,none,.call 19 [(.t 30),(.t 31)]⟩,⟨some 29,none,.mv (.t 32)⟩,⟨some 33,none,.ext (.t 29) 0⟩,⟨some 34,none,.ext (.t 29) 1⟩,⟨some 7,none,.mv (.t 33)⟩,⟨some 8,none,.mv (.t 34)⟩]) (.seq (.reg [⟨some 36,none,.load true 2 (.t 4)⟩,⟨some 37,none,.load true 2 (.t 3)⟩,⟨some 38,none,.call 19 [(.t 36),(.t 37)]⟩,⟨some 35,none,.mv (.t 38)⟩,⟨some 39,none,.ext (.t 35) 0⟩,⟨some 40,none,.ext (.t 35) 1⟩,⟨some 9,none,.mv (.t 39)⟩,⟨some 10,none,.mv (.t 40)⟩]) (.seq (.reg [⟨some 41,none,.load true 2 (.t 3)⟩,⟨some 42,none,.call 10 [(.t 41)]⟩,⟨some 43,none,.mv (.t 42)⟩,⟨(some 44),(some (43,false)),(.load true 2 (.t 3))⟩,⟨(some 45),(some (43,false)),(.call 11 [(.t 44)])⟩,⟨some 46,none,.pick (.t 43) (.c (.bool true)) (.t 45)⟩,⟨some 47,none,.mv (.t 46)⟩,⟨(some 48),(some (47,true)),(.load true 2 (.t 4))⟩,⟨(some 49),(some (47,true)),(.call 10 [(.t 48)])⟩,⟨(some 50),(some (47,true)),(.mv (.t 49))⟩,⟨(some 51),(some (50,false)),(.load true 2 (.t 4))⟩,⟨(some 52),(some (50,false)),(.call 11 [(.t 51)])⟩,⟨(some 53),(some (47,true)),(.pick (.t 50) (.c (.bool true)) (.t 52))⟩,⟨some 54,none,.pick (.t 47) (.t 53) (.c (.bool false))⟩,⟨some 11,none,.mv (.t 54)⟩]) (.seq (.seq (.reg [⟨some 55,none,.mv (.t 8)⟩,⟨some 56,none,.mv (.t 11)⟩,⟨some 57,none,.bin .neq true (.t 55) (.t 56)⟩,⟨some 58,none,.mv (.t 57)⟩,⟨(some 59),(some (58,false)),(.mv (.t 10))⟩,⟨(some 60),(some (58,false)),(.mv (.t 8))⟩,⟨(some 61),(some (58,false)),(.bin .neq true (.t 59) (.t 60))⟩,⟨some 62,none,.pick (.t 58) (.c (.bool true)) (.t 61)⟩,⟨some 63,none,.mv (.t 62)⟩,⟨(some 64),(some (63,false)),(.mv (.t 9))⟩,⟨(some 65),(some (63,false)),(.mv (.t 7))⟩,⟨(some 66),(some (63,false)),(.un .neg (.t 65))⟩,⟨(some 67),(some (63,false)),(.bin .neq false (.t 64) (.t 66))⟩,⟨some 68,none,.pick (.t 63) (.c (.bool true)) (.t 67)⟩]) (.cond (.t 68) (.seq (.reg [⟨some 2,none,.mv (.c (.bool false))⟩]) .ret) .skip)) (.seq (.seq (.reg [⟨some 69,none,.mv (.t 8)⟩,⟨some 70,none,.un .not (.t 69)⟩]) (.cond (.t 70) (.seq (.reg [⟨some 71,none,.mv (.t 7)⟩,⟨some 72,none,.bin .eql false (.t 71) (.c (.int .i64 0))⟩,⟨some 2,none,.mv (.t 72)⟩]) .ret) .skip)) (.seq (.reg [⟨some 74,none,.load true 2 (.t 4)⟩,⟨some 75,none,.load true 2 (.t 5)⟩,⟨some 76,none,.call 19 [(.t 74),(.t 75)]⟩,⟨some 73,none,.mv (.t 76)⟩,⟨some 77,none,.ext (.t 73) 0⟩,⟨some 78,none,.ext (.t 73) 1⟩,⟨some 12,none,.mv (.t 77)⟩,⟨some 13,none,.mv (.t 78)⟩]) (.seq (.reg [⟨some 80,none,.load true 2 (.t 3)⟩,⟨some 81,none,.load true 2 (.t 5)⟩,⟨some 82,none,.call 19 [(.t 80),(.t 81)]⟩,⟨some 79,none,.mv (.t 82)⟩,⟨some 83,none,.ext (.t 79) 0⟩,⟨some 84,none,.ext (.t 79) 1⟩,⟨some 14,none,.mv (.t 83)⟩,⟨some 15,none,.mv (.t 84)⟩]) (.seq (.seq (.reg [⟨some 85,none,.mv (.t 13)⟩,⟨some 86,none,.mv (.t 85)⟩,⟨(some 87),(some (86,true)),(.mv (.t 15))⟩,⟨(some 88),(some (86,true)),(.un .not (.t 87))⟩,⟨(some 89),(some (86,true)),(.mv (.t 88))⟩,⟨(some 90),(some (89,false)),(.mv (.t 7))⟩,⟨(some 91),(some (89,false)),(.bin .leq false (.t 90) (.c (.int .i64 0)))⟩,⟨(some 92),(some (89,false)),(.mv (.t 91))⟩,⟨(some 93),(some (92,true)),(.mv (.t 12))⟩,⟨(some 94),(some (92,true)),(.bin .leq false (.t 93) (.c (.int .i64 0)))⟩,⟨(some 95),(some (89,false)),(.pick (.t 92) (.t 94) (.c (.bool false)))⟩,⟨(some 96),(some (89,false)),(.mv (.t 95))⟩,⟨(some 97),(some (96,true)),(.mv (.t 14))⟩,⟨(some 98),(some (96,true)),(.bin .gtr false (.t 97) (.c (.int .i64 0)))⟩,⟨(some 99),(some (89,false)),(.pick (.t 96) (.t 98) (.c (.bool false)))⟩,⟨(some 100),(some (86,true)),(.pick (.t 89) (.c (.bool true)) (.t 99))⟩,⟨(some 101),(some (86,true)),(.mv (.t 100))⟩,⟨(some 102),(some (101,false)),(.mv (.t 7))⟩,⟨(some 103),(some (101,false)),(.bin .lss false (.t 102) (.c (.int .i64 0)))⟩,⟨(some 104),(some (101,false)),(.mv (.t 103))⟩,⟨(some 105),(some (104,true)),(.mv (.t 12))⟩,⟨(some 106),(some (104,true)),(.bin .lss false (.t 105) (.c (.int .i64 0)))⟩,⟨(some 107),(some (101,false)),(.pick (.t 104) (.t 106) (.c (.bool false)))⟩,⟨(some 108),(some (101,false)),(.mv (.t 107))⟩,⟨(some 109),(some (108,true)),(.mv (.t 14))⟩,⟨(some 110),(some (108,true)),(.bin .geq false (.t 109) (.c (.int .i64 0)))⟩,⟨(some 111),(some (101,false)),(.pick (.t 108) (.t 110) (.c (.bool false)))⟩,⟨(some 112),(some (86,true)),(.pick (.t 101) (.c (.bool true)) (.t 111))⟩,⟨some 113,none,.pick (.t 86) (.t 112) (.c (.bool false))⟩]) (.cond (.t 113) (.seq (.reg [⟨some 2,none,.mv (.c (.bool false))⟩]) .ret) .skip)) (.seq (.dreg [[],[0],[],[],[2,3],[1,0,4,2,3],[5,1,0,4,2,3],[6,5,1,0,4,2,3],[6,5,1,0,4,2,3],[7,6,5,1,0,4,2,3,8],[6,5,1,0,4,2,3],[6,5,1,0,4,2,3],[10,6,5,1,0,4,2,3,11,9,7,8],[9,7,6,5,1,0,4,2,3,8,12,10,11],[6,5,1,0,4,2,3,13,9,7,8,12,10,11],[14,6,5,1,0,4,2,3,13,9,7,8,12,10,11]] [⟨some 114,none,.mv (.t 7)⟩,⟨some 115,none,.bin .eql false (.t 114) (.c (.int .i64 0))⟩,⟨some 116,none,.load true 2 (.t 3)⟩,⟨some 117,none,.load true 2 (.t 4)⟩,⟨some 118,none,.call 15 [(.t 116),(.t 117)]⟩,⟨some 119,none,.bin .eql true (.t 115) (.t 118)⟩,⟨some 120,none,.mv (.t 119)⟩,⟨(some 121),(some (120,true)),(.load true 2 (.t 3))⟩,⟨(some 122),(some (120,true)),(.load true 2 (.t 4))⟩,⟨(some 123),(some (120,true)),(.call 20 [(.t 121),(.t 122)])⟩,⟨(some 124),(some (120,true)),(.load true 2 (.t 3))⟩,⟨(some 125),(some (120,true)),(.load true 2 (.t 4))⟩,⟨(some 126),(some (120,true)),(.call 15 [(.t 124),(.t 125)])⟩,⟨(some 127),(some (120,true)),(.bin .eql true (.t 123) (.t 126))⟩,⟨some 128,none,.pick (.t 120) (.t 127) (.c (.bool false))⟩,⟨some 2,none,.mv (.t 128)⟩]) .ret)))))))))))))
theorem Ai:A2 Try.prog 4=some ⟨129,Ae,[(.tmp 2)]⟩:=by kernel_rfl
theorem Aj:modes 4=⟨[],.asis,none,false⟩:=by unfold modes; rfl
theorem FA {a b:Int} (ha:-1≤a∧a≤1) (hb:-1≤b∧b≤1):-1≤orZ a b∧orZ a b≤1:=by unfold orZ; split <;> assumption
theorem IT (a b:Int):-1≤FE a b∧FE a b≤1:=by
 unfold FE
 cases dec (a<b) <;> cases dec (b<a) <;> decide
theorem LY (a b:ByteArray):-1≤FD a b∧FD a b≤1:=by
 unfold FD
 cases strLt a b <;> cases dec (a=b) <;> decide
mutual
theorem Tm.Ez:∀ x y:Tm,-1≤x.cmp y∧x.cmp y≤1
 | .mk n xs,.mk m ys=>by
  rw [Tm.Gn]
  exact FA (IT _ _) (FA (LY _ _) (FA (IT _ _) (Tm.IU xs ys)))
theorem Tm.IU:∀ xs ys:List Tm,-1≤Tm.B6 xs ys∧Tm.B6 xs ys≤1
 | [],[]=>by rw [Tm.B6]; decide
 | [],y :: ys=>by rw [Tm.B6]; decide
 | x :: xs,[]=>by rw [Tm.B6]; decide
 | x :: xs,y :: ys=>by
  rw [Tm.B6]
  exact FA (Tm.Ez x y) (Tm.IU xs ys)
end
theorem Tm.Kq {x y z:Tm} (h1:x.cmp y≤0) (h2:y.cmp z≤0):x.cmp z≤0:=by
 by_cases e1:x.cmp y=0
 ·obtain rfl:=(Tm.CF x y).1 e1
  exact h2
 ·by_cases e2:y.cmp z=0
  ·obtain rfl:=(Tm.CF y z).1 e2
   exact h1
  ·have:=Tm.Dr x y z (by omega) (by omega)
   omega
noncomputable def Kr (x y:Tm):Int:=bif x.expr&&y.expr then x.cmp y else 0
theorem Ao (x y:Tm) (hx:x.nodes≤1099511627776) (hy:y.nodes≤1099511627776):E 19 [x.sv,y.sv] []=some (.tup [.int .i64 (Kr x y),.bool (x.expr&&y.expr)],[]):=by
 have h1:=Fq x hx
 have h2:=Fq y hy
 unfold Kr
 cases ex:x.expr with
 | false =>
  rw [ex] at h1
  refine Al Ct Ad (of_decide_eq_true rfl) ?_
  simp (disch:=omega) only [BM,go_sem,Aa,h1,h2,Bk]
 | true =>
  rw [ex] at h1
  cases ey:y.expr with
  | false =>
   rw [ey] at h2
   refine Al Ct Ad (of_decide_eq_true rfl) ?_
   simp (disch:=omega) only [BM,go_sem,Aa,h1,h2,Bk]
  | true =>
   rw [ey] at h2
   have h3:=Fp x y (Tm.Lp ex) (Tm.Lp ey) hx hy
   refine Al Ct Ad (of_decide_eq_true rfl) ?_
   simp (disch:=omega) only [BM,go_sem,Aa,h1,h2,h3,Bk,BL]
theorem A4 (x:Tm) (hx:x.nodes≤1099511627776):E 10 [x.sv] []=some (.bool x.valid,[]):=by
 have h:=Ll x hx
 refine Al Gr Af (of_decide_eq_true rfl) ?_
 simp (disch:=omega) only [DD,go_sem,Aa,h,Bt]
theorem A5 (x:Tm) (hx:x.nodes≤1099511627776):E 11 [x.sv] []=some (.bool x.atom,[]):=by
 have h:=O9 x hx
 refine Al Gs Ah (of_decide_eq_true rfl) ?_
 simp (disch:=omega) only [DE,go_sem,Aa,h,BI]
theorem PP (l:List Int) (a b c d:Tm) (hbig:E 6 [.arr (l.map by_)] []=some (.bool false,[])) (hd1:E 16 [.arr (l.map by_)] []=some (.tup [a.sv,b.sv],[])) (hcut:E 18 [.arr (l.map by_),.int .i64 7] []=some (.arr ((D7 l 7).map by_),[])) (hd2:E 17 [.arr ((D7 l 7).map by_)] []=some (.tup [c.sv,d.sv],[])) (ha:a.nodes≤300) (hb:b.nodes≤300) (hc:c.nodes≤300) (ka1:a.valid=true) (kb1:b.valid=true):E 4 [.arr (l.map by_)] []=some (.bool true,[]):=by
 have c1:=Ao a b (by omega) (by omega)
 have c2:=Ao b a (by omega) (by omega)
 have c3:=Ao b c (by omega) (by omega)
 have c4:=Ao a c (by omega) (by omega)
 have v1:=A4 a (by omega)
 have v2:=A5 a (by omega)
 have v3:=A4 b (by omega)
 have v4:=A5 b (by omega)
 have e1:=CZ a b (by omega) (by omega)
 have e2:=BC a b (by omega) (by omega)
 unfold Kr at c1 c2 c3 c4
 have xa:a.expr=true:=by unfold Tm.expr; simp [ka1]
 have xb:b.expr=true:=by unfold Tm.expr; simp [kb1]
 rw [xa,xb,zF,cond_true] at c1 c2
 rw [xb,zL] at c3
 rw [xa,zL] at c4
 rw [ka1] at v1
 rw [kb1] at v3
 have r1:=Tm.Ez a b
 have r2:=Tm.Fn a b
 have hi:dec (inK .i64 (0-a.cmp b))=true:=Co (by omega) (by omega)
 have hz:(b.cmp a=0-a.cmp b)=True:=eq_true (by omega)
 have q3:=Tm.CF a b
 rw [←Dd q3] at e1 e2
 have t1:a.cmp b≤0→b.cmp c≤0→a.cmp c≤0:=Tm.Kq
 have t2:=Tm.Dr a b c
 generalize b.cmp a=y at *
 generalize a.cmp b=x at *
 generalize b.cmp c=z at *
 generalize a.cmp c=w at *
 have q0:(x=0)=True∨(x=0)=False:=by by_cases h:x=0 <;> simp [h]
 cases hce:c.expr with
 | false =>
  rw [hce,cond_false] at c3 c4
  rcases q0 with q0 | q0
  ·refine Al Ai Aj (of_decide_eq_true rfl) ?_
   simp (disch:=omega) only [Ae,go_sem,Aa,hbig,hd1,hcut,hd2,c1,c2,c3,c4,v1,v2,v3,v4,e1,e2,Ar,As,Am,Ac,Ab,Ad,Af,Ah,Ak,hi,hz,q0]
  ·refine Al Ai Aj (of_decide_eq_true rfl) ?_
   simp (disch:=omega) only [Ae,go_sem,Aa,hbig,hd1,hcut,hd2,c1,c2,c3,c4,v1,v2,v3,v4,e1,e2,Ar,As,Am,Ac,Ab,Ad,Af,Ah,Ak,hi,hz,q0]
 | true =>
  rw [hce,cond_true] at c3 c4
  rcases (show 0<x∨(x=0∧0<z)∨(x=0∧z≤0)∨(x<0∧0<z)∨(x<0∧z=0)∨(x<0∧z<0) by omega) with g | ⟨g,k⟩ | ⟨g,k⟩ | ⟨g,k⟩ | ⟨g,k⟩ | ⟨g,k⟩
  ·have p0:(x=0)=False:=eq_false (by omega)
   have p1:(x≤0)=False:=eq_false (by omega)
   have p2:(x<0)=False:=eq_false (by omega)
   refine Al Ai Aj (of_decide_eq_true rfl) ?_
   simp (disch:=omega) only [Ae,go_sem,Aa,hbig,hd1,hcut,hd2,c1,c2,c3,c4,v1,v2,v3,v4,e1,e2,Ar,As,Am,Ac,Ab,Ad,Af,Ah,Ak,hi,hz,p0,p1,p2]
  ·have p0:(x=0)=True:=eq_true (by omega)
   have p1:(x≤0)=True:=eq_true (by omega)
   have p2:(x<0)=False:=eq_false (by omega)
   have p3:(z≤0)=False:=eq_false (by omega)
   refine Al Ai Aj (of_decide_eq_true rfl) ?_
   simp (disch:=omega) only [Ae,go_sem,Aa,hbig,hd1,hcut,hd2,c1,c2,c3,c4,v1,v2,v3,v4,e1,e2,Ar,As,Am,Ac,Ab,Ad,Af,Ah,Ak,hi,hz,p0,p1,p2,p3]
  ·have p0:(x=0)=True:=eq_true (by omega)
   have p1:(x≤0)=True:=eq_true (by omega)
   have p2:(x<0)=False:=eq_false (by omega)
   have p3:(z≤0)=True:=eq_true (by omega)
   have p4:(0<w)=False:=eq_false (by omega)
   refine Al Ai Aj (of_decide_eq_true rfl) ?_
   simp (disch:=omega) only [Ae,go_sem,Aa,hbig,hd1,hcut,hd2,c1,c2,c3,c4,v1,v2,v3,v4,e1,e2,Ar,As,Am,Ac,Ab,Ad,Af,Ah,Ak,hi,hz,p0,p1,p2,p3,p4]
  ·have p0:(x=0)=False:=eq_false (by omega)
   have p1:(x≤0)=True:=eq_true (by omega)
   have p2:(x<0)=True:=eq_true (by omega)
   have p3:(z≤0)=False:=eq_false (by omega)
   have p4:(z<0)=False:=eq_false (by omega)
   refine Al Ai Aj (of_decide_eq_true rfl) ?_
   simp (disch:=omega) only [Ae,go_sem,Aa,hbig,hd1,hcut,hd2,c1,c2,c3,c4,v1,v2,v3,v4,e1,e2,Ar,As,Am,Ac,Ab,Ad,Af,Ah,Ak,hi,hz,p0,p1,p2,p3,p4]
  ·have p0:(x=0)=False:=eq_false (by omega)
   have p1:(x≤0)=True:=eq_true (by omega)
   have p2:(x<0)=True:=eq_true (by omega)
   have p3:(z≤0)=True:=eq_true (by omega)
   have p4:(z<0)=False:=eq_false (by omega)
   have p5:(0<w)=False:=eq_false (by omega)
   refine Al Ai Aj (of_decide_eq_true rfl) ?_
   simp (disch:=omega) only [Ae,go_sem,Aa,hbig,hd1,hcut,hd2,c1,c2,c3,c4,v1,v2,v3,v4,e1,e2,Ar,As,Am,Ac,Ab,Ad,Af,Ah,Ak,hi,hz,p0,p1,p2,p3,p4,p5]
  ·have p0:(x=0)=False:=eq_false (by omega)
   have p1:(x≤0)=True:=eq_true (by omega)
   have p2:(x<0)=True:=eq_true (by omega)
   have p3:(z≤0)=True:=eq_true (by omega)
   have p4:(z<0)=True:=eq_true (by omega)
   have p5:(0<w)=False:=eq_false (by omega)
   have p6:(0≤w)=False:=eq_false (by omega)
   refine Al Ai Aj (of_decide_eq_true rfl) ?_
   simp (disch:=omega) only [Ae,go_sem,Aa,hbig,hd1,hcut,hd2,c1,c2,c3,c4,v1,v2,v3,v4,e1,e2,Ar,As,Am,Ac,Ab,Ad,Af,Ah,Ak,hi,hz,p0,p1,p2,p3,p4,p5,p6]
theorem PQ (l:List Int) (a b c d:Tm) (hbig:E 6 [.arr (l.map by_)] []=some (.bool false,[])) (hd1:E 16 [.arr (l.map by_)] []=some (.tup [a.sv,b.sv],[])) (hcut:E 18 [.arr (l.map by_),.int .i64 7] []=some (.arr ((D7 l 7).map by_),[])) (hd2:E 17 [.arr ((D7 l 7).map by_)] []=some (.tup [c.sv,d.sv],[])) (ha:a.nodes≤300) (hb:b.nodes≤300) (hc:c.nodes≤300) (ka1:a.valid=true) (kb1:b.valid=false) (kb2:b.atom=true):E 4 [.arr (l.map by_)] []=some (.bool true,[]):=by
 have c1:=Ao a b (by omega) (by omega)
 have c2:=Ao b a (by omega) (by omega)
 have c3:=Ao b c (by omega) (by omega)
 have c4:=Ao a c (by omega) (by omega)
 have v1:=A4 a (by omega)
 have v2:=A5 a (by omega)
 have v3:=A4 b (by omega)
 have v4:=A5 b (by omega)
 have e1:=CZ a b (by omega) (by omega)
 have e2:=BC a b (by omega) (by omega)
 unfold Kr at c1 c2 c3 c4
 have xa:a.expr=true:=by unfold Tm.expr; simp [ka1]
 have xb:b.expr=true:=by unfold Tm.expr; simp [kb1,kb2]
 rw [xa,xb,zF,cond_true] at c1 c2
 rw [xb,zL] at c3
 rw [xa,zL] at c4
 rw [ka1] at v1
 rw [kb1] at v3
 rw [kb2] at v4
 have r1:=Tm.Ez a b
 have r2:=Tm.Fn a b
 have hi:dec (inK .i64 (0-a.cmp b))=true:=Co (by omega) (by omega)
 have hz:(b.cmp a=0-a.cmp b)=True:=eq_true (by omega)
 have q3:=Tm.CF a b
 rw [←Dd q3] at e1 e2
 have t1:a.cmp b≤0→b.cmp c≤0→a.cmp c≤0:=Tm.Kq
 have t2:=Tm.Dr a b c
 generalize b.cmp a=y at *
 generalize a.cmp b=x at *
 generalize b.cmp c=z at *
 generalize a.cmp c=w at *
 have q0:(x=0)=True∨(x=0)=False:=by by_cases h:x=0 <;> simp [h]
 cases hce:c.expr with
 | false =>
  rw [hce,cond_false] at c3 c4
  rcases q0 with q0 | q0
  ·refine Al Ai Aj (of_decide_eq_true rfl) ?_
   simp (disch:=omega) only [Ae,go_sem,Aa,hbig,hd1,hcut,hd2,c1,c2,c3,c4,v1,v2,v3,v4,e1,e2,Ar,As,Am,Ac,Ab,Ad,Af,Ah,Ak,hi,hz,q0]
  ·refine Al Ai Aj (of_decide_eq_true rfl) ?_
   simp (disch:=omega) only [Ae,go_sem,Aa,hbig,hd1,hcut,hd2,c1,c2,c3,c4,v1,v2,v3,v4,e1,e2,Ar,As,Am,Ac,Ab,Ad,Af,Ah,Ak,hi,hz,q0]
 | true =>
  rw [hce,cond_true] at c3 c4
  rcases (show 0<x∨(x=0∧0<z)∨(x=0∧z≤0)∨(x<0∧0<z)∨(x<0∧z=0)∨(x<0∧z<0) by omega) with g | ⟨g,k⟩ | ⟨g,k⟩ | ⟨g,k⟩ | ⟨g,k⟩ | ⟨g,k⟩
  ·have p0:(x=0)=False:=eq_false (by omega)
   have p1:(x≤0)=False:=eq_false (by omega)
   have p2:(x<0)=False:=eq_false (by omega)
   refine Al Ai Aj (of_decide_eq_true rfl) ?_
   simp (disch:=omega) only [Ae,go_sem,Aa,hbig,hd1,hcut,hd2,c1,c2,c3,c4,v1,v2,v3,v4,e1,e2,Ar,As,Am,Ac,Ab,Ad,Af,Ah,Ak,hi,hz,p0,p1,p2]
  ·have p0:(x=0)=True:=eq_true (by omega)
   have p1:(x≤0)=True:=eq_true (by omega)
   have p2:(x<0)=False:=eq_false (by omega)
   have p3:(z≤0)=False:=eq_false (by omega)
   refine Al Ai Aj (of_decide_eq_true rfl) ?_
   simp (disch:=omega) only [Ae,go_sem,Aa,hbig,hd1,hcut,hd2,c1,c2,c3,c4,v1,v2,v3,v4,e1,e2,Ar,As,Am,Ac,Ab,Ad,Af,Ah,Ak,hi,hz,p0,p1,p2,p3]
  ·have p0:(x=0)=True:=eq_true (by omega)
   have p1:(x≤0)=True:=eq_true (by omega)
   have p2:(x<0)=False:=eq_false (by omega)
   have p3:(z≤0)=True:=eq_true (by omega)
   have p4:(0<w)=False:=eq_false (by omega)
   refine Al Ai Aj (of_decide_eq_true rfl) ?_
   simp (disch:=omega) only [Ae,go_sem,Aa,hbig,hd1,hcut,hd2,c1,c2,c3,c4,v1,v2,v3,v4,e1,e2,Ar,As,Am,Ac,Ab,Ad,Af,Ah,Ak,hi,hz,p0,p1,p2,p3,p4]
  ·have p0:(x=0)=False:=eq_false (by omega)
   have p1:(x≤0)=True:=eq_true (by omega)
   have p2:(x<0)=True:=eq_true (by omega)
   have p3:(z≤0)=False:=eq_false (by omega)
   have p4:(z<0)=False:=eq_false (by omega)
   refine Al Ai Aj (of_decide_eq_true rfl) ?_
   simp (disch:=omega) only [Ae,go_sem,Aa,hbig,hd1,hcut,hd2,c1,c2,c3,c4,v1,v2,v3,v4,e1,e2,Ar,As,Am,Ac,Ab,Ad,Af,Ah,Ak,hi,hz,p0,p1,p2,p3,p4]
  ·have p0:(x=0)=False:=eq_false (by omega)
   have p1:(x≤0)=True:=eq_true (by omega)
   have p2:(x<0)=True:=eq_true (by omega)
   have p3:(z≤0)=True:=eq_true (by omega)
   have p4:(z<0)=False:=eq_false (by omega)
   have p5:(0<w)=False:=eq_false (by omega)
   refine Al Ai Aj (of_decide_eq_true rfl) ?_
   simp (disch:=omega) only [Ae,go_sem,Aa,hbig,hd1,hcut,hd2,c1,c2,c3,c4,v1,v2,v3,v4,e1,e2,Ar,As,Am,Ac,Ab,Ad,Af,Ah,Ak,hi,hz,p0,p1,p2,p3,p4,p5]
  ·have p0:(x=0)=False:=eq_false (by omega)
   have p1:(x≤0)=True:=eq_true (by omega)
   have p2:(x<0)=True:=eq_true (by omega)
   have p3:(z≤0)=True:=eq_true (by omega)
   have p4:(z<0)=True:=eq_true (by omega)
   have p5:(0<w)=False:=eq_false (by omega)
   have p6:(0≤w)=False:=eq_false (by omega)
   refine Al Ai Aj (of_decide_eq_true rfl) ?_
   simp (disch:=omega) only [Ae,go_sem,Aa,hbig,hd1,hcut,hd2,c1,c2,c3,c4,v1,v2,v3,v4,e1,e2,Ar,As,Am,Ac,Ab,Ad,Af,Ah,Ak,hi,hz,p0,p1,p2,p3,p4,p5,p6]
theorem PR (l:List Int) (a b c d:Tm) (hbig:E 6 [.arr (l.map by_)] []=some (.bool false,[])) (hd1:E 16 [.arr (l.map by_)] []=some (.tup [a.sv,b.sv],[])) (hcut:E 18 [.arr (l.map by_),.int .i64 7] []=some (.arr ((D7 l 7).map by_),[])) (hd2:E 17 [.arr ((D7 l 7).map by_)] []=some (.tup [c.sv,d.sv],[])) (ha:a.nodes≤300) (hb:b.nodes≤300) (hc:c.nodes≤300) (ka1:a.valid=true) (kb1:b.valid=false) (kb2:b.atom=false):E 4 [.arr (l.map by_)] []=some (.bool true,[]):=by
 have c1:=Ao a b (by omega) (by omega)
 have c2:=Ao b a (by omega) (by omega)
 have c3:=Ao b c (by omega) (by omega)
 have c4:=Ao a c (by omega) (by omega)
 have v1:=A4 a (by omega)
 have v2:=A5 a (by omega)
 have v3:=A4 b (by omega)
 have v4:=A5 b (by omega)
 have e1:=CZ a b (by omega) (by omega)
 have e2:=BC a b (by omega) (by omega)
 unfold Kr at c1 c2 c3 c4
 have hn:(a.expr&&b.expr)=false:=by
  unfold Tm.expr
  simp [kb1,kb2]
 have hn2:(b.expr&&a.expr)=false:=by rw [yA]; exact hn
 rw [hn,cond_false] at c1
 rw [hn2,cond_false] at c2
 rw [ka1] at v1
 rw [kb1] at v3
 rw [kb2] at v4
 have hi0:dec (inK .i64 (0-0))=true:=Co (by omega) (by omega)
 have hz0:((0:Int)=0-0)=True:=eq_true (by omega)
 refine Al Ai Aj (of_decide_eq_true rfl) ?_
 simp (disch:=omega) only [Ae,go_sem,Aa,hbig,hd1,hcut,hd2,c1,c2,c3,c4,v1,v2,v3,v4,e1,e2,Ar,As,Am,Ac,Ab,Ad,Af,Ah,Ak,hi0,hz0]
theorem PS (l:List Int) (a b c d:Tm) (hbig:E 6 [.arr (l.map by_)] []=some (.bool false,[])) (hd1:E 16 [.arr (l.map by_)] []=some (.tup [a.sv,b.sv],[])) (hcut:E 18 [.arr (l.map by_),.int .i64 7] []=some (.arr ((D7 l 7).map by_),[])) (hd2:E 17 [.arr ((D7 l 7).map by_)] []=some (.tup [c.sv,d.sv],[])) (ha:a.nodes≤300) (hb:b.nodes≤300) (hc:c.nodes≤300) (ka1:a.valid=false) (ka2:a.atom=true) (kb1:b.valid=true):E 4 [.arr (l.map by_)] []=some (.bool true,[]):=by
 have c1:=Ao a b (by omega) (by omega)
 have c2:=Ao b a (by omega) (by omega)
 have c3:=Ao b c (by omega) (by omega)
 have c4:=Ao a c (by omega) (by omega)
 have v1:=A4 a (by omega)
 have v2:=A5 a (by omega)
 have v3:=A4 b (by omega)
 have v4:=A5 b (by omega)
 have e1:=CZ a b (by omega) (by omega)
 have e2:=BC a b (by omega) (by omega)
 unfold Kr at c1 c2 c3 c4
 have xa:a.expr=true:=by unfold Tm.expr; simp [ka1,ka2]
 have xb:b.expr=true:=by unfold Tm.expr; simp [kb1]
 rw [xa,xb,zF,cond_true] at c1 c2
 rw [xb,zL] at c3
 rw [xa,zL] at c4
 rw [ka1] at v1
 rw [ka2] at v2
 rw [kb1] at v3
 have r1:=Tm.Ez a b
 have r2:=Tm.Fn a b
 have hi:dec (inK .i64 (0-a.cmp b))=true:=Co (by omega) (by omega)
 have hz:(b.cmp a=0-a.cmp b)=True:=eq_true (by omega)
 have q3:=Tm.CF a b
 rw [←Dd q3] at e1 e2
 have t1:a.cmp b≤0→b.cmp c≤0→a.cmp c≤0:=Tm.Kq
 have t2:=Tm.Dr a b c
 generalize b.cmp a=y at *
 generalize a.cmp b=x at *
 generalize b.cmp c=z at *
 generalize a.cmp c=w at *
 have q0:(x=0)=True∨(x=0)=False:=by by_cases h:x=0 <;> simp [h]
 cases hce:c.expr with
 | false =>
  rw [hce,cond_false] at c3 c4
  rcases q0 with q0 | q0
  ·refine Al Ai Aj (of_decide_eq_true rfl) ?_
   simp (disch:=omega) only [Ae,go_sem,Aa,hbig,hd1,hcut,hd2,c1,c2,c3,c4,v1,v2,v3,v4,e1,e2,Ar,As,Am,Ac,Ab,Ad,Af,Ah,Ak,hi,hz,q0]
  ·refine Al Ai Aj (of_decide_eq_true rfl) ?_
   simp (disch:=omega) only [Ae,go_sem,Aa,hbig,hd1,hcut,hd2,c1,c2,c3,c4,v1,v2,v3,v4,e1,e2,Ar,As,Am,Ac,Ab,Ad,Af,Ah,Ak,hi,hz,q0]
 | true =>
  rw [hce,cond_true] at c3 c4
  rcases (show 0<x∨(x=0∧0<z)∨(x=0∧z≤0)∨(x<0∧0<z)∨(x<0∧z=0)∨(x<0∧z<0) by omega) with g | ⟨g,k⟩ | ⟨g,k⟩ | ⟨g,k⟩ | ⟨g,k⟩ | ⟨g,k⟩
  ·have p0:(x=0)=False:=eq_false (by omega)
   have p1:(x≤0)=False:=eq_false (by omega)
   have p2:(x<0)=False:=eq_false (by omega)
   refine Al Ai Aj (of_decide_eq_true rfl) ?_
   simp (disch:=omega) only [Ae,go_sem,Aa,hbig,hd1,hcut,hd2,c1,c2,c3,c4,v1,v2,v3,v4,e1,e2,Ar,As,Am,Ac,Ab,Ad,Af,Ah,Ak,hi,hz,p0,p1,p2]
  ·have p0:(x=0)=True:=eq_true (by omega)
   have p1:(x≤0)=True:=eq_true (by omega)
   have p2:(x<0)=False:=eq_false (by omega)
   have p3:(z≤0)=False:=eq_false (by omega)
   refine Al Ai Aj (of_decide_eq_true rfl) ?_
   simp (disch:=omega) only [Ae,go_sem,Aa,hbig,hd1,hcut,hd2,c1,c2,c3,c4,v1,v2,v3,v4,e1,e2,Ar,As,Am,Ac,Ab,Ad,Af,Ah,Ak,hi,hz,p0,p1,p2,p3]
  ·have p0:(x=0)=True:=eq_true (by omega)
   have p1:(x≤0)=True:=eq_true (by omega)
   have p2:(x<0)=False:=eq_false (by omega)
   have p3:(z≤0)=True:=eq_true (by omega)
   have p4:(0<w)=False:=eq_false (by omega)
   refine Al Ai Aj (of_decide_eq_true rfl) ?_
   simp (disch:=omega) only [Ae,go_sem,Aa,hbig,hd1,hcut,hd2,c1,c2,c3,c4,v1,v2,v3,v4,e1,e2,Ar,As,Am,Ac,Ab,Ad,Af,Ah,Ak,hi,hz,p0,p1,p2,p3,p4]
  ·have p0:(x=0)=False:=eq_false (by omega)
   have p1:(x≤0)=True:=eq_true (by omega)
   have p2:(x<0)=True:=eq_true (by omega)
   have p3:(z≤0)=False:=eq_false (by omega)
   have p4:(z<0)=False:=eq_false (by omega)
   refine Al Ai Aj (of_decide_eq_true rfl) ?_
   simp (disch:=omega) only [Ae,go_sem,Aa,hbig,hd1,hcut,hd2,c1,c2,c3,c4,v1,v2,v3,v4,e1,e2,Ar,As,Am,Ac,Ab,Ad,Af,Ah,Ak,hi,hz,p0,p1,p2,p3,p4]
  ·have p0:(x=0)=False:=eq_false (by omega)
   have p1:(x≤0)=True:=eq_true (by omega)
   have p2:(x<0)=True:=eq_true (by omega)
   have p3:(z≤0)=True:=eq_true (by omega)
   have p4:(z<0)=False:=eq_false (by omega)
   have p5:(0<w)=False:=eq_false (by omega)
   refine Al Ai Aj (of_decide_eq_true rfl) ?_
   simp (disch:=omega) only [Ae,go_sem,Aa,hbig,hd1,hcut,hd2,c1,c2,c3,c4,v1,v2,v3,v4,e1,e2,Ar,As,Am,Ac,Ab,Ad,Af,Ah,Ak,hi,hz,p0,p1,p2,p3,p4,p5]
  ·have p0:(x=0)=False:=eq_false (by omega)
   have p1:(x≤0)=True:=eq_true (by omega)
   have p2:(x<0)=True:=eq_true (by omega)
   have p3:(z≤0)=True:=eq_true (by omega)
   have p4:(z<0)=True:=eq_true (by omega)
   have p5:(0<w)=False:=eq_false (by omega)
   have p6:(0≤w)=False:=eq_false (by omega)
   refine Al Ai Aj (of_decide_eq_true rfl) ?_
   simp (disch:=omega) only [Ae,go_sem,Aa,hbig,hd1,hcut,hd2,c1,c2,c3,c4,v1,v2,v3,v4,e1,e2,Ar,As,Am,Ac,Ab,Ad,Af,Ah,Ak,hi,hz,p0,p1,p2,p3,p4,p5,p6]
theorem PT (l:List Int) (a b c d:Tm) (hbig:E 6 [.arr (l.map by_)] []=some (.bool false,[])) (hd1:E 16 [.arr (l.map by_)] []=some (.tup [a.sv,b.sv],[])) (hcut:E 18 [.arr (l.map by_),.int .i64 7] []=some (.arr ((D7 l 7).map by_),[])) (hd2:E 17 [.arr ((D7 l 7).map by_)] []=some (.tup [c.sv,d.sv],[])) (ha:a.nodes≤300) (hb:b.nodes≤300) (hc:c.nodes≤300) (ka1:a.valid=false) (ka2:a.atom=true) (kb1:b.valid=false) (kb2:b.atom=true):E 4 [.arr (l.map by_)] []=some (.bool true,[]):=by
 have c1:=Ao a b (by omega) (by omega)
 have c2:=Ao b a (by omega) (by omega)
 have c3:=Ao b c (by omega) (by omega)
 have c4:=Ao a c (by omega) (by omega)
 have v1:=A4 a (by omega)
 have v2:=A5 a (by omega)
 have v3:=A4 b (by omega)
 have v4:=A5 b (by omega)
 have e1:=CZ a b (by omega) (by omega)
 have e2:=BC a b (by omega) (by omega)
 unfold Kr at c1 c2 c3 c4
 have xa:a.expr=true:=by unfold Tm.expr; simp [ka1,ka2]
 have xb:b.expr=true:=by unfold Tm.expr; simp [kb1,kb2]
 rw [xa,xb,zF,cond_true] at c1 c2
 rw [xb,zL] at c3
 rw [xa,zL] at c4
 rw [ka1] at v1
 rw [ka2] at v2
 rw [kb1] at v3
 rw [kb2] at v4
 have r1:=Tm.Ez a b
 have r2:=Tm.Fn a b
 have hi:dec (inK .i64 (0-a.cmp b))=true:=Co (by omega) (by omega)
 have hz:(b.cmp a=0-a.cmp b)=True:=eq_true (by omega)
 have q3:=Tm.CF a b
 rw [←Dd q3] at e1 e2
 have t1:a.cmp b≤0→b.cmp c≤0→a.cmp c≤0:=Tm.Kq
 have t2:=Tm.Dr a b c
 generalize b.cmp a=y at *
 generalize a.cmp b=x at *
 generalize b.cmp c=z at *
 generalize a.cmp c=w at *
 have q0:(x=0)=True∨(x=0)=False:=by by_cases h:x=0 <;> simp [h]
 cases hce:c.expr with
 | false =>
  rw [hce,cond_false] at c3 c4
  rcases q0 with q0 | q0
  ·refine Al Ai Aj (of_decide_eq_true rfl) ?_
   simp (disch:=omega) only [Ae,go_sem,Aa,hbig,hd1,hcut,hd2,c1,c2,c3,c4,v1,v2,v3,v4,e1,e2,Ar,As,Am,Ac,Ab,Ad,Af,Ah,Ak,hi,hz,q0]
  ·refine Al Ai Aj (of_decide_eq_true rfl) ?_
   simp (disch:=omega) only [Ae,go_sem,Aa,hbig,hd1,hcut,hd2,c1,c2,c3,c4,v1,v2,v3,v4,e1,e2,Ar,As,Am,Ac,Ab,Ad,Af,Ah,Ak,hi,hz,q0]
 | true =>
  rw [hce,cond_true] at c3 c4
  rcases (show 0<x∨(x=0∧0<z)∨(x=0∧z≤0)∨(x<0∧0<z)∨(x<0∧z=0)∨(x<0∧z<0) by omega) with g | ⟨g,k⟩ | ⟨g,k⟩ | ⟨g,k⟩ | ⟨g,k⟩ | ⟨g,k⟩
  ·have p0:(x=0)=False:=eq_false (by omega)
   have p1:(x≤0)=False:=eq_false (by omega)
   have p2:(x<0)=False:=eq_false (by omega)
   refine Al Ai Aj (of_decide_eq_true rfl) ?_
   simp (disch:=omega) only [Ae,go_sem,Aa,hbig,hd1,hcut,hd2,c1,c2,c3,c4,v1,v2,v3,v4,e1,e2,Ar,As,Am,Ac,Ab,Ad,Af,Ah,Ak,hi,hz,p0,p1,p2]
  ·have p0:(x=0)=True:=eq_true (by omega)
   have p1:(x≤0)=True:=eq_true (by omega)
   have p2:(x<0)=False:=eq_false (by omega)
   have p3:(z≤0)=False:=eq_false (by omega)
   refine Al Ai Aj (of_decide_eq_true rfl) ?_
   simp (disch:=omega) only [Ae,go_sem,Aa,hbig,hd1,hcut,hd2,c1,c2,c3,c4,v1,v2,v3,v4,e1,e2,Ar,As,Am,Ac,Ab,Ad,Af,Ah,Ak,hi,hz,p0,p1,p2,p3]
  ·have p0:(x=0)=True:=eq_true (by omega)
   have p1:(x≤0)=True:=eq_true (by omega)
   have p2:(x<0)=False:=eq_false (by omega)
   have p3:(z≤0)=True:=eq_true (by omega)
   have p4:(0<w)=False:=eq_false (by omega)
   refine Al Ai Aj (of_decide_eq_true rfl) ?_
   simp (disch:=omega) only [Ae,go_sem,Aa,hbig,hd1,hcut,hd2,c1,c2,c3,c4,v1,v2,v3,v4,e1,e2,Ar,As,Am,Ac,Ab,Ad,Af,Ah,Ak,hi,hz,p0,p1,p2,p3,p4]
  ·have p0:(x=0)=False:=eq_false (by omega)
   have p1:(x≤0)=True:=eq_true (by omega)
   have p2:(x<0)=True:=eq_true (by omega)
   have p3:(z≤0)=False:=eq_false (by omega)
   have p4:(z<0)=False:=eq_false (by omega)
   refine Al Ai Aj (of_decide_eq_true rfl) ?_
   simp (disch:=omega) only [Ae,go_sem,Aa,hbig,hd1,hcut,hd2,c1,c2,c3,c4,v1,v2,v3,v4,e1,e2,Ar,As,Am,Ac,Ab,Ad,Af,Ah,Ak,hi,hz,p0,p1,p2,p3,p4]
  ·have p0:(x=0)=False:=eq_false (by omega)
   have p1:(x≤0)=True:=eq_true (by omega)
   have p2:(x<0)=True:=eq_true (by omega)
   have p3:(z≤0)=True:=eq_true (by omega)
   have p4:(z<0)=False:=eq_false (by omega)
   have p5:(0<w)=False:=eq_false (by omega)
   refine Al Ai Aj (of_decide_eq_true rfl) ?_
   simp (disch:=omega) only [Ae,go_sem,Aa,hbig,hd1,hcut,hd2,c1,c2,c3,c4,v1,v2,v3,v4,e1,e2,Ar,As,Am,Ac,Ab,Ad,Af,Ah,Ak,hi,hz,p0,p1,p2,p3,p4,p5]
  ·have p0:(x=0)=False:=eq_false (by omega)
   have p1:(x≤0)=True:=eq_true (by omega)
   have p2:(x<0)=True:=eq_true (by omega)
   have p3:(z≤0)=True:=eq_true (by omega)
   have p4:(z<0)=True:=eq_true (by omega)
   have p5:(0<w)=False:=eq_false (by omega)
   have p6:(0≤w)=False:=eq_false (by omega)
   refine Al Ai Aj (of_decide_eq_true rfl) ?_
   simp (disch:=omega) only [Ae,go_sem,Aa,hbig,hd1,hcut,hd2,c1,c2,c3,c4,v1,v2,v3,v4,e1,e2,Ar,As,Am,Ac,Ab,Ad,Af,Ah,Ak,hi,hz,p0,p1,p2,p3,p4,p5,p6]
theorem PU (l:List Int) (a b c d:Tm) (hbig:E 6 [.arr (l.map by_)] []=some (.bool false,[])) (hd1:E 16 [.arr (l.map by_)] []=some (.tup [a.sv,b.sv],[])) (hcut:E 18 [.arr (l.map by_),.int .i64 7] []=some (.arr ((D7 l 7).map by_),[])) (hd2:E 17 [.arr ((D7 l 7).map by_)] []=some (.tup [c.sv,d.sv],[])) (ha:a.nodes≤300) (hb:b.nodes≤300) (hc:c.nodes≤300) (ka1:a.valid=false) (ka2:a.atom=true) (kb1:b.valid=false) (kb2:b.atom=false):E 4 [.arr (l.map by_)] []=some (.bool true,[]):=by
 have c1:=Ao a b (by omega) (by omega)
 have c2:=Ao b a (by omega) (by omega)
 have c3:=Ao b c (by omega) (by omega)
 have c4:=Ao a c (by omega) (by omega)
 have v1:=A4 a (by omega)
 have v2:=A5 a (by omega)
 have v3:=A4 b (by omega)
 have v4:=A5 b (by omega)
 have e1:=CZ a b (by omega) (by omega)
 have e2:=BC a b (by omega) (by omega)
 unfold Kr at c1 c2 c3 c4
 have hn:(a.expr&&b.expr)=false:=by
  unfold Tm.expr
  simp [kb1,kb2]
 have hn2:(b.expr&&a.expr)=false:=by rw [yA]; exact hn
 rw [hn,cond_false] at c1
 rw [hn2,cond_false] at c2
 rw [ka1] at v1
 rw [ka2] at v2
 rw [kb1] at v3
 rw [kb2] at v4
 have hi0:dec (inK .i64 (0-0))=true:=Co (by omega) (by omega)
 have hz0:((0:Int)=0-0)=True:=eq_true (by omega)
 refine Al Ai Aj (of_decide_eq_true rfl) ?_
 simp (disch:=omega) only [Ae,go_sem,Aa,hbig,hd1,hcut,hd2,c1,c2,c3,c4,v1,v2,v3,v4,e1,e2,Ar,As,Am,Ac,Ab,Ad,Af,Ah,Ak,hi0,hz0]
theorem Rb (l:List Int) (a b c d:Tm) (hbig:E 6 [.arr (l.map by_)] []=some (.bool false,[])) (hd1:E 16 [.arr (l.map by_)] []=some (.tup [a.sv,b.sv],[])) (hcut:E 18 [.arr (l.map by_),.int .i64 7] []=some (.arr ((D7 l 7).map by_),[])) (hd2:E 17 [.arr ((D7 l 7).map by_)] []=some (.tup [c.sv,d.sv],[])) (ha:a.nodes≤300) (hb:b.nodes≤300) (hc:c.nodes≤300) (ka1:a.valid=false) (ka2:a.atom=false):E 4 [.arr (l.map by_)] []=some (.bool true,[]):=by
 have c1:=Ao a b (by omega) (by omega)
 have c2:=Ao b a (by omega) (by omega)
 have c3:=Ao b c (by omega) (by omega)
 have c4:=Ao a c (by omega) (by omega)
 have v1:=A4 a (by omega)
 have v2:=A5 a (by omega)
 have v3:=A4 b (by omega)
 have v4:=A5 b (by omega)
 have e1:=CZ a b (by omega) (by omega)
 have e2:=BC a b (by omega) (by omega)
 unfold Kr at c1 c2 c3 c4
 have hn:(a.expr&&b.expr)=false:=by
  unfold Tm.expr
  simp [ka1,ka2]
 have hn2:(b.expr&&a.expr)=false:=by rw [yA]; exact hn
 rw [hn,cond_false] at c1
 rw [hn2,cond_false] at c2
 rw [ka1] at v1
 rw [ka2] at v2
 have hi0:dec (inK .i64 (0-0))=true:=Co (by omega) (by omega)
 have hz0:((0:Int)=0-0)=True:=eq_true (by omega)
 refine Al Ai Aj (of_decide_eq_true rfl) ?_
 simp (disch:=omega) only [Ae,go_sem,Aa,hbig,hd1,hcut,hd2,c1,c2,c3,c4,v1,v2,v3,v4,e1,e2,Ar,As,Am,Ac,Ab,Ad,Af,Ah,Ak,hi0,hz0]
theorem Rc (l:List Int) (hl:Bytes l):E 4 [.arr (l.map by_)] []=some (.bool true,[]):=by
 have hbig:=QY l
 by_cases hb:65536<(l.length:Int)
 ·rw [BO hb] at hbig
  refine Al Ai Aj (of_decide_eq_true rfl) ?_
  simp (disch:=omega) only [Ae,go_sem,Aa,hbig,Ar]
 ·rw [BP hb] at hbig
  obtain ⟨a,b,hd,ha,hb1⟩:=Ex l hl (by omega)
  have hlen:=O3 l 7
  have hcut:=QZ l (by omega) 7 (by omega) (by omega)
  obtain ⟨c,d,hd2,hc,_⟩:=Ex (D7 l 7) (LR hl 7) (by omega)
  have hd1:=Gl l a b hd
  cases ka1:a.valid with
  | true =>
   cases kb1:b.valid with
   | true=>exact PP l a b c d hbig hd1 hcut hd2 (by omega) (by omega) (by omega) ka1 kb1
   | false =>
    cases kb2:b.atom with
    | true=>exact PQ l a b c d hbig hd1 hcut hd2 (by omega) (by omega) (by omega) ka1 kb1 kb2
    | false=>exact PR l a b c d hbig hd1 hcut hd2 (by omega) (by omega) (by omega) ka1 kb1 kb2
  | false =>
   cases ka2:a.atom with
   | true =>
    cases kb1:b.valid with
    | true=>exact PS l a b c d hbig hd1 hcut hd2 (by omega) (by omega) (by omega) ka1 ka2 kb1
    | false =>
     cases kb2:b.atom with
     | true=>exact PT l a b c d hbig hd1 hcut hd2 (by omega) (by omega) (by omega) ka1 ka2 kb1 kb2
     | false=>exact PU l a b c d hbig hd1 hcut hd2 (by omega) (by omega) (by omega) ka1 ka2 kb1 kb2
   | false=>exact Rb l a b c d hbig hd1 hcut hd2 (by omega) (by omega) (by omega) ka1 ka2
end Go.Proofs.Ytgilfckaddklfaa
set_option maxRecDepth 100000
set_option linter.unusedSimpArgs false
set_option linter.unusedVariables false
set_option linter.unusedSectionVars false
namespace Go.Proofs.Ytgilfckaddklfaa
open Go.RowKit Go.ChangeShapes Go.WideShapes Go.ChangeAt Go.Deep
section
variable {H:Type} {enc:TypeId × Value→H} {P:Program} {w:World} {base:Nat} {spare:Nat→Bool} {held:Bool}
theorem Fs {b o k:Nat}:(⟨b,o,none⟩:Addr).add k=⟨b,o+k,none⟩:=by
 unfold Addr.add; split
 ·subst_vars; rfl
 ·rfl
theorem PV {a:Addr} {v:Value} (h:w.cell? a=some v):a.block<w.heap.size:=by
 unfold World.cell? at h
 cases hb:w.heap[a.block]? with
 | none=>rw [hb] at h; cases h
 | some o=>exact (Array.getElem?_eq_some_iff.1 hb).1
end
section
variable {H:Type} {enc:TypeId × Value→H} {w:World} {base:Nat} {spare:Nat→Bool} {held:Bool}
end
end Go.Proofs.Ytgilfckaddklfaa
set_option maxRecDepth 100000
set_option linter.unusedSimpArgs false
set_option linter.unusedVariables false
set_option linter.unusedSectionVars false
namespace Go.Proofs.Ytgilfckaddklfaa
open Go.RowKit Go.ChangeShapes Go.WideShapes Go.ChangeAt Go.Deep
section
variable {H:Type} {enc:TypeId × Value→H} {P:Program} {w:World} {base:Nat} {spare:Nat→Bool} {held:Bool}
theorem OF {t e:TypeId} {fuel:Nat} {v:Value} {x:DataW H × List MemPlace} (sz:Nat) (hsz:P.cellsOf e=sz) (h0:0<sz) (ht:P.underlying t=some (.slice e)) (h:DataW.trod enc P w base spare held fuel t [v]=some x) :
  ∃ (a:Option Addr) (len cap:Nat) (f:Nat→Nat→Value),v=.slice a len cap∧len≤cap∧cap≤9223372036854775807∧SlA w 0 sz len f a ∧
   ∀ i,i<len→∃ n x',n<fuel∧DataW.trod enc P w base spare held n e ((z1 sz).map (f i))=some x':=by
 rcases DataW.trod_slice ht h with ⟨hcs,_⟩ | ⟨a,len,cap,elems,rest,n,hf,hcs,hx,hb,hl,hm,hlen,hel,_,_⟩
 ·simp only [zX,and_true] at hcs
  exact ⟨none,0,0,fun _ _=>undef,hcs,z0 _,by omega,.inl rfl,fun i hi=>absurd hi (by omega)⟩
 ·have hi:∀ i,i<len→∃ cs' x',w.cells? base (a.add (i*sz)) sz=some cs'∧DataW.trod enc P w base spare held n e cs'=some x':=by
   intro i hi
   have h1:=hel i hi
   rw [hsz,zU (by omega)] at h1
   obtain ⟨cs',h2,h3⟩:=Option.bind_eq_some_iff.1 h1
   exact ⟨cs',_,h2,h3⟩
  have hcell:∀ i j,i<len→j<sz→∃ v,w.cell? (a.add (i*sz+j))=some v:=by
   intro i j hil hj
   obtain ⟨cs',x',hc,_⟩:=hi i hil
   obtain ⟨_,hcl,hat⟩:=World.cells?_some hc
   have h1:=hat j hj
   rw [Go.Deep.add_add,zU (by omega)] at h1
   exact ⟨_,h1⟩
  simp only [zX,and_true] at hcs
  refine ⟨some a,len,cap,fun i j=>(w.cell? (a.add (i*sz+j))).getD undef,hcs,hl,hm,?_,?_⟩
  ·rcases zN len with h | h
   ·exact .inl h
   ·obtain ⟨v,hv⟩:=hcell 0 0 h h0
    rw [Nat.zero_mul,Nat.zero_add] at hv
    have hsp:a.spot=none:=by simpa [Addr.add] using World.cell?_spot hv
    have hlt:=PV hv
    obtain ⟨b,off,spot⟩:=a
    simp only at hsp
    subst hsp
    refine .inr ⟨b,off,rfl,zO _,by simpa [Addr.add] using hlt,fun i j hil hj=>?_⟩
    obtain ⟨v',hv'⟩:=hcell i j hil hj
    rw [Fs] at hv'
    show _=some ((w.cell? ((⟨b,off,none⟩:Addr).add (i*sz+j))).getD undef)
    rw [Fs,Nat.add_assoc,hv']
    rfl
  ·intro i hil
   obtain ⟨cs',x',hc,ht'⟩:=hi i hil
   obtain ⟨_,hcl,hat⟩:=World.cells?_some hc
   refine ⟨n,x',by omega,?_⟩
   have hcs':(z1 sz).map (fun j=>(w.cell? (a.add (i*sz+j))).getD undef)=cs':=by
    apply List.ext_getElem?
    intro j
    by_cases hj:j<sz
    ·rw [List.getElem?_map,List.getElem?_range hj]
     have h1:=hat j hj
     rw [Go.Deep.add_add] at h1
     rw [zU (by omega:j<cs'.length)] at h1 ⊢
     simp [h1]
    ·rw [List.getElem?_eq_none (by simp; omega),List.getElem?_eq_none (by omega)]
   rw [hcs']
   exact ht'
end
inductive Lvs (w:World):List D→List Value→Prop
 |nil:Lvs w [] []
 |cons {d:D} {v:Value} {ds:List D} {vs:List Value} (h:DAt w d v) (hs:Lvs w ds vs):Lvs w (d :: ds) (v :: vs)
theorem Lvs.len {w:World} {ds:List D} {vs:List Value} (h:Lvs w ds vs):ds.length=vs.length:=by
 induction h with
 | nil=>rfl
 | cons h hs ih=>simp [ih]
theorem Lvs.get {w:World} {ds:List D} {vs:List Value} (h:Lvs w ds vs):∀ j (h1:j<ds.length) (h2:j<vs.length),DAt w ds[j] vs[j]:=by
 induction h with
 | nil=>intro j h1; simp at h1
 | cons h hs ih =>
  intro j h1 h2
  cases j with
  | zero=>exact h
  | succ j=>exact ih j (by simpa using h1) (by simpa using h2)
theorem OG {α:Type} [Inhabited α] (dd:α→List D) {w:World} {m len cap:Nat} {f:Nat→Nat→Value} {a:Option Addr} (hl:len≤cap) (hm:cap≤9223372036854775807) (hS:SlA w 0 m len f a)
  (hel:∀ i,i<len→∃ X:α,Lvs w (dd X) ((z1 m).map (f i))):∃ xs:List α,DAt w (.arr (xs.map dd)) (.slice a len cap):=by
 obtain ⟨g,hg⟩:∃ g:Nat→α,∀ i,i<len→Lvs w (dd (g i)) ((z1 m).map (f i)) :=
  ⟨fun i=>if h:i<len then (hel i h).choose else default,fun i hi=>by simp only [hi,dif_pos]; exact (hel i hi).choose_spec⟩
 refine ⟨(z1 len).map g,?_⟩
 have hlen:(((z1 len).map g).map dd).length=len:=by simp
 have:=DAt.Qf (w:=w) (es:=((z1 len).map g).map dd) (sz:=m) (cap:=cap) (a:=a) (f:=f) (by rw [hlen]; exact hl) hm (by rw [hlen]; exact hS) (fun i hi=>by
  rw [hlen] at hi
  have:=(hg i hi).len
  simpa using this) (fun i j hi hj=>by
  rw [hlen] at hi
  have h1:=hg i hi
  have h2:=h1.len
  simp only [z6,List.length_range] at h2
  simp only [List.getElem_map,List.getElem_range] at hj ⊢
  have:=h1.get j hj (by simp; omega)
  simpa using this)
 rw [hlen] at this
 exact this
instance:Inhabited Tm:=⟨Tm.zero⟩
instance:Inhabited Fm:=⟨Fm.zero⟩
section
variable {H:Type} {enc:TypeId × Value→H} {w:World} {base:Nat} {spare:Nat→Bool} {held:Bool}
end
end Go.Proofs.Ytgilfckaddklfaa
set_option maxRecDepth 100000
set_option linter.unusedSimpArgs false
set_option linter.unusedVariables false
set_option linter.unusedSectionVars false
namespace Go.Proofs.Ytgilfckaddklfaa
open Go.RowKit
theorem DRep.lt_ {own:Bool} {w:World} {S:Nat→Prop} {d:D} {v:Value} (h:DRep own w S d v):DRep own w (fun b=>S b∧b<w.heap.size) d v:=by
 induction h with
 | int S n=>exact .int _ n
 | byte S n=>exact .byte _ n
 | bool S b=>exact .bool _ b
 | str S s h=>exact .str _ s h
 | arr S sz es a cap f Sub h1 h2 h3 h4 h5 h6 h7 ih =>
  refine .arr _ sz es a cap f (fun i j x=>Sub i j x∧x<w.heap.size) h1 h2 ?_ h4 (fun i j x h=>⟨h5 i j x h.1,h.2⟩) (fun ho i j i' j' x h h'=>h6 ho i j i' j' x h.1 h'.1) ih
  rcases h3 with h3 | ⟨b,off,ha,hS,hl,hc,ho⟩
  ·exact .inl h3
  ·exact .inr ⟨b,off,ha,⟨hS,hl⟩,hl,hc,fun h=>⟨fun i j hx=>(ho h).1 i j hx.1,(ho h).2⟩⟩
theorem DAt.rep {w:World} {es:List (List D)} {v:Value} (h:DAt w (.arr es) v):RepV w (fun b=>b<w.heap.size) (fun _=>none) (.arr es) v:=by
 simp only [RepV]
 exact (DRep.lt_ h).up fun b hb=>hb.2
theorem Fun.yes {f:FuncId} {args:List SV} (h:Fun Try.prog f args [] (.bool true) []) {w:World} {vs:List Value} (hgl:GL w fun b=>b<w.heap.size) (hvs:RepVs w (fun b=>b<w.heap.size) (fun _=>none) args vs):Calls Try.prog f vs.toArray w (Ret w (.bool true)):=by
 have nl:∀ g,¬ (An [] g).live:=fun g hg=>by simp [An,Ob.live] at hg
 refine (h w (fun b=>b<w.heap.size) (fun _=>none) (fun _ _=>False) vs ⟨fun b hb=>hb,fun g hg=>absurd hg (nl g),fun g b hg=>absurd hg (nl g),fun g b hg=>absurd hg (nl g),fun g g' b hg=>absurd hg (nl g),fun g _=>rfl,hgl⟩ hvs).mono ?_
 rintro e w' ⟨v,I',V',B',rfl,hr,hp⟩
 simp only [RepV] at hr
 subst hr
 exact ⟨rfl,hp.fr.os,hp.fr.tape.1,hp.fr.output,hp.fr.size,fun b hb=>hp.fr.block b hb fun ⟨g,hg,_⟩=>absurd hg (nl g)⟩
theorem OH {w:World} {I:Nat→Prop} {V:Nat→Option Value}:RepVs w I V [] []:=by simp [RepVs]
theorem N0 {w:World} {I:Nat→Prop} {V:Nat→Option Value} {x:SV} {xs:List SV} {v:Value} {vs:List Value} (h:RepV w I V x v) (hs:RepVs w I V xs vs):RepVs w I V (x :: xs) (v :: vs):=by
 simp only [RepVs]; exact ⟨v,vs,rfl,h,hs⟩
section
variable {H:Type} {enc:TypeId × Value→H} {w:World} {base:Nat} {spare:Nat→Bool} {held:Bool}
end
end Go.Proofs.Ytgilfckaddklfaa
set_option maxRecDepth 100000
set_option linter.unusedSimpArgs false
set_option linter.unusedVariables false
set_option linter.unusedSectionVars false
namespace Go.Proofs.Ytgilfckaddklfaa
open Go.RowKit Go.ChangeShapes Go.WideShapes Go.ChangeAt Go.Deep
section
variable {H:Type} {enc:TypeId × Value→H} {w:World} {base:Nat} {spare:Nat→Bool} {held:Bool}
abbrev ByteZ:={ b:Int // 0≤b∧b≤255 }
instance:Inhabited ByteZ:=⟨⟨0,by omega⟩⟩
theorem N1 {fuel:Nat} {v:Value} {x:DataW H × List MemPlace} (h:DataW.trod enc Try.prog w base spare held fuel 22 [v]=some x):∃ l:List Int,Bytes l∧DAt w (.arr (l.map by_)) v:=by
 obtain ⟨a,len,cap,f,rfl,hl,hm,hS,hr⟩:=OF (P:=Try.prog) 1 (by kernel_rfl) (by omega) Try.underlying22 h
 obtain ⟨xs,hx⟩:=OG (fun s:ByteZ=>[D.byte s.1]) hl hm hS fun i hi=>by
  obtain ⟨n,x',hn,h1⟩:=hr i hi
  obtain ⟨z,q,_,hw⟩:=DataW.trod_int Try.underlying5 h1
  have h2:(decide (IntKind.u8.min≤z)&&decide (z≤IntKind.u8.max))=true:=hw
  rw [zE,decide_eq_true_eq,decide_eq_true_eq] at h2
  rw [q]
  exact ⟨⟨z,h2.1,h2.2⟩,.cons (.byte _ z) .nil⟩
 refine ⟨xs.map (·.1),fun b hb=>?_,?_⟩
 ·obtain ⟨s,_,rfl⟩:=List.mem_map.1 hb
  exact s.2
 ·rw [List.map_map]
  exact hx
end
end Go.Proofs.Ytgilfckaddklfaa
