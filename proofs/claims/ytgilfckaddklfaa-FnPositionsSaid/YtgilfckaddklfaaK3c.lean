/-
  Texts of this claim, one behind the other, each built on those ahead of it. No condition.
-/
import Derived.Test.YtgilfckaddklfaaK3b
import Derived.ProofKit
import Derived.Deep.Slices
import Derived.Deep.Fields
import Derived.ChangeSame
import Derived.OpenShut
import Derived.ShutString
import Derived.ChangeOld
set_option maxHeartbeats 16000000
open List renaming map_cons → zA, length_replicate → zB, drop_eq_getElem_cons → zC, replicate → zD, getElem_mem → zE, drop_eq_nil_of_le → zG, drop_zero → zI, getElem?_eq_getElem → zM, map_nil → zN, map_append → zR, length_cons → zS, cons_append → zT, mem_cons → zU, range → zW, length_map → zY, length_append → zZ, getD_eq_getElem?_getD → z0, all_eq_true → z1, any_cons → z5
open Nat renaming lt_or_ge → zF, zero_le → zL, eq_zero_or_pos → zQ, le_refl → zX
open Bool renaming and_self → zH, and_true → zP, false_and → z4, true_and → z6
open Option.some renaming inj → zJ, injEq → zK
open Prod.mk renaming injEq → zO, inj → z3
open List.cons renaming injEq → zV
open Option renaming getD_some → z2
set_option maxRecDepth 100000
set_option linter.unusedSimpArgs false
set_option linter.unusedVariables false
set_option linter.unusedSectionVars false
namespace Go.Proofs.Ytgilfckaddklfaa
open Go.RowKit
def LG:List (Nat × FM)→Nat→FM
 | [],_=>⟨[],.asis,none,false⟩
 | (f,m) :: r,g=>bif f == g then m else LG r g
theorem Mi {l:List (Nat × FM)} {f:Nat} {g:List SV→List Ob→Option (SV × List Ob)} (h:(LG l f).ext=some g):∃ m,(f,m)∈l∧m.ext=some g:=by
 induction l with
 | nil=>cases h
 | cons x r ih =>
  obtain ⟨f',m⟩:=x
  simp only [LG] at h
  cases e:f' == f with
  | true =>
   rw [e] at h
   obtain rfl:f'=f:=by simpa using e
   exact ⟨m,by simp,h⟩
  | false =>
   rw [e] at h
   obtain ⟨m',h1,h2⟩:=ih h
   exact ⟨m',by simp [h1],h2⟩
noncomputable def Qw:List SV→Option SV
 | [.int .i64 k]=>bif dec (1≤k)&&dec (k≤1099511627776) then some (.str (Qk k)) else none
 | _=>none
def Ns:List SV→Option SV
 | [.str s]=>some (.bool (Ex s))
 | _=>none
theorem Mj {xs:List SV} {r:SV} (h:Ns xs=some r):Fun Try.prog 54 xs [] r []:=by
 unfold Ns at h
 split at h
 ·rename_i s
  obtain rfl:=zJ h
  refine Fun.of_same (rv:=.bool (Ex s)) (fun w I V=>by simp only [RepV]) fun w I V vs h=>?_
  obtain ⟨v,r,rfl,h3,h⟩:=Fa h
  obtain rfl:=LE h
  obtain ⟨rfl,h4⟩:=Hn h3
  exact HU s w h4
 ·cases h
def Nt:List SV→Option SV
 | [.str s]=>some (.bool (Ex s))
 | _=>none
theorem Mk {xs:List SV} {r:SV} (h:Nt xs=some r):Fun Try.prog 76 xs [] r []:=by
 unfold Nt at h
 split at h
 ·rename_i s
  obtain rfl:=zJ h
  refine Fun.of_same (rv:=.bool (Ex s)) (fun w I V=>by simp only [RepV]) fun w I V vs h=>?_
  obtain ⟨v,r,rfl,h3,h⟩:=Fa h
  obtain rfl:=LE h
  obtain ⟨rfl,h4⟩:=Hn h3
  exact Mh s w h4
 ·cases h
def Nu:List SV→Option SV
 | [.str s]=>some (.bool (Dk s))
 | _=>none
theorem Ml {xs:List SV} {r:SV} (h:Nu xs=some r):Fun Try.prog 64 xs [] r []:=by
 unfold Nu at h
 split at h
 ·rename_i s
  obtain rfl:=zJ h
  refine Fun.Np (rv:=.bool (Dk s)) (fun w I V=>by simp only [RepV]) fun w I V vs h=>?_
  obtain ⟨v,r,rfl,h3,h⟩:=Fa h
  obtain rfl:=LE h
  obtain ⟨rfl,h4⟩:=Hn h3
  exact Jw s w h4
 ·cases h
def Nv:List SV→Option SV
 | [.str s]=>some (.bool (Dk s))
 | _=>none
theorem Mm {xs:List SV} {r:SV} (h:Nv xs=some r):Fun Try.prog 60 xs [] r []:=by
 unfold Nv at h
 split at h
 ·rename_i s
  obtain rfl:=zJ h
  refine Fun.of_same (rv:=.bool (Dk s)) (fun w I V=>by simp only [RepV]) fun w I V vs h=>?_
  obtain ⟨v,r,rfl,h3,h⟩:=Fa h
  obtain rfl:=LE h
  obtain ⟨rfl,h4⟩:=Hn h3
  exact Jx s w h4
 ·cases h
noncomputable def modes:FuncId→FM:=LG [(54,⟨[],.asis,some (GZ Ns),false⟩),(76,⟨[],.asis,some (GZ Nt),false⟩),(64,⟨[],.asis,some (GZ Nu),false⟩),(60,⟨[],.asis,some (GZ Nv),false⟩),(62,⟨[],.own [some (26,2)],none,false⟩),(41,⟨[],.own [none,some (26,2)],none,false⟩),(70,⟨[],.half [none,some (26,2)],none,false⟩),(42,⟨[],.half [none,some (26,2)],none,false⟩),(67,⟨[],.half [none,some (26,2)],none,false⟩),(88,⟨[],.half [none,some (26,2)],none,false⟩),(96,⟨[],.half [none,some (26,2)],none,false⟩),(68,⟨[],.half [none,some (26,2)],none,false⟩),(39,⟨[],.half [none,some (26,2)],none,false⟩),(28,⟨[],.frz,none,false⟩),(7,⟨[],.frz,none,false⟩),(30,⟨[],.frz,none,false⟩),(8,⟨[],.frz,none,false⟩),(34,⟨[],.frz,none,false⟩),(38,⟨[],.own [none,some (26,2)],none,false⟩),(12,⟨[],.own [none,some (26,2),none],none,false⟩),(14,⟨[],.own [none,some (26,2),none],none,false⟩)]
theorem noExt {l:List (Nat × FM)} (h:(l.all fun p=>p.2.ext.isNone)=true) {f:Nat} {m:FM} {g:List SV→List Ob→Option (SV × List Ob)} (h1:(f,m)∈l) (h2:m.ext=some g):False:=by
 have h3:=z1.1 h _ h1
 rw [h2] at h3
 cases h3
theorem La:Hm Try.prog modes:=by
 intro f g xs ob r ob' hg hx
 obtain ⟨m,h1,h2⟩:=Mi hg
 rcases zU.1 h1 with h1 | h1
 ·obtain ⟨rfl,rfl⟩:=z3 h1
  obtain rfl:=zJ h2
  exact EY Mj hx
 rcases zU.1 h1 with h1 | h1
 ·obtain ⟨rfl,rfl⟩:=z3 h1
  obtain rfl:=zJ h2
  exact EY Mk hx
 rcases zU.1 h1 with h1 | h1
 ·obtain ⟨rfl,rfl⟩:=z3 h1
  obtain rfl:=zJ h2
  exact EY Ml hx
 rcases zU.1 h1 with h1 | h1
 ·obtain ⟨rfl,rfl⟩:=z3 h1
  obtain rfl:=zJ h2
  exact EY Mm hx
 exact (noExt rfl h1 h2).elim
noncomputable def E:FEnv:=ev Try.prog modes
noncomputable def calls:CallF:=B3 modes E
theorem Pu {f:FuncId} {xs:List SV} {ob:List Ob} {r:SV} {ob':List Ob} (h:E f xs ob=some (r,ob')):Fun Try.prog f xs ob r ob':=Oy Pq La f xs ob r ob' h
noncomputable def run (n0:Nat):SC→St→Option (X × St):=fr Try.prog calls (F2 n0)
def go (n0:Nat) (sc:SC) (st:St) (K:X→St→Prop):Prop:=∃ x st',run n0 sc st=some (x,st')∧K x st'
def O4 (n0:Nat) (b:SC) (K:X→St→Prop):X→St→Prop
 | .normal,st=>go n0 b st K
 | .exit i,st=>K (.exit i) st
 | .ret,st=>K .ret st
def blk (id:Nat) (K:X→St→Prop):X→St→Prop
 | .normal,st=>K .normal st
 | .exit i,st=>if i=id then K .normal st else K (.exit i) st
 | .ret,st=>K .ret st
def Nw (r:Option St) (k:X→St→Prop):Prop :=
 match r with
 | some st=>k .normal st
 | none=>False
def Nx (anc:List (List Nat)) (r:Option (List Ent × St)) (k:X→St→Prop):Prop :=
 match r with
 | some (es,st)=>obB anc [] (Fs es) 0=true∧k .normal st
 | none=>False
def HV (v:SV) (a b:Unit→Prop):Prop :=
 match v with
 | .bool true=>a ()
 | .bool false=>b ()
 | _=>False
noncomputable def Lb (ops:List SOper) (st:St):Option St:=HE Try.prog calls ops st
noncomputable def Lc (ops:List SOper) (acc:List Ent) (st:St):Option (List Ent × St):=DL Try.prog calls ops acc st
section
variable {n0:Nat} {st:St} {K:X→St→Prop}
theorem go_skip:go n0 .skip st K=K .normal st:=by
 refine propext ⟨fun ⟨x,st',h,k⟩=>?_,fun k=>⟨_,_,rfl,k⟩⟩
 obtain ⟨rfl,rfl⟩:X.normal=x∧st=st':=by simpa [run,fr] using h
 exact k
theorem O5 {i:Nat}:go n0 (.exit i) st K=K (.exit i) st:=by
 refine propext ⟨fun ⟨x,st',h,k⟩=>?_,fun k=>⟨_,_,rfl,k⟩⟩
 obtain ⟨rfl,rfl⟩:X.exit i=x∧st=st':=by simpa [run,fr] using h
 exact k
theorem go_ret:go n0 .ret st K=K .ret st:=by
 refine propext ⟨fun ⟨x,st',h,k⟩=>?_,fun k=>⟨_,_,rfl,k⟩⟩
 obtain ⟨rfl,rfl⟩:X.ret=x∧st=st':=by simpa [run,fr] using h
 exact k
theorem Pv {ops:List SOper}:go n0 (.reg ops) st K=Nw (Lb ops st) K:=by
 unfold Nw Lb
 refine propext ⟨fun ⟨x,st',h,k⟩=>?_,fun k=>?_⟩
 ·simp only [run,fr] at h
  split at h
  ·rename_i s hs
   simp only [zK,zO] at h
   obtain ⟨rfl,rfl⟩:=h
   first | exact k | (simp only [hs]; exact k)
  ·cases h
 ·split at k
  ·rename_i s hs
   exact ⟨.normal,s,by simp only [run,fr,hs],k⟩
  ·exact k.elim
theorem O6 {anc:List (List Nat)} {ops:List SOper}:go n0 (.dreg anc ops) st K=Nx anc (Lc ops [] st) K:=by
 unfold Nx Lc
 refine propext ⟨fun ⟨x,st',h,k⟩=>?_,fun k=>?_⟩
 ·simp only [run,fr] at h
  split at h
  ·rename_i es s hs
   obtain ⟨h1,h2⟩:=Ad h
   simp only [zK,zO] at h2
   obtain ⟨rfl,rfl⟩:=h2
   first | exact ⟨h1,k⟩ | (simp only [hs]; exact ⟨h1,k⟩)
  ·cases h
 ·split at k
  ·rename_i es s hs
   exact ⟨.normal,s,by simp only [run,fr,hs,k.1,cond_true],k.2⟩
  ·exact k.elim
theorem Pw {a b:SC}:go n0 (.seq a b) st K=go n0 a st (O4 n0 b K):=by
 refine propext ⟨fun ⟨x,st',h,k⟩=>?_,fun ⟨x,st',h,k⟩=>?_⟩
 ·simp only [run,fr,Bw] at h
  split at h
  ·rename_i s hs
   exact ⟨.normal,s,hs,x,st',h,k⟩
  ·rename_i i s hs
   simp only [zK,zO] at h
   obtain ⟨rfl,rfl⟩:=h
   exact ⟨_,_,hs,k⟩
  ·rename_i s hs
   simp only [zK,zO] at h
   obtain ⟨rfl,rfl⟩:=h
   exact ⟨_,_,hs,k⟩
  ·cases h
 ·simp only [run] at h
  cases x with
  | normal =>
   obtain ⟨x2,st2,h2,k2⟩:=k
   exact ⟨x2,st2,by simp only [run,fr,Bw,h]; exact h2,k2⟩
  | exit i=>exact ⟨_,st',by simp only [run,fr,Bw,h],k⟩
  | ret=>exact ⟨_,st',by simp only [run,fr,Bw,h],k⟩
theorem Ny {id:Nat} {b:SC}:go n0 (.block id b) st K=go n0 b st (blk id K):=by
 refine propext ⟨fun ⟨x,st',h,k⟩=>?_,fun ⟨x,st',h,k⟩=>?_⟩
 ·simp only [run,fr,Ee] at h
  split at h
  ·rename_i s hs
   simp only [zK,zO] at h
   obtain ⟨rfl,rfl⟩:=h
   exact ⟨.normal,s,hs,k⟩
  ·rename_i i s hs
   refine ⟨.exit i,s,hs,?_⟩
   simp only [blk]
   by_cases hi:i=id
   ·simp only [if_pos hi,zK,zO] at h ⊢
    obtain ⟨rfl,rfl⟩:=h
    exact k
   ·simp only [if_neg hi,zK,zO] at h ⊢
    obtain ⟨rfl,rfl⟩:=h
    exact k
  ·rename_i s hs
   simp only [zK,zO] at h
   obtain ⟨rfl,rfl⟩:=h
   exact ⟨_,s,hs,k⟩
  ·cases h
 ·simp only [run] at h
  cases x with
  | normal=>exact ⟨_,st',by simp only [run,fr,Ee,h],k⟩
  | exit i =>
   simp only [blk] at k
   by_cases hi:i=id
   ·simp only [if_pos hi] at k
    exact ⟨.normal,st',by simp only [run,fr,Ee,h,if_pos hi],k⟩
   ·simp only [if_neg hi] at k
    exact ⟨.exit i,st',by simp only [run,fr,Ee,h,if_neg hi],k⟩
  | ret=>exact ⟨_,st',by simp only [run,fr,Ee,h],k⟩
theorem Aa {q:SX} {a b:SC}:go n0 (.cond q a b) st K=HV (Ak (gets st.sl) q) (fun _=>go n0 a st K) (fun _=>go n0 b st K):=by
 unfold HV
 refine propext ⟨fun ⟨x,st',h,k⟩=>?_,fun k=>?_⟩
 ·simp only [run,fr] at h
  split at h
  ·rename_i t ht
   simp only [ht]
   cases t with
   | true=>exact ⟨x,st',h,k⟩
   | false=>exact ⟨x,st',h,k⟩
  ·cases h
 ·split at k
  ·rename_i ht
   obtain ⟨x,st',h,k⟩:=k
   exact ⟨x,st',by simp only [run,fr,ht,cond_true]; exact h,k⟩
  ·rename_i ht
   obtain ⟨x,st',h,k⟩:=k
   exact ⟨x,st',by simp only [run,fr,ht,cond_false]; exact h,k⟩
  ·exact k.elim
theorem O7 {a b:Unit→Prop}:HV (.bool true) a b=a ():=rfl
theorem O8 {a b:Unit→Prop}:HV (.bool false) a b=b ():=rfl
theorem O9 {t:Bool} {a b:Unit→Prop}:HV (.bool (!t)) a b=HV (.bool t) b a:=by cases t <;> rfl
theorem Kr {t:Bool} {a b:Unit→Prop} (h1:t=true→a ()) (h2:t=false→b ()):HV (.bool t) a b:=by
 cases t with
 | true=>exact h1 rfl
 | false=>exact h2 rfl
theorem Px {b:SC}:O4 n0 b K .normal st=go n0 b st K:=rfl
theorem Py {b:SC} {i:Nat}:O4 n0 b K (.exit i) st=K (.exit i) st:=rfl
theorem Pz {b:SC}:O4 n0 b K .ret st=K .ret st:=rfl
theorem Ql {id:Nat}:blk id K .normal st=K .normal st:=rfl
theorem Qm {id i:Nat}:blk id K (.exit i) st=if i=id then K .normal st else K (.exit i) st:=rfl
theorem Qn {id:Nat}:blk id K .ret st=K .ret st:=rfl
theorem OA:Nw (some st) K=K .normal st:=rfl
def quiet:List Ent→Bool
 | []=>true
 | ⟨_,_,[],_⟩ :: r=>quiet r
 | ⟨_,_,_ :: _,_⟩ :: _=>false
theorem HW {anc:List (List Nat)} {rd:List Nat} {j:Nat}:∀ {l:List Ent} {i:Nat},quiet l=true→K6 anc rd [] j (Fs l) i=true
 | [],i,_=>rfl
 | ⟨_,_,[],rdi⟩ :: r,i,h=>by
  have:=HW (anc:=anc) (rd:=rd) (j:=j) (l:=r) (i:=i+1) h
  simp only [Fs,zA,zN] at this ⊢
  simp only [K6,this,zP]
  have e1:meets [] (rd++[])=false:=rfl
  have e2:meets rdi []=false:=by cases rdi <;> simp [meets]
  rw [e1,e2]; rfl
theorem Mn {l l':List Ent} (h:quiet l=true) (h':quiet l'=true):quiet (l++l')=true:=by
 induction l with
 | nil=>exact h'
 | cons x r ih =>
  obtain ⟨a,b,c,d⟩:=x
  cases c with
  | nil=>exact ih h
  | cons _ _=>cases h
theorem IX {anc:List (List Nat)}:∀ {l pre:List Ent} {j:Nat},quiet pre=true→quiet l=true→obB anc (Fs pre) (Fs l) j=true
 | [],pre,j,_,_=>rfl
 | ⟨a,b,[],rd⟩ :: r,pre,j,hp,h=>by
  have e:=IX (anc:=anc) (l:=r) (pre:=pre++[⟨a,b,[],rd⟩]) (j:=j+1) (Mn hp rfl) h
  have e2:=HW (anc:=anc) (rd:=rd) (j:=j) (i:=0) hp
  simp only [Fs,zR,zA,zN] at e e2 ⊢
  simp only [obB,e2,e,zH]
theorem OB {anc:List (List Nat)} {es:List Ent}:Nx anc (some (es,st)) K=match quiet es with
  | true=>K .normal st
  | false=>obB anc [] (Fs es) 0=true∧K .normal st:=by
 show (obB anc [] (Fs es) 0=true∧K .normal st)=_
 cases h:quiet es with
 | true=>exact propext ⟨fun h=>h.2,fun h'=>⟨IX (pre:=[]) rfl h,h'⟩⟩
 | false=>rfl
noncomputable def P0 (r:List SOper) (e:Option (Ent × St)):Option St :=
 match e with
 | some (_,st)=>Lb r st
 | none=>none
noncomputable def P1 (r:List SOper) (acc:List Ent) (e:Option (Ent × St)):Option (List Ent × St) :=
 match e with
 | some (x,st)=>Lc r (acc++[x]) st
 | none=>none
noncomputable def opF (so:SOp) (sl:List SV) (ob:List Ob):Option R3:=fOp Try.prog calls so sl ob
theorem Nz:Lb [] st=some st:=rfl
theorem Mo {d:Option Tmp} {so:SOp} {r:List SOper} {sl:List SV} {ob:List Ob}:Lb (⟨d,none,so⟩ :: r) ⟨sl,ob⟩=P0 r (Fd d ⟨sl,ob⟩ (opF so sl ob)):=rfl
noncomputable def gdF (d:Option Tmp) (so:SOp) (want:Bool) (sl:List SV) (ob:List Ob) (v:SV):Option (Ent × St) :=
 match v with
 | .bool b=>bif KK b want then Fd d ⟨sl,ob⟩ (opF so sl ob) else some (⟨false,.tup [],[],[]⟩,⟨CZ sl d (.tup []),ob⟩)
 | .tup []=>some (⟨false,.tup [],[],[]⟩,⟨CZ sl d (.tup []),ob⟩)
 | _=>none
theorem OC {d:Option Tmp} {k:Nat} {want:Bool} {so:SOp} {r:List SOper} {sl:List SV} {ob:List Ob}:Lb (⟨d,some (k,want),so⟩ :: r) ⟨sl,ob⟩=P0 r (gdF d so want sl ob (gets sl k)):=rfl
theorem N0 {acc:List Ent}:Lc [] acc st=some (acc,st):=rfl
theorem Mp {d:Option Tmp} {so:SOp} {r:List SOper} {acc:List Ent} {sl:List SV} {ob:List Ob}:Lc (⟨d,none,so⟩ :: r) acc ⟨sl,ob⟩=P1 r acc (Fd d ⟨sl,ob⟩ (opF so sl ob)):=rfl
theorem OD {d:Option Tmp} {k:Nat} {want:Bool} {so:SOp} {r:List SOper} {acc:List Ent} {sl:List SV} {ob:List Ob}:Lc (⟨d,some (k,want),so⟩ :: r) acc ⟨sl,ob⟩=P1 r acc (gdF d so want sl ob (gets sl k)):=rfl
theorem P2 {r:List SOper} {e:Ent}:P0 r (some (e,st))=Lb r st:=rfl
theorem P3 {r:List SOper} {acc:List Ent} {e:Ent}:P1 r acc (some (e,st))=Lc r (acc++[e]) st:=rfl
theorem Qo {d:Option Tmp} {so:SOp} {sl:List SV} {ob:List Ob}:gdF d so true sl ob (.bool true)=Fd d ⟨sl,ob⟩ (opF so sl ob):=rfl
theorem P4 {d:Option Tmp} {so:SOp} {sl:List SV} {ob:List Ob}:gdF d so false sl ob (.bool false)=Fd d ⟨sl,ob⟩ (opF so sl ob):=rfl
theorem P5 {d:Option Tmp} {so:SOp} {sl:List SV} {ob:List Ob}:gdF d so true sl ob (.bool false)=some (⟨false,.tup [],[],[]⟩,⟨CZ sl d (.tup []),ob⟩):=rfl
theorem P6 {d:Option Tmp} {so:SOp} {sl:List SV} {ob:List Ob}:gdF d so false sl ob (.bool true)=some (⟨false,.tup [],[],[]⟩,⟨CZ sl d (.tup []),ob⟩):=rfl
theorem Qp {d:Option Tmp} {so:SOp} {want:Bool} {sl:List SV} {ob:List Ob}:gdF d so want sl ob (.tup [])=some (⟨false,.tup [],[],[]⟩,⟨CZ sl d (.tup []),ob⟩):=rfl
theorem P7 {d:Option Tmp} {x:SV} {rd:List Nat}:Fd d st (some (x,[],rd))=some (⟨true,x,[],rd⟩,⟨CZ st.sl d x,st.ob⟩):=rfl
theorem P8 {d:Option Tmp} {x:SV} {q:Nat × Ob} {u:List (Nat × Ob)} {rd:List Nat}:Fd d st (some (x,q :: u,rd))=bif LY (BM st.ob (q :: u)).length (q :: u) then some (⟨true,x,q :: u,rd⟩,⟨CZ st.sl d x,BM st.ob (q :: u)⟩) else none:=rfl
def Ks (ob:List Ob) (xs:List SV) (sel:List Nat) (r:Option (SV × List Ob)) (n:Nat):Option R3 :=
 match r with
 | some (r,fob')=>bif decide (n≤fob'.length) then some (Dt sel (AE sel xs) ob.length r fob') else none
 | none=>none
def P9 (hd:List Bool) (f:FuncId) (xs:List SV) (ob:List Ob) (sel:List Nat) (e:List SV→List Ob→Option (SV × List Ob)) (b:Option (List Ob)):Option R3 :=
 match b with
 | some fob=>bif D7 sel&&Fz ob.length sel&&Ec fob.length fob then Ks ob xs sel (e (Dr hd (Ab ob) sel xs) fob) fob.length else none
 | none=>none
def N1 (hd:List Bool) (f:FuncId) (xs:List SV) (ob:List Ob) (sel:List Nat) (e:List SV→List Ob→Option (SV × List Ob)):Option R3:=P9 hd f xs ob sel e (CP sel ob sel)
theorem N2 {f:FuncId} {xs:List SV} {ob:List Ob}:calls f xs ob=DQ (modes f).res (N1 (modes f).hand f xs ob (reach ob 64 (DP (modes f).hand xs) []) (E f)):=rfl
theorem PA {r:Option R3}:DQ .asis r=r:=rfl
theorem PB {r:Option R3}:DQ .frz r=r:=rfl
theorem PC {l:List (Option (Nat × Nat))} {r:Option R3}:DQ (.own l) r=r:=rfl
theorem PD {l:List (Option (Nat × Nat))} {r:Option R3}:DQ (.half l) r=r:=rfl
theorem PE {l:List (Option (Nat × Nat))} {r:Option R3}:DQ (.tr l) r=r:=rfl
theorem PF {l:List Nat} {r:Option R3}:DQ (.frl l) r=r:=rfl
theorem PG {r:R3}:DQ .late (some r)=Ke r:=rfl
theorem F4:∀ u:List (Nat × Ob),BS [] u=u
 | []=>rfl
 | (g,o) :: u=>by rw [BS,F4 u]; rfl
theorem PH {m:RM} {b:Bool} {u:List (Nat × Ob)} {rd:List Nat}:DQ m (some (.bool b,u,rd))=some (.bool b,u,rd):=by
 cases m <;> first | rfl | (show some (SV.bool b,BS [] u,rd)=_; rw [F4])
theorem PI {m:RM} {k:IntKind} {n:Int} {u:List (Nat × Ob)} {rd:List Nat}:DQ m (some (.int k n,u,rd))=some (.int k n,u,rd):=by
 cases m <;> first | rfl | (show some (SV.int k n,BS [] u,rd)=_; rw [F4])
theorem Mq {hd:List Bool} {f:FuncId} {xs:List SV} {ob:List Ob} {e:List SV→List Ob→Option (SV × List Ob)}:N1 hd f xs ob [] e=Ks ob xs [] (e (Dr hd (Ab ob) [] xs) []) 0:=rfl
theorem Ld {hd:List Bool} {f:FuncId} {xs:List SV} {ob:List Ob} {g:Nat} {r:List Nat} {e:List SV→List Ob→Option (SV × List Ob)}:N1 hd f xs ob (g :: r) e=P9 hd f xs ob (g :: r) e (CP (g :: r) ob (g :: r)):=rfl
theorem OE {ob:List Ob} {xs:List SV} {r:SV} {fob':List Ob}:Ks ob xs [] (some (r,fob')) 0=some (Dt [] (AE [] xs) ob.length r fob'):=rfl
theorem OF {ob:List Ob} {xs:List SV} {sel:List Nat} {r:SV} {fob':List Ob} {n:Nat}:Ks ob xs sel (some (r,fob')) n=bif decide (n≤fob'.length) then some (Dt sel (AE sel xs) ob.length r fob') else none:=rfl
theorem PJ {hd:List Bool} {f:FuncId} {xs:List SV} {ob:List Ob} {sel:List Nat} {fob:List Ob} {e:List SV→List Ob→Option (SV × List Ob)}:P9 hd f xs ob sel e (some fob)=bif D7 sel&&Fz ob.length sel&&Ec fob.length fob then Ks ob xs sel (e (Dr hd (Ab ob) sel xs) fob) fob.length else none:=rfl
theorem Mr {p:Nat} {r:SV}:Dt [] [] p r []=(r.ren (sgp [] p),[],[]):=rfl
def Jy {α:Type} (n0:Nat) (keep:List Nat) (H:α→St) (R:α→Prop) (μ:α→Nat) (a:α) (K:X→St→Prop):X→St→Prop
 | .normal,st'=>∃ y,R y∧μ y < μ a∧canon n0 keep st'=H y
 | .exit i,st'=>K (.exit i) st'
 | .ret,st'=>K .ret st'
theorem N3 {α:Type} {keep:List Nat} {H:α→St} {R:α→Prop} {μ:α→Nat} {a:α} {st':St}:Jy n0 keep H R μ a K .normal st'=∃ y,R y∧μ y < μ a∧canon n0 keep st'=H y:=rfl
theorem N4 {α:Type} {keep:List Nat} {H:α→St} {R:α→Prop} {μ:α→Nat} {a:α} {i:Nat} {st':St}:Jy n0 keep H R μ a K (.exit i) st'=K (.exit i) st':=rfl
theorem N5 {α:Type} {keep:List Nat} {H:α→St} {R:α→Prop} {μ:α→Nat} {a:α} {st':St}:Jy n0 keep H R μ a K .ret st'=K .ret st':=rfl
theorem go_loop {α:Type} {keep:List Nat} {b:SC} (H:α→St) (R:α→Prop) (μ:α→Nat) (a0:α) (hR:R a0) (h0:canon n0 keep st=H a0) (round:∀ a,R a→go n0 b (H a) (Jy n0 keep H R μ a K)):go n0 (.loop keep b) st K:=by
 have key:∀ (n:Nat) (a:α) (st:St),μ a≤n→R a→canon n0 keep st=H a→∃ x st',IS n0 keep (run n0 b) st=some (x,st')∧K x st':=by
  intro n
  induction n with
  | zero =>
   intro a st hn hR hc
   obtain ⟨x,st',h,k⟩:=round a hR
   cases x with
   | normal =>
    obtain ⟨y,_,h2,_⟩:=k
    omega
   | exit i=>exact ⟨_,st',by rw [EC,hc,h]; rfl,k⟩
   | ret=>exact ⟨_,st',by rw [EC,hc,h]; rfl,k⟩
  | succ n ih =>
   intro a st hn hR hc
   obtain ⟨x,st',h,k⟩:=round a hR
   cases x with
   | normal =>
    obtain ⟨y,h1,h2,h3⟩:=k
    obtain ⟨x2,st2,h4,k2⟩:=ih y st' (by omega) h1 h3
    exact ⟨x2,st2,by rw [EC,hc,h]; exact h4,k2⟩
   | exit i=>exact ⟨_,st',by rw [EC,hc,h]; rfl,k⟩
   | ret=>exact ⟨_,st',by rw [EC,hc,h]; rfl,k⟩
 exact key (μ a0) a0 st (zX _) hR h0
def Jz (n0:Nat) (keep keepO:List Nat) (H:EL→St) (F:X × St) (p:EL):X→St→Prop
 | .normal,st'=>canon n0 keep st'=H p
 | .exit i,st'=>F=(.exit i,canon n0 keepO st')
 | .ret,st'=>F=(.ret,canon n0 keepO st')
def OZ (n0:Nat) (keepO:List Nat) (F:X × St):X→St→Prop
 | .normal,_=>False
 | .exit i,st'=>F=(.exit i,canon n0 keepO st')
 | .ret,st'=>F=(.ret,canon n0 keepO st')
theorem Ms {keep keepO:List Nat} {H:EL→St} {F:X × St} {p:EL} {st':St}:Jz n0 keep keepO H F p .normal st'=(canon n0 keep st'=H p):=rfl
theorem Mt {keep keepO:List Nat} {H:EL→St} {F:X × St} {p:EL} {i:Nat} {st':St}:Jz n0 keep keepO H F p (.exit i) st'=(F=(.exit i,canon n0 keepO st')):=rfl
theorem Mu {keep keepO:List Nat} {H:EL→St} {F:X × St} {p:EL} {st':St}:Jz n0 keep keepO H F p .ret st'=(F=(.ret,canon n0 keepO st')):=rfl
theorem OG {keepO:List Nat} {F:X × St} {i:Nat} {st':St}:OZ n0 keepO F (.exit i) st'=(F=(.exit i,canon n0 keepO st')):=rfl
theorem OH {keepO:List Nat} {F:X × St} {st':St}:OZ n0 keepO F .ret st'=(F=(.ret,canon n0 keepO st')):=rfl
end
def slots:Nat→Nat→List (Nat × SV)→List SV
 | 0,_,_=>[]
 | n+1,k,[]=>.any :: slots n (k+1) []
 | n+1,k,(j,x) :: r=>bif j == k then x :: slots n (k+1) r else .any :: slots n (k+1) ((j,x) :: r)
def OI (res:RM) (n0:Nat) (rs:List RX) (out:SV × List Ob) (x:X) (st:St):Prop:=fin res n0 rs x st=some out
def PK (res:RM) (n0:Nat) (r:Option (SV × List Ob)):Option (SV × List Ob) :=
 match r with
 | some (r,ob)=>order res n0 r ob
 | none=>none
def Kt (res:RM) (n0:Nat) (ob:List Ob) (r:Option SV):Option (SV × List Ob) :=
 match r with
 | some r0=>PK res n0 (gc n0 r0 ob)
 | none=>none
theorem PL {res:RM} {n0:Nat} {rs:List RX} {out:SV × List Ob} {sl:List SV} {ob:List Ob}:OI res n0 rs out .ret ⟨sl,ob⟩=(Kt res n0 ob (Io ⟨sl,ob⟩ rs)=some out):=rfl
theorem PM {res:RM} {n0:Nat} {rs:List RX} {out:SV × List Ob} {sl:List SV} {ob:List Ob}:OI res n0 rs out .normal ⟨sl,ob⟩=(Kt res n0 ob (Io ⟨sl,ob⟩ rs)=some out):=rfl
theorem OJ {res:RM} {n0:Nat} {ob:List Ob} {r:SV}:Kt res n0 ob (some r)=PK res n0 (gc n0 r ob):=rfl
theorem PN {n0:Nat} {r:SV} {ob:List Ob} {res:RM}:PK res n0 (some (r,ob))=order res n0 r ob:=rfl
theorem Ai {f:FuncId} {fc:FC} {hand:List Bool} {res:RM} {tr:Bool} {xs:List SV} {ob:List Ob} {out:SV × List Ob} (hc:Aq Try.prog f=some fc) (hr:modes f=⟨hand,res,none,tr⟩) (hn:xs.length≤fc.nt) (h:go ob.length (Du res fc.sc) ⟨xs++FQ (fc.nt-xs.length),entry tr ob⟩ (OI res ob.length fc.rs out)):E f xs ob=some out:=by
 obtain ⟨x,st',h1,h2⟩:=h
 unfold E
 rw [OX]
 unfold Dv
 rw [hc,hr]
 simp only
 rw [decide_eq_true hn,cond_true]
 have h1:fr Try.prog (B3 modes (ev Try.prog modes)) (F2 ob.length) (Du res fc.sc) ⟨xs++FQ (fc.nt-xs.length),entry tr ob⟩=some (x,st'):=h1
 rw [h1]
 exact h2
theorem PO {f:FuncId} {g:List SV→List Ob→Option (SV × List Ob)} {xs:List SV} {ob:List Ob} (hg:(modes f).ext=some g):E f xs ob=g xs ob:=by
 unfold E
 rw [OX]
 unfold Dv
 rw [hg]
theorem LH {f:FuncId} {g:List SV→Option SV} {xs:List SV} {r:SV} (hg:(modes f).ext=some (GZ g)) (h:g xs=some r):E f xs []=some (r,[]):=by
 rw [PO hg]
 simp only [GZ,h]
theorem Br:modes 54=⟨[],.asis,some (GZ Ns),false⟩:=by unfold modes; rfl
theorem FW (s:ByteArray):E 54 [.str s] []=some (.bool (Ex s),[]):=LH (g:=Ns) (congrArg FM.ext Br) rfl
theorem Ck:modes 76=⟨[],.asis,some (GZ Nt),false⟩:=by unfold modes; rfl
theorem OK (s:ByteArray):E 76 [.str s] []=some (.bool (Ex s),[]):=LH (g:=Nt) (congrArg FM.ext Ck) rfl
theorem AI:modes 64=⟨[],.asis,some (GZ Nu),false⟩:=by unfold modes; rfl
theorem HX (s:ByteArray):E 64 [.str s] []=some (.bool (Dk s),[]):=LH (g:=Nu) (congrArg FM.ext AI) rfl
theorem AJ:modes 60=⟨[],.asis,some (GZ Nv),false⟩:=by unfold modes; rfl
theorem HY (s:ByteArray):E 60 [.str s] []=some (.bool (Dk s),[]):=LH (g:=Nv) (congrArg FM.ext AJ) rfl
abbrev Tm.sv (x:Tm):SV:=.agg [.str x.name,.arr (x.args.map Tm.d)]
mutual
def Tm.o:Tm→List OT
 | .mk name args=>[.str name,.ow (Tm.os args)]
def Tm.os:List Tm→List (List OT)
 | []=>[]
 | x :: xs=>Tm.o x :: Tm.os xs
end
theorem Tm.Pa:∀ xs:List Tm,Tm.os xs=xs.map Tm.o
 | []=>rfl
 | x :: xs=>by rw [Tm.os,Tm.Pa xs]; rfl
theorem Tm.Ha (x:Tm):Tm.o x=[.str x.name,.ow (x.args.map Tm.o)]:=by
 obtain ⟨name,args⟩:=x
 rw [Tm.o,Tm.Pa]; rfl
theorem Tm.Le:∀ xs:List Tm,(∀ x∈xs,OT.ers (Tm.o x)=Tm.d x)→OT.erss (xs.map Tm.o)=xs.map Tm.d
 | [],_=>rfl
 | x :: xs,h=>by
  simp only [zA,OT.erss]
  rw [h x (by simp),Tm.Le xs fun y hy=>h y (by simp [hy])]
theorem Tm.er (x:Tm):OT.ers (Tm.o x)=Tm.d x:=by
 have h:=Tm.Le x.args fun y hy=>Tm.er y
 rw [Tm.Ha,Tm.ED]
 simp only [OT.ers,OT.er,h]
termination_by SizeOf.sizeOf x
decreasing_by exact Tm.AU hy
theorem Tm.erss (xs:List Tm):OT.erss (xs.map Tm.o)=xs.map Tm.d:=Tm.Le xs fun x _=>Tm.er x
theorem Tm.Lf:∀ xs:List Tm,(∀ x∈xs,OT.Da (Tm.o x)=true)→OT.B7 (xs.map Tm.o)=true
 | [],_=>rfl
 | x :: xs,h=>by
  simp only [zA,OT.B7]
  rw [h x (by simp),Tm.Lf xs fun y hy=>h y (by simp [hy])]; rfl
theorem Tm.no (x:Tm):OT.Da (Tm.o x)=true:=by
 have h:=Tm.Lf x.args fun y hy=>Tm.no y
 rw [Tm.Ha]
 simp only [OT.Da,OT.noSh,h,zH,zP]
termination_by SizeOf.sizeOf x
decreasing_by exact Tm.AU hy
theorem Tm.noss (xs:List Tm):OT.B7 (xs.map Tm.o)=true:=Tm.Lf xs fun x _=>Tm.no x
abbrev Tm.osv (x:Tm):SV:=.agg [.str x.name,.ref 0]
abbrev Tm.obs (x:Tm):List Ob:=[.row 26 2 (x.args.map Tm.o)]
def Bd.o (x:Bd):List OT:=[.str x.var,.str x.term.name,.ow (x.term.args.map Tm.o)]
theorem Bd.er (x:Bd):OT.ers (Bd.o x)=Bd.d x:=by
 simp only [Bd.o,Bd.d,OT.ers,OT.er,Tm.erss]
theorem Bd.erss:∀ xs:List Bd,OT.erss (xs.map Bd.o)=xs.map Bd.d
 | []=>rfl
 | x :: xs=>by simp only [zA,OT.erss,Bd.er,Bd.erss xs]
theorem Bd.no (x:Bd):OT.Da (Bd.o x)=true:=by
 simp only [Bd.o,OT.Da,OT.noSh,Tm.noss,zH,zP]
theorem Bd.noss:∀ xs:List Bd,OT.B7 (xs.map Bd.o)=true
 | []=>rfl
 | x :: xs=>by simp only [zA,OT.B7,Bd.no,Bd.noss xs,zH]
def Sb.o (x:Sb):List OT:=[.ow (x.binds.map Bd.o)]
theorem Sb.er (x:Sb):OT.ers (Sb.o x)=Sb.d x:=by
 simp only [Sb.o,Sb.d,OT.ers,OT.er,Bd.erss]
theorem Sb.erss:∀ xs:List Sb,OT.erss (xs.map Sb.o)=xs.map Sb.d
 | []=>rfl
 | x :: xs=>by simp only [zA,OT.erss,Sb.er,Sb.erss xs]
theorem Sb.no (x:Sb):OT.Da (Sb.o x)=true:=by
 simp only [Sb.o,OT.Da,OT.noSh,Bd.noss,zH,zP]
theorem Sb.noss:∀ xs:List Sb,OT.B7 (xs.map Sb.o)=true
 | []=>rfl
 | x :: xs=>by simp only [zA,OT.B7,Sb.no,Sb.noss xs,zH]
theorem Ej {n:Int} (h1:-9223372036854775808≤n) (h2:n≤9223372036854775807):dec (inK .i64 n)=true:=BN (Oi.2 ⟨h1,h2⟩)
theorem get_at {α β:Type} (f:α→β) {xs:List α} {k:Nat} (h:k<xs.length):(xs.map f)[k]?=some (f xs[k]):=by rw [List.getElem?_map,zM h]; rfl
theorem Qq:dec True=true:=BN trivial
theorem Qr:dec False=false:=Cv fun h=>h
attribute [go_sem] pfx CK Fj OT.Bt OT.FS OT.half PD Ov Dr JV SV.isNil Ob.idsB SV.idsB SV.GH List.getElem?_cons_zero List.getElem?_cons_succ OT.Av OT.Ch OT.full entry toTree LC Ki LB CQ DO Cw MZ I5 Nj OT.erss OT.ers OT.er OT.B7 OT.Da OT.noSh quiet obB K6 Fs meets Ez go_skip O5 go_ret Pv O6 Pw Ny O7 O8 O9 Px Py Pz Ql Qm Qn OA OB Nz Mo OC N0 Mp OD P2 P3 Qo P4 P5 P6 Qp P7 P8 N2 PA PB PC PE PF PG PH PI Ke Kd BS seen Mq Ld OE OF PJ Mr Dt N3 N4 N5 PL PM OJ PN order opF fOp CF L7 Oj L5 L6 MY E5 eqK Ak gets Ab In CZ BM FI H5 Ar LY SV.cellsN SV.one Ff splice BU JG Fe FG BQ AR Ba AQ DD Eo K9 eOp.mkEs eOp.addS D.sv OT.sv D.ot DJ D7 reach SV.refs SV.IH SV.ptrs SV.II Ob.refs Ob.liveB DP CP SV.back SV.GI Ob.back DH Ep Bp AE AF Fz Ec SV.ren SV.FN Ob.ren mkU sgp gc GN names FR Om On Oo HL Nk Oq Or Ot Ou Ow Ox SC.mark IM Dd slots Io KH rxV FQ Kc SV.noSh SV.GE Ob.noSh SV.own SV.Js Dc cond_true cond_false zS List.length_nil zA zN List.drop_succ_cons zI List.drop_nil List.take_succ_cons List.take_zero List.take_nil List.append_nil List.nil_append zT List.all_cons List.all_nil List.getD_cons_zero List.getD_cons_succ z5 List.any_nil List.contains_cons List.contains_nil List.isEmpty_nil List.isEmpty_cons List.flatten_cons List.flatten_nil List.replicate_succ List.replicate_zero List.set_cons_zero List.set_cons_succ Nat.add_zero Nat.zero_add zX zL zP z6 zH Bool.or_false Bool.false_or Bool.true_or Bool.or_true Bool.not_true Bool.not_false z4 Bool.and_false decide_true decide_false beq_self_eq_true if_true if_false Option.map_some Option.map_none zK z2 Option.getD_none Int.toNat_natCast true_and and_true and_self eq_self_iff_true zY Bool.false_eq_true Bool.true_eq_false zO SV.int.injEq SV.bool.injEq SV.str.injEq SV.agg.injEq SV.tup.injEq SV.arr.injEq zV St.mk.injEq Int.zero_add Qq Qr Ej BN Cv Qe svK svD MB svM MV.sv Ls Na Nb Nc D5 St.app Kk MK.sv Ms Mt Mu OG OH
attribute [go_sem_proc] Nat.reduceAdd Nat.reduceSub Nat.reduceLT Nat.reduceLeDiff Nat.reduceEqDiff Nat.reduceBEq Nat.reduceBneDiff Nat.reduceMul Int.reduceToNat Int.reduceNeg Int.reduceAdd reduceCtorEq
attribute [go_sem_proc ↓] reduceIte
theorem LI:∀ xs:List ByteArray,OT.Av (xs.map fun s=>[OT.str s])=true
 | []=>rfl
 | x :: xs=>by simp only [zA,OT.Av,OT.Ch,OT.full,LI xs,zH]
theorem LJ:∀ xs:List Int,OT.Av (xs.map fun n=>[OT.int n])=true
 | []=>rfl
 | x :: xs=>by simp only [zA,OT.Av,OT.Ch,OT.full,LJ xs,zH]
theorem Tm.N6:∀ xs:List Tm,(∀ x∈xs,OT.Ch (Tm.o x)=true)→OT.Av (xs.map Tm.o)=true
 | [],_=>rfl
 | x :: xs,h=>by
  simp only [zA,OT.Av]
  rw [h x (by simp),Tm.N6 xs fun y hy=>h y (by simp [hy])]; rfl
theorem Tm.fu (x:Tm):OT.Ch (Tm.o x)=true:=by
 have h:=Tm.N6 x.args fun y hy=>Tm.fu y
 rw [Tm.Ha]
 simp only [OT.Ch,OT.full,h,zH,zP]
termination_by SizeOf.sizeOf x
decreasing_by exact Tm.AU hy
theorem Tm.fus (xs:List Tm):OT.Av (xs.map Tm.o)=true:=Tm.N6 xs fun x _=>Tm.fu x
theorem Bd.fu (x:Bd):OT.Ch (Bd.o x)=true:=by
 simp only [Bd.o,OT.Ch,OT.full,Tm.fus,zH,zP]
theorem Bd.fus:∀ xs:List Bd,OT.Av (xs.map Bd.o)=true
 | []=>rfl
 | x :: xs=>by simp only [zA,OT.Av,Bd.fu,Bd.fus xs,zH]
theorem Sb.fu (x:Sb):OT.Ch (Sb.o x)=true:=by
 simp only [Sb.o,OT.Ch,OT.full,Bd.fus,zH,zP]
theorem Sb.fus:∀ xs:List Sb,OT.Av (xs.map Sb.o)=true
 | []=>rfl
 | x :: xs=>by simp only [zA,OT.Av,Sb.fu,Sb.fus xs,zH]
attribute [go_sem] LI LJ Oz O0 O1 O2 Tm.fus Tm.erss Tm.noss Bd.fus Bd.erss Bd.noss Sb.fus Sb.erss Sb.noss
theorem HZ {α:Type} (a:α):dec (a=a)=true:=BN rfl
def Es {α β:Type} (f:α→β) (z:β) (xs:List α) (k:Nat):List β:=(xs.take k).map f++zD (xs.length-k) z
section
variable {α β:Type} (f:α→β) (z:β) {xs:List α} {k:Nat}
theorem Lg:Es f z xs 0=zD xs.length z:=by simp [Es]
theorem Mv:(Es f z xs k).length=xs.length:=by simp [Es]; omega
theorem Mw:Es f z xs xs.length=xs.map f:=by simp [Es]
theorem My (h:k<xs.length):(Es f z xs k)[k]?=some z:=by
 have hl:((xs.take k).map f).length=k:=by simp; omega
 unfold Es
 rw [List.getElem?_append_right (by omega),hl,Nat.sub_self,List.getElem?_replicate]
 simp; omega
theorem Mz (h:k<xs.length):(Es f z xs k).set k (f xs[k])=Es f z xs (k+1):=by
 have hl:((xs.take k).map f).length=k:=by simp; omega
 have e:List.take (k+1) xs=List.take k xs++[xs[k]]:=List.take_succ_eq_append_getElem h
 unfold Es
 rw [List.set_append_right _ _ (by omega),hl,Nat.sub_self,e,zR,List.append_assoc]
 congr 1
 rw [show xs.length-k=(xs.length-(k+1))+1 by omega,List.replicate_succ,List.set_cons_zero]
 rfl
end
theorem OL (a b:Int):(bif dec (a<b) then b else a)=max a b:=by
 by_cases h:a<b
 ·rw [BN h,cond_true,Int.max_eq_right (by omega)]
 ·rw [Cv h,cond_false,Int.max_eq_left (by omega)]
def It {α:Type} (p:α→Bool):List α→Int→Int
 | [],_=>-1
 | x :: xs,i=>if p x then i else It p xs (i+1)
theorem N7 {α:Type} (p:α→Bool):∀ (xs:List α),dec (0≤It p xs 0)=xs.any p:=by
 have key:∀ (xs:List α) (i:Int),0≤i→(0≤It p xs i ↔ xs.any p=true):=by
  intro xs
  induction xs with
  | nil=>intro i h; simp [It]
  | cons x xs ih =>
   intro i h
   simp only [It,z5,Bool.or_eq_true]
   by_cases hp:p x=true
   ·simp [hp,h]
   ·rw [if_neg hp,ih (i+1) (by omega)]; simp [hp]
 intro xs
 cases h:xs.any p with
 | true=>exact BN ((key xs 0 (by omega)).2 h)
 | false=>exact Cv fun h'=>by rw [(key xs 0 (by omega)).1 h'] at h; cases h
theorem J0 {p q:Prop} (h:p ↔ q):dec p=dec q:=by rw [propext h]
mutual
def Tm.nodes:Tm→Nat
 | .mk _ args=>1+Tm.Bb args
def Tm.Bb:List Tm→Nat
 | []=>0
 | x :: xs=>Tm.nodes x+Tm.Bb xs
end
theorem Tm.Af (x:Tm):x.nodes=1+Tm.Bb x.args:=by
 obtain ⟨name,args⟩:=x
 rw [Tm.nodes]; rfl
theorem Tm.IY (x:Tm):1≤x.nodes:=by rw [Tm.Af]; omega
theorem Tm.BD:∀ (xs:List Tm) (k:Nat) (h:k<xs.length),xs[k].nodes≤Tm.Bb xs
 | [],k,h=>absurd h (by simp)
 | x :: xs,0,_=>by rw [Tm.Bb]; simp
 | x :: xs,k+1,h=>by
  have:=Tm.BD xs k (by simpa using h)
  rw [Tm.Bb]; simp only [List.getElem_cons_succ]; omega
mutual
def Tm.deep:Tm→Nat
 | .mk _ args=>Tm.Dw args+1
def Tm.Dw:List Tm→Nat
 | []=>0
 | x :: xs=>max (Tm.deep x) (Tm.Dw xs)
end
theorem Tm.J1 (x:Tm):x.deep=Tm.Dw x.args+1:=by
 obtain ⟨name,args⟩:=x
 rw [Tm.deep]; rfl
theorem Tm.EF:∀ xs:List Tm,(∀ y∈xs,y.deep≤y.nodes)→Tm.Dw xs≤Tm.Bb xs
 | [],_=>by simp [Tm.Dw]
 | x :: xs,h=>by
  have h1:=h x (by simp)
  have h2:=Tm.EF xs fun y hy=>h y (by simp [hy])
  rw [Tm.Dw,Tm.Bb]; omega
theorem Tm.D8 (x:Tm):x.deep≤x.nodes:=by
 rw [Tm.J1,Tm.Af]
 have:=Tm.EF x.args fun y hy=>Tm.D8 y
 omega
termination_by SizeOf.sizeOf x
decreasing_by exact Tm.AU hy
mutual
def Tm.names:Tm→Bool
 | .mk name args=>if Ex name then args.length == 0 else Dk name&&decide (args.length≤4)&&Tm.DS args
def Tm.DS:List Tm→Bool
 | []=>true
 | x :: xs=>Tm.names x&&Tm.DS xs
end
theorem Tm.Ku (x:Tm):x.names=if Ex x.name then x.args.length == 0 else Dk x.name&&decide (x.args.length≤4)&&Tm.DS x.args:=by
 obtain ⟨name,args⟩:=x
 rw [Tm.names]; rfl
theorem Tm.IZ:∀ xs:List Tm,Tm.DS xs=xs.all Tm.names
 | []=>rfl
 | x :: xs=>by rw [Tm.DS,Tm.IZ xs]; rfl
theorem Tm.length_le:∀ xs:List Tm,xs.length≤Tm.Bb xs
 | []=>zX _
 | x :: xs=>by
  have:=Tm.length_le xs
  have:=Tm.IY x
  rw [Tm.Bb]; simp only [zS]; omega
theorem Tm.BH {xs:List Tm} {y:Tm} (h:y∈xs):y.nodes≤Tm.Bb xs:=by
 obtain ⟨k,hk,rfl⟩:=List.getElem_of_mem h
 exact Tm.BD xs k hk
def Tm.small (x:Tm):Bool:=decide (x.nodes≤30)&&decide (x.deep≤8)
def Tm.valid (x:Tm):Bool:=x.small&&x.names
noncomputable def Tm.eqn (x:Tm):Bool:=dec (x.name=⟨#[61]⟩)
noncomputable def Tm.atom (x:Tm):Bool:=if x.eqn then x.args.length == 2&&x.small&&Tm.DS x.args else Dk x.name&&x.valid
theorem Ja {xs:List Tm} (h:xs.length=2):Tm.DS xs=((xs[0]'(by omega)).names&&(xs[1]'(by omega)).names):=by
 match xs,h with
 | [a,b],_=>simp [Tm.DS]
mutual
def Tm.cap:Tm→Int
 | .mk _ xs=>Tm.Gy xs 1
def Tm.Gy:List Tm→Int→Int
 | [],n=>n
 | x :: xs,n=>if 30 < n then n else Tm.Gy xs (n+Tm.cap x)
end
theorem Tm.N8 (x:Tm):x.cap=Tm.Gy x.args 1:=by
 obtain ⟨n,xs⟩:=x
 rw [Tm.cap]; rfl
theorem Tm.Jb:∀ (xs:List Tm) (n:Int),(∀ x∈xs,1≤x.cap∧x.cap≤x.nodes∧(x.cap≤30→x.cap=x.nodes))→1≤n→n≤Tm.Gy xs n∧Tm.Gy xs n≤n+Tm.Bb xs∧(Tm.Gy xs n≤30→Tm.Gy xs n=n+Tm.Bb xs)
 | [],n,_,h=>by simp [Tm.Gy,Tm.Bb]
 | x :: xs,n,hx,h=>by
  rw [Tm.Gy,Tm.Bb]
  have h1:=hx x (by simp)
  split
  ·omega
  ·have:=Tm.Jb xs (n+x.cap) (fun y hy=>hx y (by simp [hy])) (by omega)
   omega
theorem Tm.EG (x:Tm):1≤x.cap∧x.cap≤x.nodes∧(x.cap≤30→x.cap=x.nodes):=by
 rw [Tm.N8,Tm.Af]
 have:=Tm.Jb x.args 1 (fun y hy=>Tm.EG y) (by omega)
 omega
termination_by SizeOf.sizeOf x
decreasing_by exact Tm.AU hy
mutual
def Tm.many:Tm→Int→Int
 | .mk _ xs,m=>Tm.DT xs m 1
def Tm.DT:List Tm→Int→Int→Int
 | [],_,n=>n
 | x :: xs,m,n=>if n≤m then Tm.DT xs m (n+Tm.many x (m-n)) else n
end
theorem Tm.LK (x:Tm) (m:Int):x.many m=Tm.DT x.args m 1:=by
 obtain ⟨n,xs⟩:=x
 rw [Tm.many]; rfl
theorem Tm.Ia (m:Int):∀ (xs:List Tm) (n:Int),(∀ x∈xs,∀ m,0≤m→1≤x.many m∧x.many m≤x.nodes∧(x.many m≤m→x.many m=x.nodes))→1≤n→n≤Tm.DT xs m n∧Tm.DT xs m n≤n+Tm.Bb xs∧(Tm.DT xs m n≤m→Tm.DT xs m n=n+Tm.Bb xs)
 | [],n,_,h=>by simp [Tm.DT,Tm.Bb]
 | x :: xs,n,hx,h=>by
  rw [Tm.DT,Tm.Bb]
  split
  ·have h1:=hx x (by simp) (m-n) (by omega)
   have:=Tm.Ia m xs (n+x.many (m-n)) (fun y hy=>hx y (by simp [hy])) (by omega)
   omega
  ·omega
theorem Tm.Fb (x:Tm) (m:Int):1≤x.many m∧x.many m≤x.nodes∧(x.many m≤m→x.many m=x.nodes):=by
 rw [Tm.LK,Tm.Af]
 have:=Tm.Ia m x.args 1 (fun y hy m _=>Tm.Fb y m) (by omega)
 omega
termination_by SizeOf.sizeOf x
decreasing_by exact Tm.AU hy
def C4:SC:=(.seq (.reg [⟨some 2,none,.mv (.c .nil)⟩]) (.seq (.seq (.reg [⟨some 6,none,.mv (.t 0)⟩,⟨some 7,none,.len false (.t 6)⟩,⟨some 8,none,.bin .eql false (.t 7) (.c (.int .i64 0))⟩]) (.cond (.t 8) (.seq (.reg [⟨some 2,none,.mv (.c .nil)⟩]) .ret) .skip)) (.seq (.reg [⟨some 9,none,.mv (.t 0)⟩,⟨some 10,none,.len false (.t 9)⟩,⟨(some 11),none,(.mkslice 26 2 40 [(.str ⟨#[]⟩),.nil] (.t 10))⟩,⟨some 3,none,.mv (.t 11)⟩]) (.seq (.seq (.reg [⟨some 12,none,.mv (.t 0)⟩,⟨some 13,none,.len false (.t 12)⟩,⟨some 14,none,.mv (.c (.int .i64 0))⟩]) (.block 0 (.loop [0,0,0,1,0,0,0,0,0,0,0,0,1,1,1,0,0,0,0,0,0,0,0,0,0,0] (.seq (.reg [⟨some 15,none,.bin .lss false (.t 14) (.t 13)⟩]) (.seq (.cond (.t 15) .skip (.exit 0)) (.seq (.block 1 (.seq (.reg [⟨some 16,none,.mv (.t 14)⟩,⟨some 17,none,.iaddr 2 (.t 12) (.t 14)⟩,⟨some 18,none,.load true 2 (.t 17)⟩,⟨(some 5),none,(.alloc 26 [(.str ⟨#[]⟩),.nil])⟩,⟨some 4,none,.mv (.t 16)⟩,⟨none,none,(.store 2 (.t 5) (.t 18))⟩]) (.reg [⟨some 19,none,.mv (.t 3)⟩,⟨some 20,none,.mv (.t 4)⟩,⟨some 21,none,.load true 2 (.t 5)⟩,⟨some 22,none,.call 35 [(.t 21)]⟩,⟨some 23,none,.iaddr 2 (.t 19) (.t 20)⟩,⟨none,none,(.store 2 (.t 23) (.t 22))⟩]))) (.reg [⟨some 24,none,.bin .add false (.t 14) (.c (.int .i64 1))⟩,⟨some 14,none,.mv (.t 24)⟩]))))))) (.seq (.reg [⟨some 25,none,.mv (.t 3)⟩,⟨some 2,none,.mv (.t 25)⟩]) .ret)))))
theorem DU:Aq Try.prog 62=some ⟨26,C4,[(.tmp 2)]⟩:=by kernel_rfl
theorem C5:modes 62=⟨[],.own [some (26,2)],none,false⟩:=by unfold modes; rfl
def Et:SC:=(.seq (.reg [⟨some 1,none,.boxv 26 2 (.t 0)⟩,⟨(some 2),none,(.alloc 26 [(.str ⟨#[]⟩),.nil])⟩]) (.seq (.dreg [[],[0],[],[2],[3,2],[1,0,4,3,2],[5,1,0,4,3,2]] [⟨some 3,none,.faddr 0 (.t 1)⟩,⟨some 4,none,.load false 1 (.t 3)⟩,⟨some 5,none,.faddr 1 (.t 1)⟩,⟨some 6,none,.load false 1 (.t 5)⟩,⟨some 7,none,.call 62 [(.t 6)]⟩,⟨(some 8),none,(.build [(.str ⟨#[]⟩),.nil] [(0,(1,(.t 4))),(1,(1,(.t 7)))])⟩,⟨none,none,(.store 2 (.t 2) (.t 8))⟩]) .ret))
theorem Hd:Aq Try.prog 35=some ⟨9,Et,[(.cell 2 true 2)]⟩:=by kernel_rfl
theorem BE:modes 35=⟨[],.asis,none,false⟩:=by unfold modes; rfl
theorem J2:modes 41=⟨[],.own [none,some (26,2)],none,false⟩:=by unfold modes; rfl
theorem J3 (xs:List Tm) (hl:xs.length≤1099511627776) (h:∀ x∈xs,E 35 [x.sv] []=some (x.osv,x.obs)):E 62 [.arr (xs.map Tm.d)] []=some (.ref 0,[.row 26 2 (xs.map Tm.o)]):=by
 cases xs with
 | nil =>
  refine Ai DU C5 (of_decide_eq_true rfl) ?_
  simp (disch:=omega) only [C4,go_sem,Aa]
 | cons x0 xs0 =>
 generalize hxs:x0 :: xs0=xs at *
 have hpos:0<xs.length:=by rw [←hxs]; simp
 refine Ai DU C5 (of_decide_eq_true rfl) ?_
 simp (disch:=omega) only [C4,go_sem,Aa]
 refine go_loop (α:=Int) (fun a=>⟨slots 26 0 [(3,.ref 0),(12,.arr (xs.map Tm.d)),(13,.int .i64 xs.length),(14,.int .i64 a)],[.row 26 2 (Es Tm.o [.str ⟨#[]⟩,.ow []] xs a.toNat)]⟩) (fun a=>∃ k:Nat,a=k∧k≤(xs).length) (fun a=>(xs).length-(a).toNat) 0 ⟨0,rfl,zL _⟩ (by simp (disch:=omega) only [go_sem,Aa,Lg,Int.toNat_zero]) ?_
 rintro i ⟨k,hi,hk⟩
 have hni:i.toNat=k:=by omega
 have hni1:(i+1).toNat=k+1:=by omega
 rcases zF k (xs).length with hlt | hge
 ·have hg:=get_at Tm.d hlt
  rw [Tm.ED] at hg
  have hz:=My Tm.o [.str ⟨#[]⟩,.ow []] hlt
  have hc:=h xs[k] (zE hlt)
  have hs:=Mz Tm.o [.str ⟨#[]⟩,.ow []] hlt
  rw [Tm.Ha] at hs
  simp (disch:=omega) only [go_sem,Aa,hni,hg,hc,hz,Mv,BE,Tm.osv,Tm.obs]
  refine ⟨i+1,⟨k+1,by omega,hlt⟩,by omega,?_⟩
  simp (disch:=omega) only [go_sem,Aa,hni1,hs]
 ·obtain rfl:k=xs.length:=by omega
  simp (disch:=omega) only [go_sem,Aa,hni,Mw]
theorem Kv (x:Tm) (h:E 62 [.arr (x.args.map Tm.d)] []=some (.ref 0,[.row 26 2 (x.args.map Tm.o)])):E 35 [x.sv] []=some (x.osv,x.obs):=by
 refine Ai Hd BE (of_decide_eq_true rfl) ?_
 simp (disch:=omega) only [Et,go_sem,Aa,h,C5]
theorem Ek (x:Tm) (hn:x.nodes≤1099511627776):E 35 [x.sv] []=some (x.osv,x.obs) :=
 Kv x (J3 x.args (by have:=Tm.Af x; have:=Tm.length_le x.args; omega) fun y hy=>Ek y (by have:=Tm.BH hy; have:=Tm.Af x; omega))
termination_by SizeOf.sizeOf x
decreasing_by exact Tm.AU hy
def PP (res:RM) (n0:Nat) (rs:List RX) (Q:SV × List Ob→Prop) (x:X) (st:St):Prop:=∃ out,OI res n0 rs out x st∧Q out
theorem exq {α:Type} {a:α} {Q:α→Prop}:(∃ out,some a=some out∧Q out)=Q a:=propext ⟨fun ⟨o,h,q⟩=>by obtain rfl:=zJ h; exact q,fun q=>⟨a,rfl,q⟩⟩
theorem PQ {res:RM} {n0:Nat} {rs:List RX} {Q:SV × List Ob→Prop} {sl:List SV} {ob:List Ob}:PP res n0 rs Q .ret ⟨sl,ob⟩=∃ out,Kt res n0 ob (Io ⟨sl,ob⟩ rs)=some out∧Q out:=rfl
theorem PR {res:RM} {n0:Nat} {rs:List RX} {Q:SV × List Ob→Prop} {sl:List SV} {ob:List Ob}:PP res n0 rs Q .normal ⟨sl,ob⟩=∃ out,Kt res n0 ob (Io ⟨sl,ob⟩ rs)=some out∧Q out:=rfl
theorem AM {f:FuncId} {fc:FC} {hand:List Bool} {res:RM} {tr:Bool} {xs:List SV} {ob:List Ob} {Q:SV × List Ob→Prop} (hc:Aq Try.prog f=some fc) (hr:modes f=⟨hand,res,none,tr⟩) (hn:xs.length≤fc.nt) (h:go ob.length (Du res fc.sc) ⟨xs++FQ (fc.nt-xs.length),entry tr ob⟩ (PP res ob.length fc.rs Q)):∃ out,E f xs ob=some out∧Q out:=by
 obtain ⟨x,st',h1,out,h2,h3⟩:=h
 exact ⟨out,Ai hc hr hn ⟨x,st',h1,h2⟩,h3⟩
attribute [go_sem] PQ PR exq
def Tm.osh (x:Tm):List OT:=[.str x.name,.sh (x.args.map Tm.d)]
theorem Tm.Ib (x:Tm):x.osh=[.str x.name,.sh (x.args.map Tm.d)]:=rfl
theorem Tm.Ic:∀ xs:List Tm,OT.Av (xs.map Tm.osh)=true
 | []=>rfl
 | x :: xs=>by rw [zA,Tm.Ib]; simp [OT.Av,OT.Ch,OT.full,Tm.Ic xs]
theorem Tm.J4:∀ xs:List Tm,OT.erss (xs.map Tm.osh)=xs.map Tm.d
 | []=>rfl
 | x :: xs=>by rw [zA,zA,Tm.Ib,Tm.ED]; simp [OT.erss,OT.ers,OT.er,Tm.J4 xs]
def Cm:SC:=(.seq (.reg [⟨some 2,none,.mv (.c (.int .i64 0))⟩]) (.seq (.reg [⟨some 3,none,.mv (.c (.int .i64 0))⟩]) (.seq (.seq (.dreg [[],[0],[1,0],[2,1,0],[],[4],[5,4],[6,5,4],[7,6,5,4],[3,2,1,0,8,7,6,5,4]] [⟨some 4,none,.mv (.t 0)⟩,⟨some 5,none,.nilchk (.t 4)⟩,⟨some 6,none,.faddr 1 (.t 5)⟩,⟨some 7,none,.load false 1 (.t 6)⟩,⟨some 8,none,.mv (.t 0)⟩,⟨some 9,none,.nilchk (.t 8)⟩,⟨some 10,none,.faddr 0 (.t 9)⟩,⟨some 11,none,.load false 1 (.t 10)⟩,⟨some 12,none,.len false (.t 11)⟩,⟨some 13,none,.bin .lss false (.t 7) (.t 12)⟩]) (.cond (.t 13) (.dreg [[],[0],[1,0],[2,1,0],[],[4],[5,4],[6,5,4],[3,2,1,0,7,6,5,4],[8,3,2,1,0,7,6,5,4],[9,8,3,2,1,0,7,6,5,4],[10,9,8,3,2,1,0,7,6,5,4]] [⟨some 14,none,.mv (.t 0)⟩,⟨some 15,none,.nilchk (.t 14)⟩,⟨some 16,none,.faddr 0 (.t 15)⟩,⟨some 17,none,.load false 1 (.t 16)⟩,⟨some 18,none,.mv (.t 0)⟩,⟨some 19,none,.nilchk (.t 18)⟩,⟨some 20,none,.faddr 1 (.t 19)⟩,⟨some 21,none,.load false 1 (.t 20)⟩,⟨some 22,none,.iaddr 1 (.t 17) (.t 21)⟩,⟨some 23,none,.load false 1 (.t 22)⟩,⟨some 24,none,.conv .i64 (.t 23)⟩,⟨some 3,none,.mv (.t 24)⟩]) .skip)) (.seq (.reg [⟨some 25,none,.mv (.t 0)⟩,⟨some 26,none,.nilchk (.t 25)⟩,⟨some 27,none,.faddr 1 (.t 26)⟩,⟨some 28,none,.load false 1 (.t 27)⟩,⟨some 29,none,.bin .add false (.t 28) (.c (.int .i64 1))⟩,⟨some 30,none,.nilchk (.t 25)⟩,⟨some 31,none,.faddr 1 (.t 30)⟩,⟨none,none,(.store 1 (.t 31) (.t 29))⟩]) (.seq (.reg [⟨some 32,none,.mv (.t 0)⟩,⟨some 33,none,.mv (.t 0)⟩,⟨some 34,none,.nilchk (.t 33)⟩,⟨some 35,none,.faddr 2 (.t 34)⟩,⟨some 36,none,.load false 1 (.t 35)⟩,⟨some 37,none,.bin .mul false (.t 36) (.c (.int .u64 6364136223846793005))⟩,⟨some 38,none,.mv (.t 3)⟩,⟨some 39,none,.conv .u64 (.t 38)⟩,⟨some 40,none,.bin .add false (.t 37) (.t 39)⟩,⟨some 41,none,.bin .add false (.t 40) (.c (.int .u64 892892))⟩,⟨some 42,none,.nilchk (.t 32)⟩,⟨some 43,none,.faddr 2 (.t 42)⟩,⟨none,none,(.store 1 (.t 43) (.t 41))⟩]) (.seq (.seq (.dreg [[],[0],[1,0],[2,1,0],[],[4],[5,4],[6,5,4],[7,6,5,4],[3,2,1,0,8,7,6,5,4]] [⟨some 44,none,.mv (.t 0)⟩,⟨some 45,none,.nilchk (.t 44)⟩,⟨some 46,none,.faddr 1 (.t 45)⟩,⟨some 47,none,.load false 1 (.t 46)⟩,⟨some 48,none,.mv (.t 0)⟩,⟨some 49,none,.nilchk (.t 48)⟩,⟨some 50,none,.faddr 0 (.t 49)⟩,⟨some 51,none,.load false 1 (.t 50)⟩,⟨some 52,none,.len false (.t 51)⟩,⟨some 53,none,.bin .leq false (.t 47) (.t 52)⟩]) (.cond (.t 53) (.seq (.reg [⟨some 54,none,.mv (.t 3)⟩,⟨some 2,none,.mv (.t 54)⟩]) .ret) .skip)) (.seq (.reg [⟨some 55,none,.mv (.t 0)⟩,⟨some 56,none,.nilchk (.t 55)⟩,⟨some 57,none,.faddr 2 (.t 56)⟩,⟨some 58,none,.load false 1 (.t 57)⟩,⟨some 59,none,.bin .shr false (.t 58) (.c (.int .u64 40))⟩,⟨some 60,none,.bin .and false (.t 59) (.c (.int .u64 255))⟩,⟨some 61,none,.conv .i64 (.t 60)⟩,⟨some 2,none,.mv (.t 61)⟩]) .ret)))))))
theorem Dx:Aq Try.prog 69=some ⟨62,Cm,[(.tmp 2)]⟩:=by kernel_rfl
theorem Cn:modes 69=⟨[],.asis,none,false⟩:=by unfold modes; rfl
def Co:SC:=(.seq (.reg [⟨some 4,none,.mv (.c (.int .i64 0))⟩]) (.seq (.seq (.reg [⟨some 6,none,.mv (.t 1)⟩,⟨some 7,none,.bin .leq false (.t 6) (.c (.int .i64 1))⟩]) (.cond (.t 7) (.seq (.reg [⟨some 4,none,.mv (.c (.int .i64 0))⟩]) .ret) .skip)) (.seq (.reg [⟨some 8,none,.mv (.t 0)⟩,⟨some 9,none,.call 69 [(.t 8)]⟩,⟨some 5,none,.mv (.t 9)⟩]) (.seq (.seq (.reg [⟨some 10,none,.mv (.t 1)⟩,⟨some 11,none,.bin .gtr false (.t 10) (.c (.int .i64 200))⟩]) (.cond (.t 11) (.reg [⟨some 12,none,.mv (.t 5)⟩,⟨some 13,none,.bin .mul false (.t 12) (.c (.int .i64 256))⟩,⟨some 14,none,.mv (.t 0)⟩,⟨some 15,none,.call 69 [(.t 14)]⟩,⟨some 16,none,.bin .add false (.t 13) (.t 15)⟩,⟨some 5,none,.mv (.t 16)⟩]) .skip)) (.seq (.reg [⟨some 17,none,.mv (.t 5)⟩,⟨some 18,none,.mv (.t 1)⟩,⟨some 19,none,.bin .rem false (.t 17) (.t 18)⟩,⟨some 4,none,.mv (.t 19)⟩]) .ret)))))
theorem Dy:Aq Try.prog 40=some ⟨20,Co,[(.tmp 4)]⟩:=by kernel_rfl
theorem Aj:modes 40=⟨[],.asis,none,false⟩:=by unfold modes; rfl
def DV:SC:=(.seq (.reg [⟨some 4,none,.mv (.c (.bool false))⟩]) (.seq (.reg [⟨some 5,none,.mv (.t 0)⟩,⟨some 6,none,.mv (.t 1)⟩,⟨some 7,none,.call 40 [(.t 5),(.t 6)]⟩,⟨some 8,none,.bin .eql false (.t 7) (.c (.int .i64 0))⟩,⟨some 4,none,.mv (.t 8)⟩]) .ret))
theorem Gz:Aq Try.prog 45=some ⟨9,DV,[(.tmp 4)]⟩:=by kernel_rfl
theorem A4:modes 45=⟨[],.asis,none,false⟩:=by unfold modes; rfl
def Eu:SC:=(.seq (.reg [⟨(some 4),none,(.mv (.c (.str ⟨#[]⟩)))⟩]) (.seq (.reg [⟨some 5,none,.mv (.t 1)⟩,⟨some 6,none,.mv (.t 0)⟩,⟨some 7,none,.mv (.t 1)⟩,⟨some 8,none,.len false (.t 7)⟩,⟨some 9,none,.call 40 [(.t 6),(.t 8)]⟩,⟨some 10,none,.iaddr 1 (.t 5) (.t 9)⟩,⟨some 11,none,.load false 1 (.t 10)⟩,⟨some 4,none,.mv (.t 11)⟩]) .ret))
theorem He:Aq Try.prog 86=some ⟨12,Eu,[(.tmp 4)]⟩:=by kernel_rfl
theorem Au:modes 86=⟨[],.asis,none,false⟩:=by unfold modes; rfl
theorem Qv {α:Type} {a:α} {Q:α→Prop}:(∃ out,a=out∧Q out)=Q a:=propext ⟨fun ⟨o,h,q⟩=>by subst h; exact q,fun q=>⟨a,rfl,q⟩⟩
attribute [go_sem] Qv
abbrev by_ (b:Int):List D:=[D.byte b]
def Bytes (l:List Int):Prop:=∀ b∈l,0≤b∧b≤255
abbrev cur (l:List Int) (p s:Int):Ob:=.box 60 [.arr (l.map by_),.int .i64 p,.int .u64 s]
theorem PS (a:Int):0≤bits .and .u64 a 255∧bits .and .u64 a 255≤255:=by
 have h:(BitVec.ofInt 64 a &&& BitVec.ofInt 64 255).toNat≤255:=by
  rw [BitVec.toNat_and]
  exact Nat.and_le_right
 have e:bits .and .u64 a 255=(((BitVec.ofInt 64 a &&& BitVec.ofInt 64 255).toNat:Nat):Int):=by
  show IntKind.u64.wrap _=_
  refine JI ⟨?_,?_⟩
  ·show (0:Int)≤_; omega
  ·show _≤(18446744073709551615:Int)
   have:(BitVec.ofInt 64 a &&& BitVec.ofInt 64 255).toNat≤255:=h
   show (((BitVec.ofInt 64 a &&& BitVec.ofInt 64 255).toNat:Nat):Int)≤_
   omega
 rw [e]
 omega
theorem PT (l:List Int) (hl:Bytes l) (hn:l.length≤1099511627776) (p s:Int) (hp0:0≤p) (hp:p≤1099511627776):∃ v s',E 69 [.ptr 0 0] [cur l p s]=some (.int .i64 v,[cur l (p+1) s'])∧0≤v∧v≤255:=by
 obtain ⟨Q,hQ⟩:∃ Q:SV × List Ob→Prop,Q=fun out=>∃ v s',out=(.int .i64 v,[cur l (p+1) s'])∧0≤v∧v≤255:=⟨_,rfl⟩
 suffices h:∃ out,E 69 [.ptr 0 0] [cur l p s]=some out∧Q out by
  obtain ⟨out,h1,h2⟩:=h
  rw [hQ] at h2
  obtain ⟨v,s',rfl,h3⟩:=h2
  exact ⟨v,s',h1,h3⟩
 by_cases hlt:p<l.length
 ·have hg:=get_at by_ (show p.toNat<l.length by omega)
  have hb:=hl _ (zE (show p.toNat<l.length by omega))
  have hi:dec (inK .i64 l[p.toNat])=true:=Ej (by omega) (by omega)
  have h1:(p<(l.length:Int))=True:=eq_true (by omega)
  have h2:(p+1≤(l.length:Int))=True:=eq_true (by omega)
  refine AM Dx Cn (of_decide_eq_true rfl) ?_
  simp (disch:=omega) only [Cm,go_sem,Aa,hg,hi,h1,h2]
  rw [hQ]
  exact ⟨_,_,rfl,hb⟩
 ·have h1:(p<(l.length:Int))=False:=eq_false (by omega)
  have h2:(p+1≤(l.length:Int))=False:=eq_false (by omega)
  have hb:=fun a=>PS a
  have hi:∀ a,dec (inK .i64 (bits .and .u64 a 255))=true:=fun a=>Ej (by have:=hb a; omega) (by have:=hb a; omega)
  refine AM Dx Cn (of_decide_eq_true rfl) ?_
  simp (disch:=omega) only [Cm,go_sem,Aa,hi,h1,h2]
  rw [hQ]
  exact ⟨_,_,rfl,hb _⟩
theorem G0 (l:List Int) (hl:Bytes l) (hn:l.length≤1099511627776) (n:Int) (h1:1≤n) (h2:n≤200) (p s:Int) (hp0:0≤p) (hp:p≤1099511627776):∃ v p' s',E 40 [.ptr 0 0,.int .i64 n] [cur l p s]=some (.int .i64 v,[cur l p' s'])∧(0≤v∧v<n)∧p≤p'∧p'≤p+1:=by
 by_cases hn1:n≤1
 ·refine ⟨0,p,s,?_,by omega,by omega,by omega⟩
  have q1:(n≤1)=True:=eq_true hn1
  refine Ai Dy Aj (of_decide_eq_true rfl) ?_
  simp (disch:=omega) only [Co,go_sem,Aa,q1]
 ·obtain ⟨v,s',hv,hv1,hv2⟩:=PT l hl hn p s hp0 hp
  have hm1:=Int.emod_nonneg v (show n≠0 by omega)
  have hm2:=Int.emod_lt_of_pos v (show 0<n by omega)
  have hm3:v.tmod n=v % n:=Int.tmod_eq_emod_of_nonneg hv1
  refine ⟨v.tmod n,p+1,s',?_,by omega,by omega,by omega⟩
  have q1:(n≤1)=False:=eq_false hn1
  have q2:(200<n)=False:=eq_false (by omega)
  have q3:(n=0)=False:=eq_false (by omega)
  refine Ai Dy Aj (of_decide_eq_true rfl) ?_
  simp (disch:=omega) only [Co,go_sem,Aa,q1,q2,q3,hv,Cn]
theorem Jc (l:List Int) (hl:Bytes l) (hn:l.length≤1099511627776) (n:Int) (h1:1≤n) (h2:n≤200) (p s:Int) (hp0:0≤p) (hp:p≤1099511627776):∃ b p' s',E 45 [.ptr 0 0,.int .i64 n] [cur l p s]=some (.bool b,[cur l p' s'])∧p≤p'∧p'≤p+1:=by
 obtain ⟨v,p',s',hv,_,h3,h4⟩:=G0 l hl hn n h1 h2 p s hp0 hp
 refine ⟨dec (v=0),p',s',?_,h3,h4⟩
 refine Ai Gz A4 (of_decide_eq_true rfl) ?_
 simp (disch:=omega) only [DV,go_sem,Aa,hv,Aj]
theorem OM (l:List Int) (hl:Bytes l) (hn:l.length≤1099511627776) (xs:List ByteArray) (h1:1≤xs.length) (h2:xs.length≤200) (p s:Int) (hp0:0≤p) (hp:p≤1099511627776):∃ x p' s',E 86 [.ptr 0 0,.arr (xs.map fun s=>[D.str s])] [cur l p s]=some (.str x,[cur l p' s'])∧x∈xs∧p≤p'∧p'≤p+1:=by
 obtain ⟨v,p',s',hv,⟨hv0,hv1⟩,h3,h4⟩:=G0 l hl hn xs.length (by omega) (by omega) p s hp0 hp
 have hg:=get_at (fun s=>[D.str s]) (show v.toNat<xs.length by omega)
 refine ⟨xs[v.toNat],p',s',?_,zE _,h3,h4⟩
 refine Ai He Au (of_decide_eq_true rfl) ?_
 simp (disch:=omega) only [Eu,go_sem,Aa,hv,hg,Aj]
def AX:SC:=(.seq (.reg [⟨(some 4),none,(.alloc 26 [(.str ⟨#[]⟩),.nil])⟩]) (.seq (.seq (.reg [⟨some 5,none,.mv (.t 1)⟩,⟨some 6,none,.bin .leq false (.t 5) (.c (.int .i64 1))⟩,⟨some 7,none,.mv (.t 6)⟩,⟨(some 8),(some (7,false)),(.mv (.t 0))⟩,⟨(some 9),(some (7,false)),(.call 45 [(.t 8),(.c (.int .i64 3))])⟩,⟨some 10,none,.pick (.t 7) (.c (.bool true)) (.t 9)⟩]) (.cond (.t 10) (.seq (.reg [⟨some 11,none,.mv (.t 0)⟩,⟨(some 12),none,(.mkrow 9 1 [(.str ⟨#[]⟩)] 7 [(0,(.c (.str ⟨#[88]⟩))),(1,(.c (.str ⟨#[89]⟩))),(2,(.c (.str ⟨#[90]⟩))),(3,(.c (.str ⟨#[97]⟩))),(4,(.c (.str ⟨#[98]⟩))),(5,(.c (.str ⟨#[88]⟩))),(6,(.c (.str ⟨#[97]⟩)))])⟩,⟨some 13,none,.call 86 [(.t 11),(.t 12)]⟩,⟨(some 14),none,(.build [(.str ⟨#[]⟩),.nil] [(0,(1,(.t 13)))])⟩,⟨none,none,(.store 2 (.t 4) (.t 14))⟩]) .ret) .skip)) (.seq (.seq (.reg [⟨some 15,none,.mv (.t 0)⟩,⟨some 16,none,.call 45 [(.t 15),(.c (.int .i64 2))]⟩]) (.cond (.t 16) (.seq (.reg [⟨some 17,none,.mv (.t 0)⟩,⟨some 18,none,.mv (.t 1)⟩,⟨some 19,none,.bin .sub false (.t 18) (.c (.int .i64 1))⟩,⟨some 20,none,.call 70 [(.t 17),(.t 19)]⟩,⟨(some 21),none,(.mkrow 26 2 [(.str ⟨#[]⟩),.nil] 1 [(0,(.t 20))])⟩,⟨(some 22),none,(.build [(.str ⟨#[]⟩),.nil] [(0,(1,(.c (.str ⟨#[102]⟩)))),(1,(1,(.t 21)))])⟩,⟨none,none,(.store 2 (.t 4) (.t 22))⟩]) .ret) .skip)) (.seq (.reg [⟨some 23,none,.mv (.t 0)⟩,⟨some 24,none,.mv (.t 1)⟩,⟨some 25,none,.bin .sub false (.t 24) (.c (.int .i64 1))⟩,⟨some 26,none,.call 70 [(.t 23),(.t 25)]⟩,⟨some 27,none,.mv (.t 0)⟩,⟨some 28,none,.mv (.t 1)⟩,⟨some 29,none,.bin .sub false (.t 28) (.c (.int .i64 1))⟩,⟨some 30,none,.call 70 [(.t 27),(.t 29)]⟩,⟨(some 31),none,(.mkrow 26 2 [(.str ⟨#[]⟩),.nil] 2 [(0,(.t 26)),(1,(.t 30))])⟩,⟨(some 32),none,(.build [(.str ⟨#[]⟩),.nil] [(0,(1,(.c (.str ⟨#[103]⟩)))),(1,(1,(.t 31)))])⟩,⟨none,none,(.store 2 (.t 4) (.t 32))⟩]) .ret))))
theorem Bl:Aq Try.prog 70=some ⟨33,AX,[(.cell 4 true 2)]⟩:=by kernel_rfl
theorem An:modes 70=⟨[],.half [none,some (26,2)],none,false⟩:=by unfold modes; rfl
def Dz:SC:=(.seq (.reg [⟨(some 2),none,(.alloc 26 [(.str ⟨#[]⟩),.nil])⟩]) (.seq (.reg [⟨some 3,none,.mv (.t 0)⟩,⟨some 4,none,.mv (.t 0)⟩,⟨some 5,none,.call 40 [(.t 4),(.c (.int .i64 3))]⟩,⟨some 6,none,.bin .add false (.c (.int .i64 1)) (.t 5)⟩,⟨some 7,none,.call 70 [(.t 3),(.t 6)]⟩,⟨none,none,(.store 2 (.t 2) (.t 7))⟩]) .ret))
theorem FX:Aq Try.prog 42=some ⟨8,Dz,[(.cell 2 true 2)]⟩:=by kernel_rfl
theorem Al:modes 42=⟨[],.half [none,some (26,2)],none,false⟩:=by unfold modes; rfl
def AT:SC:=(.seq (.reg [⟨(some 2),none,(.alloc 26 [(.str ⟨#[]⟩),.nil])⟩]) (.seq (.seq (.reg [⟨some 3,none,.mv (.t 0)⟩,⟨some 4,none,.call 40 [(.t 3),(.c (.int .i64 8))]⟩]) (.block 0 (.seq (.seq (.reg [⟨some 6,none,.bin .eql false (.t 4) (.c (.int .i64 0))⟩,⟨some 5,none,.mv (.t 6)⟩]) (.cond (.t 5) .skip (.reg [⟨some 7,none,.bin .eql false (.t 4) (.c (.int .i64 1))⟩,⟨some 5,none,.mv (.t 7)⟩]))) (.cond (.t 5) (.seq (.reg [⟨some 8,none,.mv (.t 0)⟩,⟨some 9,none,.call 42 [(.t 8)]⟩,⟨some 10,none,.mv (.t 0)⟩,⟨some 11,none,.call 42 [(.t 10)]⟩,⟨(some 12),none,(.mkrow 26 2 [(.str ⟨#[]⟩),.nil] 2 [(0,(.t 9)),(1,(.t 11))])⟩,⟨(some 13),none,(.build [(.str ⟨#[]⟩),.nil] [(0,(1,(.c (.str ⟨#[61]⟩)))),(1,(1,(.t 12)))])⟩,⟨none,none,(.store 2 (.t 2) (.t 13))⟩]) .ret) (.seq (.reg [⟨some 15,none,.bin .eql false (.t 4) (.c (.int .i64 2))⟩,⟨some 14,none,.mv (.t 15)⟩]) (.cond (.t 14) (.seq (.reg [⟨(some 16),none,(.build [(.str ⟨#[]⟩),.nil] [(0,(1,(.c (.str ⟨#[114]⟩))))])⟩,⟨none,none,(.store 2 (.t 2) (.t 16))⟩]) .ret) (.seq (.seq (.reg [⟨some 18,none,.bin .eql false (.t 4) (.c (.int .i64 3))⟩,⟨some 17,none,.mv (.t 18)⟩]) (.cond (.t 17) .skip (.reg [⟨some 19,none,.bin .eql false (.t 4) (.c (.int .i64 4))⟩,⟨some 17,none,.mv (.t 19)⟩]))) (.cond (.t 17) (.seq (.reg [⟨some 20,none,.mv (.t 0)⟩,⟨some 21,none,.call 70 [(.t 20),(.c (.int .i64 2))]⟩,⟨some 22,none,.mv (.t 0)⟩,⟨some 23,none,.call 70 [(.t 22),(.c (.int .i64 2))]⟩,⟨(some 24),none,(.mkrow 26 2 [(.str ⟨#[]⟩),.nil] 2 [(0,(.t 21)),(1,(.t 23))])⟩,⟨(some 25),none,(.build [(.str ⟨#[]⟩),.nil] [(0,(1,(.c (.str ⟨#[113]⟩)))),(1,(1,(.t 24)))])⟩,⟨none,none,(.store 2 (.t 2) (.t 25))⟩]) .ret) .skip)))))))) (.seq (.reg [⟨some 26,none,.mv (.t 0)⟩,⟨some 27,none,.call 70 [(.t 26),(.c (.int .i64 2))]⟩,⟨(some 28),none,(.mkrow 26 2 [(.str ⟨#[]⟩),.nil] 1 [(0,(.t 27))])⟩,⟨(some 29),none,(.build [(.str ⟨#[]⟩),.nil] [(0,(1,(.c (.str ⟨#[112]⟩)))),(1,(1,(.t 28)))])⟩,⟨none,none,(.store 2 (.t 2) (.t 29))⟩]) .ret)))
theorem Bi:Aq Try.prog 67=some ⟨30,AT,[(.cell 2 true 2)]⟩:=by kernel_rfl
theorem AC:modes 67=⟨[],.half [none,some (26,2)],none,false⟩:=by unfold modes; rfl
def Tm.oh (x:Tm):List OT:=[.str x.name,.ow (x.args.map Tm.osh)]
theorem Tm.N9 (x:Tm):x.oh=[.str x.name,.ow (x.args.map Tm.osh)]:=rfl
theorem Tm.Kw:∀ xs:List Tm,OT.Bt (xs.map Tm.osh)=xs.map Tm.osh
 | []=>rfl
 | x :: xs=>by rw [zA,Tm.Ib]; simp only [OT.Bt,OT.FS,OT.half,Tm.Kw xs]
theorem Tm.LL:∀ xs:List Tm,OT.Av (xs.map Tm.oh)=true
 | []=>rfl
 | x :: xs=>by rw [zA,Tm.N9]; simp only [OT.Av,OT.Ch,OT.full,Tm.Ic,Tm.LL xs,zH]
theorem Tm.LM:∀ xs:List Tm,OT.Bt (xs.map Tm.oh)=xs.map Tm.osh
 | []=>rfl
 | x :: xs=>by rw [zA,zA,Tm.N9,Tm.Ib]; simp only [OT.Bt,OT.FS,OT.half,Tm.J4,Tm.LM xs]
theorem Tm.Pb:∀ xs:List Tm,OT.erss (xs.map Tm.oh)=xs.map Tm.d
 | []=>rfl
 | x :: xs=>by rw [zA,zA,Tm.N9,Tm.ED]; simp only [OT.erss,OT.ers,OT.er,Tm.J4,Tm.Pb xs]
theorem Tm.Lh:∀ xs:List Tm,OT.Bt (xs.map Tm.o)=xs.map Tm.osh
 | []=>rfl
 | x :: xs=>by rw [zA,zA,Tm.Ha,Tm.Ib]; simp only [OT.Bt,OT.FS,OT.half,Tm.erss,Tm.Lh xs]
theorem OT.Id:∀ a b:List (List OT),OT.Av (a++b)=(OT.Av a&&OT.Av b)
 | [],b=>by simp [OT.Av]
 | x :: a,b=>by simp only [zT,OT.Av,OT.Id a b,Bool.and_assoc]
theorem OT.Ie:∀ a b:List (List OT),OT.Bt (a++b)=OT.Bt a++OT.Bt b
 | [],b=>by simp [OT.Bt]
 | x :: a,b=>by simp only [zT,OT.Bt,OT.Ie a b]
theorem OT.Kx:∀ a b:List (List OT),OT.erss (a++b)=OT.erss a++OT.erss b
 | [],b=>by simp [OT.erss]
 | x :: a,b=>by simp only [zT,OT.erss,OT.Kx a b]
attribute [go_sem] OT.Id OT.Ie OT.Kx Tm.Ic Tm.J4 Tm.Kw Tm.LL Tm.Pb Tm.LM Tm.Lh
abbrev tmH (t:Tm) (g:Nat):SV:=.agg [.str t.name,.ref g]
abbrev FY (t:Tm):Ob:=.row 26 2 (t.args.map Tm.osh)
theorem J5 (l:List Int) (hl:Bytes l) (hn:l.length≤1099511627776):∀ (d:Nat) (m:Int),m=d→d≤20→∀ p s:Int,0≤p→p+(4*2 ^ d:Nat)≤1099000000000→∃ t p' s',E 70 [.ptr 0 0,.int .i64 m] [cur l p s]=some (tmH t 1,[cur l p' s',FY t])∧(p≤p'∧p'+2≤p+(4*2 ^ d:Nat))∧t.nodes+1≤2*2 ^ d:=by
 intro d
 have leaf:∀ (p1 s1:Int),0≤p1→p1≤1099500000000→∃ x p2 s2,E 86 [.ptr 0 0,.arr [[D.str ⟨#[88]⟩],[D.str ⟨#[89]⟩],[D.str ⟨#[90]⟩],[D.str ⟨#[97]⟩],[D.str ⟨#[98]⟩],[D.str ⟨#[88]⟩],[D.str ⟨#[97]⟩]]] [cur l p1 s1]=some (.str x,[cur l p2 s2])∧p1≤p2∧p2≤p1+1:=fun p1 s1 a b=>by
  obtain ⟨x,p2,s2,ho,_,h2,h3⟩:=OM l hl hn [⟨#[88]⟩,⟨#[89]⟩,⟨#[90]⟩,⟨#[97]⟩,⟨#[98]⟩,⟨#[88]⟩,⟨#[97]⟩] (by decide) (by decide) p1 s1 a (by omega)
  simp only [zA,zN] at ho
  exact ⟨x,p2,s2,ho,h2,h3⟩
 have n1:∀ x,(Tm.mk x []).nodes=1:=fun x=>by rw [Tm.Af]; rfl
 induction d with
 | zero =>
  rintro m rfl _ p s h0 h1
  rw [show 2 ^ 0=1 by rfl] at h1
  obtain ⟨x,p1,s1,ho,h2,h3⟩:=leaf p s h0 (by omega)
  rw [show 2 ^ 0=1 by rfl]
  obtain ⟨Q,hQ⟩:∃ Q:SV × List Ob→Prop,Q=fun out=>∃ t p' s',out=(tmH t 1,[cur l p' s',FY t])∧(p≤p'∧p'+2≤p+(4*1:Nat))∧t.nodes+1≤2*1:=⟨_,rfl⟩
  suffices hq0:∃ out,E 70 [.ptr 0 0,.int .i64 ((0:Nat):Int)] [cur l p s]=some out∧Q out by
   obtain ⟨out,hq1,hq2⟩:=hq0
   rw [hQ] at hq2
   obtain ⟨t,p',s',rfl,hq3⟩:=hq2
   exact ⟨t,p',s',hq1,hq3⟩
  refine AM Bl An (of_decide_eq_true rfl) ?_
  simp (disch:=omega) only [AX,go_sem,Aa,ho,Au]
  rw [hQ]
  exact ⟨.mk x [],p1,s1,rfl,by omega,by rw [n1]; decide⟩
 | succ e ih =>
  intro m hm hd p s h0 h1
  have hpe:2 ^ (e+1)=2*2 ^ e:=by rw [Nat.pow_succ,Nat.mul_comm]
  have hp1:1≤2 ^ e:=Nat.one_le_two_pow
  have hp2:2 ^ e≤2 ^ 20:=Nat.pow_le_pow_right (by omega) (by omega)
  have hp3:(2:Nat) ^ 20=1048576:=by decide
  have ih:=ih (m-1) (by omega) (by omega)
  rw [hpe] at h1 ⊢
  generalize 2 ^ e=q at *
  generalize hq2:2*q=q2 at *
  obtain ⟨Q,hQ⟩:∃ Q:SV × List Ob→Prop,Q=fun out=>∃ t p' s',out=(tmH t 1,[cur l p' s',FY t])∧(p≤p'∧p'+2≤p+(4*q2:Nat))∧t.nodes+1≤2*q2:=⟨_,rfl⟩
  suffices hq0:∃ out,E 70 [.ptr 0 0,.int .i64 m] [cur l p s]=some out∧Q out by
   obtain ⟨out,hq1,hq2⟩:=hq0
   rw [hQ] at hq2
   obtain ⟨t,p',s',rfl,hq3⟩:=hq2
   exact ⟨t,p',s',hq1,hq3⟩
  by_cases hm1:m≤1
  ·have q1:(m≤1)=True:=eq_true hm1
   obtain ⟨x,p1,s1,ho,h2,h3⟩:=leaf p s h0 (by omega)
   refine AM Bl An (of_decide_eq_true rfl) ?_
   simp (disch:=omega) only [AX,go_sem,Aa,ho,q1,Au]
   rw [hQ]
   exact ⟨.mk x [],p1,s1,rfl,by omega,by rw [n1]; omega⟩
  ·have q1:(m≤1)=False:=eq_false hm1
   obtain ⟨b1,p1,s1,hb1,g1,g2⟩:=Jc l hl hn 3 (by omega) (by omega) p s h0 (by omega)
   cases b1 with
   | true =>
    obtain ⟨x,p2,s2,ho,h2,h3⟩:=leaf p1 s1 (by omega) (by omega)
    refine AM Bl An (of_decide_eq_true rfl) ?_
    simp (disch:=omega) only [AX,go_sem,Aa,q1,hb1,ho,Au,A4]
    rw [hQ]
    exact ⟨.mk x [],p2,s2,rfl,by omega,by rw [n1]; omega⟩
   | false =>
    obtain ⟨b2,p2,s2,hb2,g3,g4⟩:=Jc l hl hn 2 (by omega) (by omega) p1 s1 (by omega) (by omega)
    obtain ⟨t3,p3,s3,h3,⟨g5,g6⟩,g7⟩:=ih p2 s2 (by omega) (by omega)
    cases b2 with
    | true =>
     have e1:(Tm.mk ⟨#[102]⟩ [t3]).nodes=1+(t3.nodes+0):=by rw [Tm.Af]; rfl
     refine AM Bl An (of_decide_eq_true rfl) ?_
     simp (disch:=omega) only [AX,go_sem,Aa,q1,hb1,hb2,h3,Au,A4,An]
     rw [hQ]
     exact ⟨.mk ⟨#[102]⟩ [t3],p3,s3,rfl,by omega,by rw [e1]; omega⟩
    | false =>
     obtain ⟨t4,p4,s4,h4,⟨g8,g9⟩,g10⟩:=ih p3 s3 (by omega) (by omega)
     have e1:(Tm.mk ⟨#[103]⟩ [t3,t4]).nodes=1+(t3.nodes+(t4.nodes+0)):=by rw [Tm.Af]; rfl
     refine AM Bl An (of_decide_eq_true rfl) ?_
     simp (disch:=omega) only [AX,go_sem,Aa,q1,hb1,hb2,h3,h4,Au,A4,An]
     rw [hQ]
     exact ⟨.mk ⟨#[103]⟩ [t3,t4],p4,s4,rfl,by omega,by rw [e1]; omega⟩
theorem F5 (l:List Int) (hl:Bytes l) (hn:l.length≤1099511627776) (p s:Int) (h0:0≤p) (h1:p≤1098000000000):∃ t p' s',E 42 [.ptr 0 0] [cur l p s]=some (tmH t 1,[cur l p' s',FY t])∧(p≤p'∧p'≤p+40)∧t.nodes≤20:=by
 obtain ⟨v,p1,s1,hv,⟨v0,v1⟩,g1,g2⟩:=G0 l hl hn 3 (by omega) (by omega) p s h0 (by omega)
 have hp3:(2:Nat) ^ (1+v).toNat≤2 ^ 3:=Nat.pow_le_pow_right (by omega) (by omega)
 obtain ⟨t,p2,s2,ht,⟨g3,g4⟩,g5⟩:=J5 l hl hn (1+v).toNat (1+v) (by omega) (by omega) p1 s1 (by omega) (by omega)
 have hp4:(2:Nat) ^ 3=8:=by decide
 refine ⟨t,p2,s2,?_,by omega,by omega⟩
 have hi:dec (inK .i64 (1+v))=true:=Ej (by omega) (by omega)
 refine Ai FX Al (of_decide_eq_true rfl) ?_
 simp (disch:=omega) only [Dz,go_sem,Aa,hv,ht,hi,Aj,An]
theorem PU (l:List Int) (hl:Bytes l) (hn:l.length≤1099511627776) (p s:Int) (h0:0≤p) (h1:p≤1097000000000):∃ t p' s',E 67 [.ptr 0 0] [cur l p s]=some (tmH t 1,[cur l p' s',FY t])∧(p≤p'∧p'≤p+100)∧t.nodes≤50:=by
 obtain ⟨Q,hQ⟩:∃ Q:SV × List Ob→Prop,Q=fun out=>∃ t p' s',out=(tmH t 1,[cur l p' s',FY t])∧(p≤p'∧p'≤p+100)∧t.nodes≤50:=⟨_,rfl⟩
 suffices hq0:∃ out,E 67 [.ptr 0 0] [cur l p s]=some out∧Q out by
  obtain ⟨out,hq1,hq2⟩:=hq0
  rw [hQ] at hq2
  obtain ⟨t,p',s',rfl,hq3⟩:=hq2
  exact ⟨t,p',s',hq1,hq3⟩
 have hp4:(2:Nat) ^ 2=4:=by decide
 have e1:∀ x a,(Tm.mk x [a]).nodes=1+(a.nodes+0):=fun x a=>by rw [Tm.Af]; rfl
 have e2:∀ x a b,(Tm.mk x [a,b]).nodes=1+(a.nodes+(b.nodes+0)):=fun x a b=>by rw [Tm.Af]; rfl
 obtain ⟨v,p1,s1,hv,⟨v0,v1⟩,g1,g2⟩:=G0 l hl hn 8 (by omega) (by omega) p s h0 (by omega)
 obtain ⟨ta,p2,s2,ha,⟨a3,a4⟩,a5⟩:=F5 l hl hn p1 s1 (by omega) (by omega)
 obtain ⟨tb,p3,s3,hb,⟨b3,b4⟩,b5⟩:=F5 l hl hn p2 s2 (by omega) (by omega)
 obtain ⟨tc,p4,s4,hc,⟨c3,c4⟩,c5⟩:=J5 l hl hn 2 2 rfl (by omega) p1 s1 (by omega) (by omega)
 obtain ⟨td,p5,s5,hd,⟨d3,d4⟩,d5⟩:=J5 l hl hn 2 2 rfl (by omega) p4 s4 (by omega) (by omega)
 rw [hp4] at c4 c5 d4 d5
 rcases (show v=0∨v=1∨v=2∨v=3∨v=4∨(¬ v=0∧¬ v=1∧¬ v=2∧¬ v=3∧¬ v=4) by omega) with rfl | rfl | rfl | rfl | rfl | ⟨k0,k1,k2,k3,k4⟩
 ·refine AM Bi AC (of_decide_eq_true rfl) ?_
  simp (disch:=omega) only [AT,go_sem,Aa,hv,ha,hb,hc,hd,Aj,An,Al]
  rw [hQ]
  exact ⟨.mk ⟨#[61]⟩ [ta,tb],p3,s3,rfl,by omega,by rw [e2]; omega⟩
 ·refine AM Bi AC (of_decide_eq_true rfl) ?_
  simp (disch:=omega) only [AT,go_sem,Aa,hv,ha,hb,hc,hd,Aj,An,Al]
  rw [hQ]
  exact ⟨.mk ⟨#[61]⟩ [ta,tb],p3,s3,rfl,by omega,by rw [e2]; omega⟩
 ·refine AM Bi AC (of_decide_eq_true rfl) ?_
  simp (disch:=omega) only [AT,go_sem,Aa,hv,ha,hb,hc,hd,Aj,An,Al]
  rw [hQ]
  exact ⟨.mk ⟨#[114]⟩ [],p1,s1,rfl,by omega,by rw [Tm.Af]; show 1+0≤_; omega⟩
 ·refine AM Bi AC (of_decide_eq_true rfl) ?_
  simp (disch:=omega) only [AT,go_sem,Aa,hv,ha,hb,hc,hd,Aj,An,Al]
  rw [hQ]
  exact ⟨.mk ⟨#[113]⟩ [tc,td],p5,s5,rfl,by omega,by rw [e2]; omega⟩
 ·refine AM Bi AC (of_decide_eq_true rfl) ?_
  simp (disch:=omega) only [AT,go_sem,Aa,hv,ha,hb,hc,hd,Aj,An,Al]
  rw [hQ]
  exact ⟨.mk ⟨#[113]⟩ [tc,td],p5,s5,rfl,by omega,by rw [e2]; omega⟩
 ·have k0:=eq_false k0
  have k1:=eq_false k1
  have k2:=eq_false k2
  have k3:=eq_false k3
  have k4:=eq_false k4
  refine AM Bi AC (of_decide_eq_true rfl) ?_
  simp (disch:=omega) only [AT,go_sem,Aa,hv,hc,k0,k1,k2,k3,k4,Aj,An,Al]
  rw [hQ]
  exact ⟨.mk ⟨#[112]⟩ [tc],p4,s4,rfl,by omega,by rw [e1]; omega⟩
def Dl:SC:=(.seq (.reg [⟨(some 4),none,(.alloc 26 [(.str ⟨#[]⟩),.nil])⟩]) (.seq (.reg [⟨some 6,none,.mv (.t 0)⟩,⟨(some 7),none,(.mkrow 9 1 [(.str ⟨#[]⟩)] 2 [(0,(.c (.str ⟨#[88]⟩))),(1,(.c (.str ⟨#[97]⟩)))])⟩,⟨some 8,none,.call 86 [(.t 6),(.t 7)]⟩,⟨(some 9),none,(.build [(.str ⟨#[]⟩),.nil] [(0,(1,(.t 8)))])⟩,⟨(some 5),none,(.alloc 26 [(.str ⟨#[]⟩),.nil])⟩,⟨none,none,(.store 2 (.t 5) (.t 9))⟩]) (.seq (.block 0 (.loop [0,1,0,0,1,1,0,0,0,0,0,0,0,0,0,0,0,0] (.seq (.seq (.reg [⟨some 10,none,.mv (.t 1)⟩,⟨some 11,none,.bin .gtr false (.t 10) (.c (.int .i64 1))⟩]) (.cond (.t 11) .skip (.exit 0))) (.seq (.block 1 (.reg [⟨some 14,none,.load true 2 (.t 5)⟩,⟨(some 15),none,(.mkrow 26 2 [(.str ⟨#[]⟩),.nil] 1 [(0,(.t 14))])⟩,⟨(some 16),none,(.build [(.str ⟨#[]⟩),.nil] [(0,(1,(.c (.str ⟨#[102]⟩)))),(1,(1,(.t 15)))])⟩,⟨none,none,(.store 2 (.t 5) (.t 16))⟩])) (.reg [⟨some 12,none,.mv (.t 1)⟩,⟨some 13,none,.bin .sub false (.t 12) (.c (.int .i64 1))⟩,⟨some 1,none,.mv (.t 13)⟩]))))) (.seq (.reg [⟨some 17,none,.load true 2 (.t 5)⟩,⟨none,none,(.store 2 (.t 4) (.t 17))⟩]) .ret))))
theorem F6:Aq Try.prog 88=some ⟨18,Dl,[(.cell 4 true 2)]⟩:=by kernel_rfl
theorem AG:modes 88=⟨[],.half [none,some (26,2)],none,false⟩:=by unfold modes; rfl
def D0:SC:=(.seq (.reg [⟨(some 2),none,(.alloc 26 [(.str ⟨#[]⟩),.nil])⟩]) (.seq (.reg [⟨(some 7),none,(.build [(.str ⟨#[]⟩),.nil] [(0,(1,(.c (.str ⟨#[103]⟩))))])⟩,⟨(some 3),none,(.alloc 26 [(.str ⟨#[]⟩),.nil])⟩,⟨none,none,(.store 2 (.t 3) (.t 7))⟩]) (.seq (.seq (.reg [⟨some 4,none,.mv (.c (.int .i64 0))⟩]) (.block 0 (.loop [1,0,1,1,1,0,0,0,0,0,0,0,0,0,0,0,0,0,0,0,0,0,0,0,0,0,0,0,0,0,0,0,0,0,0,0,0,0,0,0,0,0,0,0,0,0,0,0,0,0,0,0,0,0] (.seq (.seq (.reg [⟨some 8,none,.mv (.t 4)⟩,⟨some 9,none,.bin .lss false (.t 8) (.c (.int .i64 4))⟩]) (.cond (.t 9) .skip (.exit 0))) (.seq (.block 1 (.seq (.reg [⟨(some 12),none,(.build [(.str ⟨#[]⟩),.nil] [(0,(1,(.c (.str ⟨#[104]⟩))))])⟩,⟨(some 5),none,(.alloc 26 [(.str ⟨#[]⟩),.nil])⟩,⟨none,none,(.store 2 (.t 5) (.t 12))⟩]) (.seq (.seq (.reg [⟨some 6,none,.mv (.c (.int .i64 0))⟩]) (.block 2 (.loop [1,0,1,1,1,1,1,0,0,0,0,0,0,0,0,0,0,0,0,0,0,0,0,0,0,0,0,0,0,0,0,0,0,0,0,0,0,0,0,0,0,0,0,0,0,0,0,0,0,0,0,0,0,0] (.seq (.seq (.reg [⟨some 13,none,.mv (.t 6)⟩,⟨some 14,none,.bin .lss false (.t 13) (.c (.int .i64 4))⟩]) (.cond (.t 14) .skip (.exit 2))) (.seq (.block 3 (.reg [⟨some 17,none,.faddr 1 (.t 5)⟩,⟨some 18,none,.load false 1 (.t 17)⟩,⟨(some 19),none,(.build [(.str ⟨#[]⟩),.nil] [(0,(1,(.c (.str ⟨#[97]⟩))))])⟩,⟨(some 20),none,(.mkrow 26 2 [(.str ⟨#[]⟩),.nil] 1 [(0,(.t 19))])⟩,⟨(some 21),none,(.build [(.str ⟨#[]⟩),.nil] [(0,(1,(.c (.str ⟨#[102]⟩)))),(1,(1,(.t 20)))])⟩,⟨(some 22),none,(.mkrow 26 2 [(.str ⟨#[]⟩),.nil] 1 [(0,(.t 21))])⟩,⟨(some 23),none,(.append 26 2 40 [(.str ⟨#[]⟩),.nil] (.t 18) (.t 22))⟩,⟨some 24,none,.faddr 1 (.t 5)⟩,⟨none,none,(.store 1 (.t 24) (.t 23))⟩])) (.reg [⟨some 15,none,.mv (.t 6)⟩,⟨some 16,none,.bin .add false (.t 15) (.c (.int .i64 1))⟩,⟨some 6,none,.mv (.t 16)⟩])))))) (.reg [⟨some 25,none,.faddr 1 (.t 3)⟩,⟨some 26,none,.load false 1 (.t 25)⟩,⟨some 27,none,.load true 2 (.t 5)⟩,⟨(some 28),none,(.mkrow 26 2 [(.str ⟨#[]⟩),.nil] 1 [(0,(.t 27))])⟩,⟨(some 29),none,(.append 26 2 40 [(.str ⟨#[]⟩),.nil] (.t 26) (.t 28))⟩,⟨some 30,none,.faddr 1 (.t 3)⟩,⟨none,none,(.store 1 (.t 30) (.t 29))⟩])))) (.reg [⟨some 10,none,.mv (.t 4)⟩,⟨some 11,none,.bin .add false (.t 10) (.c (.int .i64 1))⟩,⟨some 4,none,.mv (.t 11)⟩])))))) (.seq (.seq (.reg [⟨some 31,none,.mv (.t 0)⟩,⟨some 32,none,.call 45 [(.t 31),(.c (.int .i64 2))]⟩]) (.cond (.t 32) (.reg [⟨some 33,none,.faddr 1 (.t 3)⟩,⟨some 34,none,.load false 1 (.t 33)⟩,⟨some 35,none,.slice false 2 (.t 34) none (some (.c (.int .i64 3)))⟩,⟨some 36,none,.faddr 1 (.t 3)⟩,⟨none,none,(.store 1 (.t 36) (.t 35))⟩]) .skip)) (.seq (.seq (.reg [⟨some 37,none,.mv (.t 0)⟩,⟨some 38,none,.call 45 [(.t 37),(.c (.int .i64 2))]⟩,⟨some 39,none,.mv (.t 38)⟩,⟨(some 40),(some (39,true)),(.faddr 1 (.t 3))⟩,⟨(some 41),(some (39,true)),(.load false 1 (.t 40))⟩,⟨(some 42),(some (39,true)),(.len false (.t 41))⟩,⟨(some 43),(some (39,true)),(.bin .eql false (.t 42) (.c (.int .i64 3)))⟩,⟨some 44,none,.pick (.t 39) (.t 43) (.c (.bool false))⟩]) (.cond (.t 44) (.reg [⟨some 45,none,.faddr 1 (.t 3)⟩,⟨some 46,none,.load false 1 (.t 45)⟩,⟨(some 47),none,(.build [(.str ⟨#[]⟩),.nil] [(0,(1,(.c (.str ⟨#[98]⟩))))])⟩,⟨(some 48),none,(.mkrow 26 2 [(.str ⟨#[]⟩),.nil] 1 [(0,(.t 47))])⟩,⟨(some 49),none,(.build [(.str ⟨#[]⟩),.nil] [(0,(1,(.c (.str ⟨#[102]⟩)))),(1,(1,(.t 48)))])⟩,⟨(some 50),none,(.mkrow 26 2 [(.str ⟨#[]⟩),.nil] 1 [(0,(.t 49))])⟩,⟨(some 51),none,(.append 26 2 40 [(.str ⟨#[]⟩),.nil] (.t 46) (.t 50))⟩,⟨some 52,none,.faddr 1 (.t 3)⟩,⟨none,none,(.store 1 (.t 52) (.t 51))⟩]) .skip)) (.seq (.reg [⟨some 53,none,.load true 2 (.t 3)⟩,⟨none,none,(.store 2 (.t 2) (.t 53))⟩]) .ret))))))
theorem FZ:Aq Try.prog 96=some ⟨54,D0,[(.cell 2 true 2)]⟩:=by kernel_rfl
theorem AK:modes 96=⟨[],.half [none,some (26,2)],none,false⟩:=by unfold modes; rfl
def A8:SC:=(.seq (.reg [⟨(some 2),none,(.alloc 26 [(.str ⟨#[]⟩),.nil])⟩]) (.seq (.reg [⟨some 4,none,.mv (.t 0)⟩,⟨some 5,none,.call 42 [(.t 4)]⟩,⟨(some 3),none,(.alloc 26 [(.str ⟨#[]⟩),.nil])⟩,⟨none,none,(.store 2 (.t 3) (.t 5))⟩]) (.seq (.seq (.reg [⟨some 6,none,.mv (.t 0)⟩,⟨some 7,none,.call 40 [(.t 6),(.c (.int .i64 24))]⟩]) (.block 0 (.seq (.reg [⟨some 9,none,.bin .eql false (.t 7) (.c (.int .i64 0))⟩,⟨some 8,none,.mv (.t 9)⟩]) (.cond (.t 8) (.reg [⟨some 10,none,.mv (.t 0)⟩,⟨(some 11),none,(.mkrow 9 1 [(.str ⟨#[]⟩)] 14 [(0,(.c (.str ⟨#[]⟩))),(1,(.c (.str ⟨#[116,114,117,101]⟩))),(2,(.c (.str ⟨#[116,114,117,116,104]⟩))),(3,(.c (.str ⟨#[105,102]⟩))),(4,(.c (.str ⟨#[88,121,122,57]⟩))),(5,(.c (.str ⟨#[88,121,122,57,57]⟩))),(6,(.c (.str ⟨#[120,65]⟩))),(7,(.c (.str ⟨#[97,95,98]⟩))),(8,(.c (.str ⟨#[97,98,99,100,101,102]⟩))),(9,(.c (.str ⟨#[97,98,99,100,101,102,103]⟩))),(10,(.c (.str ⟨#[95,97]⟩))),(11,(.c (.str ⟨#[57]⟩))),(12,(.c (.str ⟨#[88,95]⟩))),(13,(.c (.str ⟨#[61]⟩)))])⟩,⟨some 12,none,.call 86 [(.t 10),(.t 11)]⟩,⟨some 13,none,.faddr 0 (.t 3)⟩,⟨none,none,(.store 1 (.t 13) (.t 12))⟩]) (.seq (.reg [⟨some 15,none,.bin .eql false (.t 7) (.c (.int .i64 1))⟩,⟨some 14,none,.mv (.t 15)⟩]) (.cond (.t 14) (.seq (.reg [⟨some 16,none,.mv (.t 0)⟩,⟨some 17,none,.mv (.t 0)⟩,⟨some 18,none,.call 40 [(.t 17),(.c (.int .i64 3))]⟩,⟨some 19,none,.bin .add false (.c (.int .i64 7)) (.t 18)⟩,⟨some 20,none,.call 88 [(.t 16),(.t 19)]⟩,⟨none,none,(.store 2 (.t 2) (.t 20))⟩]) .ret) (.seq (.reg [⟨some 22,none,.bin .eql false (.t 7) (.c (.int .i64 2))⟩,⟨some 21,none,.mv (.t 22)⟩]) (.cond (.t 21) (.seq (.reg [⟨some 23,none,.mv (.t 0)⟩,⟨some 24,none,.call 96 [(.t 23)]⟩,⟨none,none,(.store 2 (.t 2) (.t 24))⟩]) .ret) (.seq (.reg [⟨some 26,none,.bin .eql false (.t 7) (.c (.int .i64 3))⟩,⟨some 25,none,.mv (.t 26)⟩]) (.cond (.t 25) (.dreg [[],[0],[],[2],[],[4,3,2],[],[6,5,4,3,2],[3,2,5,4,7,6],[1,0,8,3,2,5,4,7,6],[0,1,2,3,4,5,6,7,8,9],[10,0,1,2,3,4,5,6,7,8,9]] [⟨some 27,none,.faddr 1 (.t 3)⟩,⟨some 28,none,.load false 1 (.t 27)⟩,⟨some 29,none,.mv (.t 0)⟩,⟨some 30,none,.call 42 [(.t 29)]⟩,⟨some 31,none,.mv (.t 0)⟩,⟨some 32,none,.call 42 [(.t 31)]⟩,⟨some 33,none,.mv (.t 0)⟩,⟨some 34,none,.call 42 [(.t 33)]⟩,⟨(some 35),none,(.mkrow 26 2 [(.str ⟨#[]⟩),.nil] 3 [(0,(.t 30)),(1,(.t 32)),(2,(.t 34))])⟩,⟨(some 36),none,(.append 26 2 40 [(.str ⟨#[]⟩),.nil] (.t 28) (.t 35))⟩,⟨some 37,none,.faddr 1 (.t 3)⟩,⟨none,none,(.store 1 (.t 37) (.t 36))⟩]) (.seq (.reg [⟨some 39,none,.bin .eql false (.t 7) (.c (.int .i64 4))⟩,⟨some 38,none,.mv (.t 39)⟩]) (.cond (.t 38) (.seq (.reg [⟨some 40,none,.faddr 1 (.t 3)⟩,⟨some 41,none,.load false 1 (.t 40)⟩,⟨some 42,none,.len false (.t 41)⟩,⟨some 43,none,.bin .gtr false (.t 42) (.c (.int .i64 0))⟩]) (.cond (.t 43) (.dreg [[],[0],[],[],[2,3],[],[5],[6,5],[7,6,5],[8,7,6,5],[4,2,3,9,8,7,6,5],[1,0,2,3,4,5,6,7,8,9,10],[11,1,0,2,3,4,5,6,7,8,9,10]] [⟨some 44,none,.faddr 1 (.t 3)⟩,⟨some 45,none,.load false 1 (.t 44)⟩,⟨some 46,none,.mv (.t 0)⟩,⟨(some 47),none,(.mkrow 9 1 [(.str ⟨#[]⟩)] 4 [(0,(.c (.str ⟨#[61]⟩))),(1,(.c (.str ⟨#[]⟩))),(2,(.c (.str ⟨#[81,49]⟩))),(3,(.c (.str ⟨#[98,50]⟩)))])⟩,⟨some 48,none,.call 86 [(.t 46),(.t 47)]⟩,⟨some 49,none,.faddr 1 (.t 3)⟩,⟨some 50,none,.load false 1 (.t 49)⟩,⟨some 51,none,.iaddr 2 (.t 50) (.c (.int .i64 0))⟩,⟨some 52,none,.faddr 1 (.t 51)⟩,⟨some 53,none,.load false 1 (.t 52)⟩,⟨(some 54),none,(.build [(.str ⟨#[]⟩),.nil] [(0,(1,(.t 48))),(1,(1,(.t 53)))])⟩,⟨some 55,none,.iaddr 2 (.t 45) (.c (.int .i64 0))⟩,⟨none,none,(.store 2 (.t 55) (.t 54))⟩]) .skip)) .skip)))))))))))) (.seq (.reg [⟨some 56,none,.load true 2 (.t 3)⟩,⟨none,none,(.store 2 (.t 2) (.t 56))⟩]) .ret))))
theorem AH:Aq Try.prog 68=some ⟨57,A8,[(.cell 2 true 2)]⟩:=by kernel_rfl
theorem As:modes 68=⟨[],.half [none,some (26,2)],none,false⟩:=by unfold modes; rfl
def Bj:SC:=(.seq (.reg [⟨(some 2),none,(.alloc 26 [(.str ⟨#[]⟩),.nil])⟩]) (.seq (.seq (.reg [⟨some 4,none,.mv (.t 0)⟩,⟨some 5,none,.call 45 [(.t 4),(.c (.int .i64 3))]⟩]) (.cond (.t 5) (.seq (.reg [⟨some 6,none,.mv (.t 0)⟩,⟨some 7,none,.call 67 [(.t 6)]⟩,⟨(some 3),none,(.alloc 26 [(.str ⟨#[]⟩),.nil])⟩,⟨none,none,(.store 2 (.t 3) (.t 7))⟩]) (.seq (.seq (.reg [⟨some 8,none,.mv (.t 0)⟩,⟨some 9,none,.call 45 [(.t 8),(.c (.int .i64 12))]⟩]) (.cond (.t 9) (.dreg [[],[0],[],[2],[3,2],[1,0,4,3,2],[0,1,2,3,4,5],[6,0,1,2,3,4,5]] [⟨some 10,none,.faddr 1 (.t 3)⟩,⟨some 11,none,.load false 1 (.t 10)⟩,⟨some 12,none,.mv (.t 0)⟩,⟨some 13,none,.call 42 [(.t 12)]⟩,⟨(some 14),none,(.mkrow 26 2 [(.str ⟨#[]⟩),.nil] 1 [(0,(.t 13))])⟩,⟨(some 15),none,(.append 26 2 40 [(.str ⟨#[]⟩),.nil] (.t 11) (.t 14))⟩,⟨some 16,none,.faddr 1 (.t 3)⟩,⟨none,none,(.store 1 (.t 16) (.t 15))⟩]) .skip)) (.seq (.reg [⟨some 17,none,.load true 2 (.t 3)⟩,⟨none,none,(.store 2 (.t 2) (.t 17))⟩]) .ret))) .skip)) (.seq (.reg [⟨some 18,none,.mv (.t 0)⟩,⟨some 19,none,.call 68 [(.t 18)]⟩,⟨none,none,(.store 2 (.t 2) (.t 19))⟩]) .ret)))
theorem Bz:Aq Try.prog 39=some ⟨20,Bj,[(.cell 2 true 2)]⟩:=by kernel_rfl
theorem Bk:modes 39=⟨[],.half [none,some (26,2)],none,false⟩:=by unfold modes; rfl
def twr (x:ByteArray):Nat→Tm
 | 0=>.mk x []
 | k+1=>.mk ⟨#[102]⟩ [twr x k]
theorem Jd (x:ByteArray):∀ k,(twr x k).nodes=k+1
 | 0=>by rw [twr,Tm.Af]; rfl
 | k+1=>by
  have:(twr x (k+1)).nodes=1+((twr x k).nodes+0):=by rw [twr,Tm.Af]; rfl
  rw [this,Jd x k]; omega
theorem Pc (x:ByteArray):[[OT.str x,OT.ow []]]=[Tm.mk x []].map Tm.o:=by rw [zA,zN,Tm.Ha]; rfl
theorem Qs (x:ByteArray) (l:List Tm):[[OT.str x,OT.ow (l.map Tm.o)]]=[Tm.mk x l].map Tm.o:=by rw [zA,zN,Tm.Ha]; rfl
theorem Tm.ON (x:Tm):OT.FS x.o=x.osh:=by
 have:=Tm.Lh [x]
 simp only [zA,zN,OT.Bt,zV,and_true] at this
 exact this
theorem Tm.OO (x:Tm):OT.Ch x.o=true:=by
 have:=Tm.fus [x]
 simp only [zA,zN,OT.Av,zP] at this
 exact this
theorem Tm.CM (x:Tm):x.o.length=2:=by rw [Tm.Ha]; rfl
abbrev tZ:Ob:=.box 26 [.str ⟨#[]⟩,.nil]
theorem OP (l:List Int) (hl:Bytes l) (hn:l.length≤1099511627776) (m:Int) (hm:1≤m) (hm2:m≤100) (p s:Int) (h0:0≤p) (h1:p≤1099000000000):∃ t p' s',E 88 [.ptr 0 0,.int .i64 m] [cur l p s]=some (tmH t 1,[cur l p' s',FY t])∧(p≤p'∧p'≤p+1)∧t.nodes≤150:=by
 obtain ⟨Q,hQ⟩:∃ Q:SV × List Ob→Prop,Q=fun out=>∃ t p' s',out=(tmH t 1,[cur l p' s',FY t])∧(p≤p'∧p'≤p+1)∧t.nodes≤150:=⟨_,rfl⟩
 suffices hq0:∃ out,E 88 [.ptr 0 0,.int .i64 m] [cur l p s]=some out∧Q out by
  obtain ⟨out,hq1,hq2⟩:=hq0
  rw [hQ] at hq2
  obtain ⟨t,p',s',rfl,hq3⟩:=hq2
  exact ⟨t,p',s',hq1,hq3⟩
 obtain ⟨x,p1,s1,ho,_,g1,g2⟩:=OM l hl hn [⟨#[88]⟩,⟨#[97]⟩] (by decide) (by decide) p s h0 (by omega)
 simp only [zA,zN] at ho
 refine AM F6 AG (of_decide_eq_true rfl) ?_
 simp (disch:=omega) only [Dl,go_sem,Aa,ho,Au]
 refine go_loop (α:=Nat) (fun k=>⟨slots 18 0 [(1,.int .i64 (m-(k:Nat))),(4,.ptr 1 0),(5,.ptr 2 0)],(if k=0 then [cur l p1 s1,tZ,.box 26 [.str x,.nil]] else [cur l p1 s1,tZ,.box 26 [.str ⟨#[102]⟩,.ref 3],.row 26 2 ([twr x (k-1)].map Tm.o)])⟩) (fun k=>(k:Int)≤m-1) (fun k=>(m-k).toNat) 0 (by omega) (by simp (disch:=omega) only [go_sem,Aa,eq_self,if_true,Int.natCast_zero,Int.sub_zero]) ?_
 intro k hk
 by_cases hlt:1<m-(k:Int)
 ·have q1:(1<m-(k:Int))=True:=eq_true hlt
  have hi:dec (inK .i64 (m-(k:Int)-1))=true:=Ej (by omega) (by omega)
  have q4:m-(k:Int)-1=m-((k+1:Nat):Int):=by omega
  have q5:(k+1=0)=False:=by simp
  have q6:k+1-1=k:=by omega
  rcases zQ k with hk0 | hk0
  ·subst hk0
   have hs:=Pc x
   have q7:m-((0:Nat):Int)-1=m-((0+1:Nat):Int):=by omega
   simp (disch:=omega) only [go_sem,Aa,q1,hi,eq_self,if_true]
   refine ⟨0+1,by omega,by omega,?_⟩
   simp (disch:=omega) only [go_sem,Aa,q5,if_false,q7]
   first | rfl | (rw [hs]; rfl)
  ·obtain ⟨j,rfl⟩:∃ j,k=j+1:=⟨k-1,by omega⟩
   have hs:=Qs ⟨#[102]⟩ [twr x j]
   have q8:(j+1=0)=False:=by simp
   have q9:j+1-1=j:=by omega
   simp (disch:=omega) only [go_sem,Aa,q1,hi,q8,q9,if_false]
   refine ⟨j+1+1,by omega,by omega,?_⟩
   simp (disch:=omega) only [go_sem,Aa,q5,q6,if_false,q4]
   first | rfl | (rw [hs]; rfl)
 ·have q1:(1<m-(k:Int))=False:=eq_false hlt
  have hnd:=Jd x k
  rcases zQ k with hk0 | hk0
  ·subst hk0
   simp (disch:=omega) only [go_sem,Aa,q1,eq_self,if_true]
   rw [hQ]
   exact ⟨twr x 0,p1,s1,rfl,by omega,by omega⟩
  ·obtain ⟨j,rfl⟩:∃ j,k=j+1:=⟨k-1,by omega⟩
   have q8:(j+1=0)=False:=by simp
   have q9:j+1-1=j:=by omega
   have hh:=Tm.ON (twr x j)
   have hf:=Tm.OO (twr x j)
   simp (disch:=omega) only [go_sem,Aa,q1,q8,q9,if_false,hh,hf]
   rw [hQ]
   exact ⟨twr x (j+1),p1,s1,rfl,by omega,by omega⟩
def wdF:Tm:=.mk ⟨#[102]⟩ [.mk ⟨#[97]⟩ []]
def wdP:Tm:=.mk ⟨#[104]⟩ (zD 4 wdF)
theorem CN:[OT.str ⟨#[102]⟩,OT.ow [[OT.str ⟨#[97]⟩,OT.ow []]]]=wdF.o:=by
 rw [wdF,Tm.Ha]
 show _=[OT.str ⟨#[102]⟩,OT.ow ([Tm.mk ⟨#[97]⟩ []].map Tm.o)]
 rw [←Pc]
theorem CO:[OT.str ⟨#[104]⟩,OT.ow [wdF.o,wdF.o,wdF.o,wdF.o]]=wdP.o:=by rw [wdP,Tm.Ha]; rfl
theorem If {α β:Type} (f:α→β) (x:α) (n:Nat):(zD n x).map f++[f x]=(zD (n+1) x).map f:=by
 rw [List.replicate_succ',zR]; rfl
theorem M0:wdF.nodes=2:=by rw [wdF,Tm.Af]; show 1+((Tm.mk _ []).nodes+0)=2; rw [Tm.Af]; rfl
theorem G1:wdP.nodes=9:=by
 rw [wdP,Tm.Af]
 show 1+(wdF.nodes+(wdF.nodes+(wdF.nodes+(wdF.nodes+0))))=9
 rw [M0]
theorem PV (l:List Int) (hl:Bytes l) (hn:l.length≤1099511627776) (p s:Int) (h0:0≤p) (h1:p≤1099000000000):∃ t p' s',E 96 [.ptr 0 0] [cur l p s]=some (tmH t 1,[cur l p' s',FY t])∧(p≤p'∧p'≤p+2)∧t.nodes≤150:=by
 obtain ⟨Q,hQ⟩:∃ Q:SV × List Ob→Prop,Q=fun out=>∃ t p' s',out=(tmH t 1,[cur l p' s',FY t])∧(p≤p'∧p'≤p+2)∧t.nodes≤150:=⟨_,rfl⟩
 suffices hq0:∃ out,E 96 [.ptr 0 0] [cur l p s]=some out∧Q out by
  obtain ⟨out,hq1,hq2⟩:=hq0
  rw [hQ] at hq2
  obtain ⟨t,p',s',rfl,hq3⟩:=hq2
  exact ⟨t,p',s',hq1,hq3⟩
 have h10:((1:Int)=0)=False:=by simp
 refine AM FZ AK (of_decide_eq_true rfl) ?_
 simp (disch:=omega) only [D0,go_sem,Aa]
 refine go_loop (α:=Int) (fun i=>⟨slots 54 0 [(0,.ptr 0 0),(2,.ptr 1 0),(3,.ptr 2 0),(4,.int .i64 i)],(if i=0 then [cur l p s,tZ,.box 26 [.str ⟨#[103]⟩,.nil]] else [cur l p s,tZ,.box 26 [.str ⟨#[103]⟩,.ref 3],.row 26 2 ((zD i.toNat wdP).map Tm.o)])⟩) (fun i=>∃ k:Nat,i=k∧k≤4) (fun i=>(4-i).toNat) 0 ⟨0,rfl,by omega⟩ (by simp (disch:=omega) only [go_sem,Aa,eq_self,if_true]) ?_
 rintro i ⟨k,hi,hk⟩
 have hni:i.toNat=k:=by omega
 have hni1:(i+1).toNat=k+1:=by omega
 rcases zF k 4 with hlt | hge
 ·have q1:(i<4)=True:=eq_true (by omega)
  have hi1:(i+1=0)=False:=by simp; omega
  have hsP:=If Tm.o wdP k
  rcases zQ k with hk0 | hk0
  ·subst hk0
   obtain rfl:i=0:=hi
   simp (disch:=omega) only [go_sem,Aa,q1,eq_self,if_true,CN,CO,zB,Tm.CM]
   refine go_loop (α:=Int) (fun j=>⟨slots 54 0 [(0,.ptr 0 0),(2,.ptr 1 0),(3,.ptr 2 0),(4,.int .i64 0),(5,.ptr 3 0),(6,.int .i64 j)],(if (0:Int)=0 then (if j=0 then [cur l p s,tZ,.box 26 [.str ⟨#[103]⟩,.nil],.box 26 [.str ⟨#[104]⟩,.nil]] else [cur l p s,tZ,.box 26 [.str ⟨#[103]⟩,.nil],.box 26 [.str ⟨#[104]⟩,.ref 4],.row 26 2 ((zD j.toNat wdF).map Tm.o)]) else (if j=0 then [cur l p s,tZ,.box 26 [.str ⟨#[103]⟩,.ref 4],.box 26 [.str ⟨#[104]⟩,.nil],.row 26 2 ((zD (0:Int).toNat wdP).map Tm.o)] else [cur l p s,tZ,.box 26 [.str ⟨#[103]⟩,.ref 4],.box 26 [.str ⟨#[104]⟩,.ref 5],.row 26 2 ((zD (0:Int).toNat wdP).map Tm.o),.row 26 2 ((zD j.toNat wdF).map Tm.o)]))⟩) (fun j=>∃ k:Nat,j=k∧k≤4) (fun j=>(4-j).toNat) 0 ⟨0,rfl,by omega⟩ (by simp (disch:=omega) only [go_sem,Aa,eq_self,if_true,CN,CO,zB,Tm.CM]) ?_
   rintro j ⟨n,hj,hn4⟩
   have hnj:j.toNat=n:=by omega
   have hnj1:(j+1).toNat=n+1:=by omega
   have hj1:(j+1=0)=False:=by simp; omega
   rcases zF n 4 with hlt2 | hge2
   ·have q2:(j<4)=True:=eq_true (by omega)
    have hsF:=If Tm.o wdF n
    rcases zQ n with hn0 | hn0
    ·subst hn0
     obtain rfl:j=0:=hj
     simp (disch:=omega) only [go_sem,Aa,q2,eq_self,if_true,CN,CO,zB,Tm.CM]
     refine ⟨1,⟨1,rfl,by omega⟩,by omega,?_⟩
     simp (disch:=omega) only [go_sem,Aa,eq_self,if_true,h10,if_false,CN,CO,zB,Tm.CM]
    ·have hj0:(j=0)=False:=by simp; omega
     simp (disch:=omega) only [go_sem,Aa,q2,eq_self,if_true,hj0,if_false,hnj,CN,CO,zB,Tm.CM]
     refine ⟨j+1,⟨n+1,by omega,by omega⟩,by omega,?_⟩
     simp (disch:=omega) only [go_sem,Aa,eq_self,if_true,hj1,if_false,hnj,hnj1,hsF,CN,CO,zB,Tm.CM]
   ·obtain rfl:n=4:=by omega
    have hj4:j=4:=hj
    subst hj4
    have q2:((4:Int)=0)=False:=by simp
    simp (disch:=omega) only [go_sem,Aa,q2,eq_self,if_true,if_false,CN,CO,zB,Tm.CM]
    refine ⟨1,⟨1,rfl,by omega⟩,by omega,?_⟩
    simp (disch:=omega) only [go_sem,Aa,h10,if_false,CN,CO,zB,Tm.CM]
  ·have hi0:(i=0)=False:=by simp; omega
   simp (disch:=omega) only [go_sem,Aa,q1,hi0,if_false,CN,CO,zB,Tm.CM]
   refine go_loop (α:=Int) (fun j=>⟨slots 54 0 [(0,.ptr 0 0),(2,.ptr 1 0),(3,.ptr 2 0),(4,.int .i64 i),(5,.ptr 3 0),(6,.int .i64 j)],(if i=0 then (if j=0 then [cur l p s,tZ,.box 26 [.str ⟨#[103]⟩,.nil],.box 26 [.str ⟨#[104]⟩,.nil]] else [cur l p s,tZ,.box 26 [.str ⟨#[103]⟩,.nil],.box 26 [.str ⟨#[104]⟩,.ref 4],.row 26 2 ((zD j.toNat wdF).map Tm.o)]) else (if j=0 then [cur l p s,tZ,.box 26 [.str ⟨#[103]⟩,.ref 4],.box 26 [.str ⟨#[104]⟩,.nil],.row 26 2 ((zD i.toNat wdP).map Tm.o)] else [cur l p s,tZ,.box 26 [.str ⟨#[103]⟩,.ref 4],.box 26 [.str ⟨#[104]⟩,.ref 5],.row 26 2 ((zD i.toNat wdP).map Tm.o),.row 26 2 ((zD j.toNat wdF).map Tm.o)]))⟩) (fun j=>∃ k:Nat,j=k∧k≤4) (fun j=>(4-j).toNat) 0 ⟨0,rfl,by omega⟩ (by simp (disch:=omega) only [go_sem,Aa,hi0,if_false,eq_self,if_true,CN,CO,zB,Tm.CM]) ?_
   rintro j ⟨n,hj,hn4⟩
   have hnj:j.toNat=n:=by omega
   have hnj1:(j+1).toNat=n+1:=by omega
   have hj1:(j+1=0)=False:=by simp; omega
   rcases zF n 4 with hlt2 | hge2
   ·have q2:(j<4)=True:=eq_true (by omega)
    have hsF:=If Tm.o wdF n
    rcases zQ n with hn0 | hn0
    ·subst hn0
     obtain rfl:j=0:=hj
     simp (disch:=omega) only [go_sem,Aa,q2,hi0,if_false,eq_self,if_true,CN,CO,zB,Tm.CM]
     refine ⟨1,⟨1,rfl,by omega⟩,by omega,?_⟩
     simp (disch:=omega) only [go_sem,Aa,hi0,h10,if_false,CN,CO,zB,Tm.CM]
    ·have hj0:(j=0)=False:=by simp; omega
     simp (disch:=omega) only [go_sem,Aa,q2,hi0,hj0,if_false,hnj,CN,CO,zB,Tm.CM]
     refine ⟨j+1,⟨n+1,by omega,by omega⟩,by omega,?_⟩
     simp (disch:=omega) only [go_sem,Aa,hi0,hj1,if_false,hnj,hnj1,hsF,CN,CO,zB,Tm.CM]
   ·obtain rfl:n=4:=by omega
    have hj4:j=4:=hj
    subst hj4
    have q2:((4:Int)=0)=False:=by simp
    simp (disch:=omega) only [go_sem,Aa,q2,hi0,if_false,hni,CN,CO,zB,Tm.CM]
    refine ⟨i+1,⟨k+1,by omega,by omega⟩,by omega,?_⟩
    simp (disch:=omega) only [go_sem,Aa,hi1,if_false,hni1,hsP,CN,CO,zB,Tm.CM]
 ·obtain rfl:k=4:=by omega
  have hi4:i=4:=hi
  subst hi4
  have q2:((4:Int)=0)=False:=by simp
  obtain ⟨b1,p1,s1,hb1,g1,g2⟩:=Jc l hl hn 2 (by omega) (by omega) p s h0 (by omega)
  obtain ⟨b2,p2,s2,hb2,g3,g4⟩:=Jc l hl hn 2 (by omega) (by omega) p1 s1 (by omega) (by omega)
  have n4:(Tm.mk ⟨#[103]⟩ (zD 4 wdP)).nodes=37:=by
   rw [Tm.Af]
   show 1+(wdP.nodes+(wdP.nodes+(wdP.nodes+(wdP.nodes+0))))=37
   rw [G1]
  have n3:(Tm.mk ⟨#[103]⟩ (zD 3 wdP)).nodes=28:=by
   rw [Tm.Af]
   show 1+(wdP.nodes+(wdP.nodes+(wdP.nodes+0)))=28
   rw [G1]
  have n5:(Tm.mk ⟨#[103]⟩ (zD 3 wdP++[.mk ⟨#[102]⟩ [.mk ⟨#[98]⟩ []]])).nodes=30:=by
   rw [Tm.Af]
   show 1+(wdP.nodes+(wdP.nodes+(wdP.nodes+((Tm.mk _ [.mk _ []]).nodes+0))))=30
   rw [G1,Tm.Af]
   show 1+(9+(9+(9+(1+((Tm.mk _ []).nodes+0)+0))))=30
   rw [Tm.Af]; rfl
  cases b1 <;> cases b2
  ·simp (disch:=omega) only [go_sem,Aa,q2,if_false,hb1,hb2,A4]
   rw [hQ]
   exact ⟨.mk ⟨#[103]⟩ (zD 4 wdP),p2,s2,rfl,by omega,by omega⟩
  ·simp (disch:=omega) only [go_sem,Aa,q2,if_false,hb1,hb2,A4]
   rw [hQ]
   exact ⟨.mk ⟨#[103]⟩ (zD 4 wdP),p2,s2,rfl,by omega,by omega⟩
  ·simp (disch:=omega) only [go_sem,Aa,q2,if_false,hb1,hb2,A4]
   rw [hQ]
   exact ⟨.mk ⟨#[103]⟩ (zD 3 wdP),p2,s2,rfl,by omega,by omega⟩
  ·simp (disch:=omega) only [go_sem,Aa,q2,if_false,hb1,hb2,A4]
   rw [hQ]
   exact ⟨.mk ⟨#[103]⟩ (zD 3 wdP++[.mk ⟨#[102]⟩ [.mk ⟨#[98]⟩ []]]),p2,s2,rfl,by omega,by omega⟩
theorem Tm.EH (x:ByteArray) (l:List Tm):(Tm.mk x l).nodes=1+Tm.Bb l:=Tm.Af _
theorem Tm.G2:∀ (a b:List Tm),Tm.Bb (a++b)=Tm.Bb a+Tm.Bb b
 | [],b=>by simp [Tm.Bb]
 | x :: a,b=>by simp only [zT,Tm.Bb,Tm.G2 a b]; omega
theorem Tm.PW (a b c:Tm):Tm.Bb [a,b,c]=a.nodes+(b.nodes+(c.nodes+0)):=rfl
theorem Tm.PX (a:Tm):Tm.Bb [a]=a.nodes+0:=rfl
theorem Tm.Ig (t:Tm):t.args.length+1≤t.nodes:=by
 rw [Tm.Af]
 have:=Tm.length_le t.args
 omega
theorem M1 (l:List Int) (hl:Bytes l) (hn:l.length≤1099511627776) (p s:Int) (h0:0≤p) (h1:p≤1096000000000):∃ t p' s',E 68 [.ptr 0 0] [cur l p s]=some (tmH t 1,[cur l p' s',FY t])∧(p≤p'∧p'≤p+400)∧t.nodes≤150:=by
 obtain ⟨Q,hQ⟩:∃ Q:SV × List Ob→Prop,Q=fun out=>∃ t p' s',out=(tmH t 1,[cur l p' s',FY t])∧(p≤p'∧p'≤p+400)∧t.nodes≤150:=⟨_,rfl⟩
 suffices hq0:∃ out,E 68 [.ptr 0 0] [cur l p s]=some out∧Q out by
  obtain ⟨out,hq1,hq2⟩:=hq0
  rw [hQ] at hq2
  obtain ⟨t,p',s',rfl,hq3⟩:=hq2
  exact ⟨t,p',s',hq1,hq3⟩
 obtain ⟨t,p1,s1,ht,⟨g1,g2⟩,g3⟩:=F5 l hl hn p s h0 (by omega)
 obtain ⟨v,p2,s2,hv,⟨v0,v1⟩,g4,g5⟩:=G0 l hl hn 24 (by omega) (by omega) p1 s1 (by omega) (by omega)
 have hal:=Tm.Ig t
 rcases (show v=0∨v=1∨v=2∨v=3∨v=4∨(¬ v=0∧¬ v=1∧¬ v=2∧¬ v=3∧¬ v=4) by omega) with rfl | rfl | rfl | rfl | rfl | ⟨k0,k1,k2,k3,k4⟩
 ·obtain ⟨x,p3,s3,ho,_,g6,g7⟩:=OM l hl hn [⟨#[]⟩,⟨#[116,114,117,101]⟩,⟨#[116,114,117,116,104]⟩,⟨#[105,102]⟩,⟨#[88,121,122,57]⟩,⟨#[88,121,122,57,57]⟩,⟨#[120,65]⟩,⟨#[97,95,98]⟩,⟨#[97,98,99,100,101,102]⟩,⟨#[97,98,99,100,101,102,103]⟩,⟨#[95,97]⟩,⟨#[57]⟩,⟨#[88,95]⟩,⟨#[61]⟩] (by decide) (by decide) p2 s2 (by omega) (by omega)
  simp only [zA,zN] at ho
  refine AM AH As (of_decide_eq_true rfl) ?_
  simp (disch:=omega) only [A8,go_sem,Aa,ht,hv,ho,Aj,Al,Au,AG,AK]
  rw [hQ]
  exact ⟨.mk x t.args,p3,s3,rfl,by omega,by rw [Tm.EH]; have:=Tm.Af t; omega⟩
 ·obtain ⟨u,p3,s3,hu,⟨u0,u1⟩,g6,g7⟩:=G0 l hl hn 3 (by omega) (by omega) p2 s2 (by omega) (by omega)
  have hi:dec (inK .i64 (7+u))=true:=Ej (by omega) (by omega)
  obtain ⟨t2,p4,s4,ho,⟨g8,g9⟩,g10⟩:=OP l hl hn (7+u) (by omega) (by omega) p3 s3 (by omega) (by omega)
  refine AM AH As (of_decide_eq_true rfl) ?_
  simp (disch:=omega) only [A8,go_sem,Aa,ht,hv,hu,hi,ho,Aj,Al,Au,AG,AK]
  rw [hQ]
  exact ⟨t2,p4,s4,rfl,by omega,g10⟩
 ·obtain ⟨t2,p3,s3,ho,⟨g8,g9⟩,g10⟩:=PV l hl hn p2 s2 (by omega) (by omega)
  refine AM AH As (of_decide_eq_true rfl) ?_
  simp (disch:=omega) only [A8,go_sem,Aa,ht,hv,ho,Aj,Al,Au,AG,AK]
  rw [hQ]
  exact ⟨t2,p3,s3,rfl,by omega,g10⟩
 ·obtain ⟨t2,p3,s3,hu,⟨a1,a2⟩,a3⟩:=F5 l hl hn p2 s2 (by omega) (by omega)
  obtain ⟨t3,p4,s4,hw,⟨b1,b2⟩,b3⟩:=F5 l hl hn p3 s3 (by omega) (by omega)
  obtain ⟨t4,p5,s5,hx,⟨c1,c2⟩,c3⟩:=F5 l hl hn p4 s4 (by omega) (by omega)
  refine AM AH As (of_decide_eq_true rfl) ?_
  simp (disch:=omega) only [A8,go_sem,Aa,ht,hv,hu,hw,hx,Aj,Al,Au,AG,AK]
  rw [hQ]
  refine ⟨.mk t.name (t.args++[t2,t3,t4]),p5,s5,?_,by omega,by rw [Tm.EH,Tm.G2,Tm.PW]; have:=Tm.Af t; omega⟩
  show _=(tmH (.mk t.name (t.args++[t2,t3,t4])) 1,[cur l p5 s5,.row 26 2 ((t.args++[t2,t3,t4]).map Tm.osh)])
  rw [zR]
  rfl
 ·rcases hc:t.args with _ | ⟨a0,ar⟩
  ·have q0:((0:Int)<(t.args.length:Int))=False:=eq_false (by rw [hc]; simp)
   rw [←hc] at *
   refine AM AH As (of_decide_eq_true rfl) ?_
   simp (disch:=omega) only [A8,go_sem,Aa,ht,hv,q0,Aj,Al,Au,AG,AK]
   rw [hQ]
   exact ⟨t,p2,s2,rfl,by omega,by omega⟩
  ·have q0:((0:Int)<(t.args.length:Int))=True:=eq_true (by rw [hc]; simp)
   obtain ⟨x,p3,s3,ho,_,g6,g7⟩:=OM l hl hn [⟨#[61]⟩,⟨#[]⟩,⟨#[81,49]⟩,⟨#[98,50]⟩] (by decide) (by decide) p2 s2 (by omega) (by omega)
   simp only [zA,zN] at ho
   have hm:t.args.map Tm.osh=[.str a0.name,.sh (a0.args.map Tm.d)] :: ar.map Tm.osh:=by rw [hc]; rfl
   have hgl:(t.args.map Tm.osh)[0]?=some [.str a0.name,.sh (a0.args.map Tm.d)]:=by rw [hm]; rfl
   have hst:∀ y,(t.args.map Tm.osh).set 0 y=y :: ar.map Tm.osh:=fun y=>by rw [hm]; rfl
   have q1:0<t.args.length:=by rw [hc]; simp
   have hnn:t.nodes=1+(a0.nodes+Tm.Bb ar):=by rw [Tm.Af,hc]; rfl
   refine AM AH As (of_decide_eq_true rfl) ?_
   simp (disch:=omega) only [A8,go_sem,Aa,ht,hv,q0,ho,hgl,hst,q1,Aj,Al,Au,AG,AK]
   rw [hQ]
   refine ⟨.mk t.name (.mk x a0.args :: ar),p3,s3,?_,by omega,?_⟩
   ·rfl
   ·rw [Tm.EH]
    show 1+((Tm.mk x a0.args).nodes+Tm.Bb ar)≤_
    rw [Tm.EH]
    have:=Tm.Af a0
    omega
 ·have k0:=eq_false k0
  have k1:=eq_false k1
  have k2:=eq_false k2
  have k3:=eq_false k3
  have k4:=eq_false k4
  refine AM AH As (of_decide_eq_true rfl) ?_
  simp (disch:=omega) only [A8,go_sem,Aa,ht,hv,k0,k1,k2,k3,k4,Aj,Al,Au,AG,AK]
  rw [hQ]
  exact ⟨t,p2,s2,rfl,by omega,by omega⟩
theorem J6 (l:List Int) (hl:Bytes l) (hn:l.length≤1099511627776) (p s:Int) (h0:0≤p) (h1:p≤1095000000000):∃ t p' s',E 39 [.ptr 0 0] [cur l p s]=some (tmH t 1,[cur l p' s',FY t])∧(p≤p'∧p'≤p+500)∧t.nodes≤150:=by
 obtain ⟨Q,hQ⟩:∃ Q:SV × List Ob→Prop,Q=fun out=>∃ t p' s',out=(tmH t 1,[cur l p' s',FY t])∧(p≤p'∧p'≤p+500)∧t.nodes≤150:=⟨_,rfl⟩
 suffices hq0:∃ out,E 39 [.ptr 0 0] [cur l p s]=some out∧Q out by
  obtain ⟨out,hq1,hq2⟩:=hq0
  rw [hQ] at hq2
  obtain ⟨t,p',s',rfl,hq3⟩:=hq2
  exact ⟨t,p',s',hq1,hq3⟩
 obtain ⟨b1,p1,s1,hb1,g1,g2⟩:=Jc l hl hn 3 (by omega) (by omega) p s h0 (by omega)
 cases b1 with
 | false =>
  obtain ⟨t2,p3,s3,ho,⟨g8,g9⟩,g10⟩:=M1 l hl hn p1 s1 (by omega) (by omega)
  refine AM Bz Bk (of_decide_eq_true rfl) ?_
  simp (disch:=omega) only [Bj,go_sem,Aa,hb1,ho,A4,Al,AC,As]
  rw [hQ]
  exact ⟨t2,p3,s3,rfl,by omega,g10⟩
 | true =>
  obtain ⟨t,p2,s2,ha,⟨g3,g4⟩,g5⟩:=PU l hl hn p1 s1 (by omega) (by omega)
  obtain ⟨b2,p3,s3,hb2,g6,g7⟩:=Jc l hl hn 12 (by omega) (by omega) p2 s2 (by omega) (by omega)
  have hal:=Tm.Ig t
  cases b2 with
  | false =>
   refine AM Bz Bk (of_decide_eq_true rfl) ?_
   simp (disch:=omega) only [Bj,go_sem,Aa,hb1,ha,hb2,A4,Al,AC,As]
   rw [hQ]
   exact ⟨t,p3,s3,rfl,by omega,by omega⟩
  | true =>
   obtain ⟨t2,p4,s4,hu,⟨a1,a2⟩,a3⟩:=F5 l hl hn p3 s3 (by omega) (by omega)
   refine AM Bz Bk (of_decide_eq_true rfl) ?_
   simp (disch:=omega) only [Bj,go_sem,Aa,hb1,ha,hb2,hu,A4,Al,AC,As]
   rw [hQ]
   refine ⟨.mk t.name (t.args++[t2]),p4,s4,?_,by omega,by rw [Tm.EH,Tm.G2,Tm.PX]; have:=Tm.Af t; omega⟩
   show _=(tmH (.mk t.name (t.args++[t2])) 1,[cur l p4 s4,.row 26 2 ((t.args++[t2]).map Tm.osh)])
   rw [zR]
   rfl
def Cp:SC:=(.seq (.reg [⟨(some 2),none,(.alloc 26 [(.str ⟨#[]⟩),.nil])⟩]) (.seq (.reg [⟨some 4,none,.mv (.t 0)⟩,⟨some 5,none,.build [.nil,(.int .i64 0),(.int .u64 0)] [(0,(1,(.t 4)))]⟩,⟨some 6,none,.boxv 60 3 (.t 5)⟩,⟨some 3,none,.mv (.t 6)⟩]) (.seq (.reg [⟨some 7,none,.mv (.t 3)⟩,⟨some 8,none,.call 39 [(.t 7)]⟩,⟨none,none,(.store 2 (.t 2) (.t 8))⟩]) .ret)))
theorem El:Aq Try.prog 28=some ⟨9,Cp,[(.cell 2 true 2)]⟩:=by kernel_rfl
theorem Cq:modes 28=⟨[],.frz,none,false⟩:=by unfold modes; rfl
def CG:SC:=(.seq (.reg [⟨(some 2),none,(.alloc 26 [(.str ⟨#[]⟩),.nil])⟩]) (.seq (.reg [⟨some 3,none,.mv (.t 0)⟩,⟨some 4,none,.call 28 [(.t 3)]⟩,⟨none,none,(.store 2 (.t 2) (.t 4))⟩]) .ret))
theorem EI:Aq Try.prog 7=some ⟨5,CG,[(.cell 2 true 2)]⟩:=by kernel_rfl
theorem At:modes 7=⟨[],.frz,none,false⟩:=by unfold modes; rfl
theorem Ga (l:List Int) (hl:Bytes l) (hn:l.length≤1099511627776):∃ t:Tm,E 28 [.arr (l.map by_)] []=some (t.sv,[])∧t.nodes≤150:=by
 obtain ⟨t,p1,s1,ht,_,g⟩:=J6 l hl hn 0 0 (by omega) (by omega)
 refine ⟨t,?_,g⟩
 refine Ai El Cq (of_decide_eq_true rfl) ?_
 simp (disch:=omega) only [Cp,go_sem,Aa,ht,Bk,Aj,Al,J2]
theorem Hf (l:List Int) (hl:Bytes l) (hn:l.length≤1099511627776):∃ t:Tm,E 7 [.arr (l.map by_)] []=some (t.sv,[])∧t.nodes≤150:=by
 obtain ⟨t,ht,g⟩:=Ga l hl hn
 refine ⟨t,?_,g⟩
 refine Ai EI At (of_decide_eq_true rfl) ?_
 simp (disch:=omega) only [CG,go_sem,Aa,ht,Cq]
theorem Ky {α:Type} {xs ys:List α} {k:Nat} (hx:k<xs.length) (hy:k<ys.length):xs.drop k=ys.drop k ↔ xs[k]=ys[k]∧xs.drop (k+1)=ys.drop (k+1):=by
 rw [zC hx,zC hy,zV]
theorem Tm.eq_iff (x y:Tm):x=y ↔ x.name=y.name∧x.args=y.args:=by
 obtain ⟨n,a⟩:=x
 obtain ⟨m,b⟩:=y
 rw [Tm.mk.injEq]; rfl
def GS:SC:=(.seq (.reg [⟨some 2,none,.mv (.c (.bool false))⟩]) (.seq (.reg [⟨some 3,none,.mv (.t 0)⟩,⟨some 4,none,.len false (.t 3)⟩,⟨some 5,none,.bin .gtr false (.t 4) (.c (.int .i64 65536))⟩,⟨some 2,none,.mv (.t 5)⟩]) .ret))
theorem Kz:Aq Try.prog 6=some ⟨6,GS,[(.tmp 2)]⟩:=by kernel_rfl
theorem Be:modes 6=⟨[],.asis,none,false⟩:=by unfold modes; rfl
def C9:SC:=(.seq (.reg [⟨some 2,none,.boxv 26 2 (.t 0)⟩,⟨some 3,none,.boxv 26 2 (.t 1)⟩,⟨some 4,none,.mv (.c (.bool false))⟩]) (.seq (.seq (.reg [⟨some 6,none,.faddr 0 (.t 2)⟩,⟨some 7,none,.load false 1 (.t 6)⟩,⟨some 8,none,.faddr 0 (.t 3)⟩,⟨some 9,none,.load false 1 (.t 8)⟩,⟨some 10,none,.bin .neq false (.t 7) (.t 9)⟩,⟨some 11,none,.mv (.t 10)⟩,⟨(some 12),(some (11,false)),(.faddr 1 (.t 2))⟩,⟨(some 13),(some (11,false)),(.load false 1 (.t 12))⟩,⟨(some 14),(some (11,false)),(.len false (.t 13))⟩,⟨(some 15),(some (11,false)),(.faddr 1 (.t 3))⟩,⟨(some 16),(some (11,false)),(.load false 1 (.t 15))⟩,⟨(some 17),(some (11,false)),(.len false (.t 16))⟩,⟨(some 18),(some (11,false)),(.bin .neq false (.t 14) (.t 17))⟩,⟨some 19,none,.pick (.t 11) (.c (.bool true)) (.t 18)⟩]) (.cond (.t 19) (.seq (.reg [⟨some 4,none,.mv (.c (.bool false))⟩]) .ret) .skip)) (.seq (.seq (.reg [⟨some 5,none,.mv (.c (.int .i64 0))⟩]) (.block 0 (.loop [0,0,1,1,0,1,0,0,0,0,0,0,0,0,0,0,0,0,0,0,0,0,0,0,0,0,0,0,0,0,0,0,0,0,0,0,0,0,0] (.seq (.seq (.reg [⟨some 20,none,.mv (.t 5)⟩,⟨some 21,none,.faddr 1 (.t 2)⟩,⟨some 22,none,.load false 1 (.t 21)⟩,⟨some 23,none,.len false (.t 22)⟩,⟨some 24,none,.bin .lss false (.t 20) (.t 23)⟩]) (.cond (.t 24) .skip (.exit 0))) (.seq (.block 1 (.seq (.dreg [[],[0],[],[1,0,2],[3,1,0,2],[],[5],[],[6,5,7],[8,6,5,7],[4,3,1,0,2,9,8,6,5,7],[10,4,3,1,0,2,9,8,6,5,7]] [⟨some 27,none,.faddr 1 (.t 2)⟩,⟨some 28,none,.load false 1 (.t 27)⟩,⟨some 29,none,.mv (.t 5)⟩,⟨some 30,none,.iaddr 2 (.t 28) (.t 29)⟩,⟨some 31,none,.load true 2 (.t 30)⟩,⟨some 32,none,.faddr 1 (.t 3)⟩,⟨some 33,none,.load false 1 (.t 32)⟩,⟨some 34,none,.mv (.t 5)⟩,⟨some 35,none,.iaddr 2 (.t 33) (.t 34)⟩,⟨some 36,none,.load true 2 (.t 35)⟩,⟨some 37,none,.call 15 [(.t 31),(.t 36)]⟩,⟨some 38,none,.un .not (.t 37)⟩]) (.cond (.t 38) (.seq (.reg [⟨some 4,none,.mv (.c (.bool false))⟩]) .ret) .skip))) (.reg [⟨some 25,none,.mv (.t 5)⟩,⟨some 26,none,.bin .add false (.t 25) (.c (.int .i64 1))⟩,⟨some 5,none,.mv (.t 26)⟩])))))) (.seq (.reg [⟨some 4,none,.mv (.c (.bool true))⟩]) .ret))))
theorem D9:Aq Try.prog 15=some ⟨39,C9,[(.tmp 4)]⟩:=by kernel_rfl
theorem A7:modes 15=⟨[],.asis,none,false⟩:=by unfold modes; rfl
theorem PY (l:List Int):E 6 [.arr (l.map by_)] []=some (.bool (dec (65536<(l.length:Int))),[]):=by
 refine Ai Kz Be (of_decide_eq_true rfl) ?_
 simp (disch:=omega) only [GS,go_sem,Aa]
theorem M2 (x:Tm) (y:Tm) (hnx:x.nodes≤1099511627776) (hny:y.nodes≤1099511627776) (ih:∀ x'∈x.args,∀ y':Tm,x'.nodes≤1099511627776→y'.nodes≤1099511627776→E 15 [x'.sv,y'.sv] []=some (.bool (dec (x'=y')),[])):E 15 [x.sv,y.sv] []=some (.bool (dec (x=y)),[]):=by
 have lx:=Tm.length_le x.args
 have ly:=Tm.length_le y.args
 have nx:=Tm.Af x
 have ny:=Tm.Af y
 rw [J0 (Tm.eq_iff x y)]
 by_cases h0:x.name=y.name
 ·rw [J0 (and_iff_right h0)]
  have hq:(x.name=y.name)=True:=by simp [h0]
  by_cases hlen:x.args.length=y.args.length
  ·have hq2:((x.args.length:Int)=(y.args.length:Int))=True:=by first | exact eq_true (by omega) | exact eq_false (by omega)
   refine Ai D9 A7 (of_decide_eq_true rfl) ?_
   simp (disch:=omega) only [C9,go_sem,Aa,hq,hq2]
   refine go_loop (α:=Int) (fun a=>⟨slots 39 0 [(2,.ptr 0 0),(3,.ptr 1 0),(5,.int .i64 a)],[.box 26 [.str x.name,.arr (x.args.map Tm.d)],.box 26 [.str y.name,.arr (y.args.map Tm.d)]]⟩) (fun a=>∃ k:Nat,a=k∧k≤(x.args).length∧dec (x.args.drop k=y.args.drop k)=dec (x.args=y.args)) (fun a=>(x.args).length-(a).toNat) 0 ⟨0,rfl,zL _,by rw [zI,zI]⟩ (by simp (disch:=omega) only [go_sem,Aa]) ?_
   rintro i ⟨k,hi,hk,hR⟩
   have hni:i.toNat=k:=by omega
   have hni1:(i+1).toNat=k+1:=by omega
   rcases zF k (x.args).length with hlt | hge
   ·have hgx:=get_at Tm.d hlt
    rw [Tm.ED] at hgx
    have hlt':k<y.args.length:=by omega
    have hgy:=get_at Tm.d hlt'
    rw [Tm.ED] at hgy
    have hc:=ih x.args[k] (zE hlt) y.args[k] (by have:=Tm.BH (zE hlt); omega) (by have:=Tm.BH (zE hlt'); omega)
    rw [J0 (Ky hlt hlt')] at hR
    by_cases h0:x.args[k]=y.args[k]
    ·rw [BN h0] at hc
     rw [J0 (and_iff_right h0)] at hR
     simp (disch:=omega) only [go_sem,Aa,hni,hgx,hgy,hc,A7]
     exact ⟨i+1,⟨k+1,by omega,hlt,hR⟩,by omega,by first | trivial | rfl⟩
    ·rw [Cv h0] at hc
     rw [Cv (fun h=>h0 h.1)] at hR
     simp (disch:=omega) only [go_sem,Aa,hni,hgx,hgy,hc,A7]
     exact hR
   ·rw [zG hge,zG (by omega),HZ] at hR
    simp (disch:=omega) only [go_sem,Aa,hni]
    exact hR
  ·have hq2:((x.args.length:Int)=(y.args.length:Int))=False:=by first | exact eq_true (by omega) | exact eq_false (by omega)
   have he:dec (x.args=y.args)=false:=Cv fun h=>hlen (by rw [h])
   rw [he]
   refine Ai D9 A7 (of_decide_eq_true rfl) ?_
   simp (disch:=omega) only [C9,go_sem,Aa,hq,hq2]
 ·have hq:(x.name=y.name)=False:=by simp [h0]
  rw [Cv (fun h=>h0 h.1)]
  refine Ai D9 A7 (of_decide_eq_true rfl) ?_
  simp (disch:=omega) only [C9,go_sem,Aa,hq]
theorem Ih (x y:Tm) (hnx:x.nodes≤1099511627776) (hny:y.nodes≤1099511627776):E 15 [x.sv,y.sv] []=some (.bool (dec (x=y)),[]) :=
 M2 x y hnx hny fun x' hx' y' h h'=>Ih x' y' h h'
termination_by SizeOf.sizeOf x
decreasing_by exact Tm.AU hx'
mutual
def Tm.pos:Tm→List (List Int)
 | .mk _ xs=>[] :: Tm.F7 xs 0
def Tm.F7:List Tm→Int→List (List Int)
 | [],_=>[]
 | x :: xs,k=>(Tm.pos x).map (k :: ·)++Tm.F7 xs (k+1)
end
theorem Tm.pos_eq (x:Tm):x.pos=[] :: Tm.F7 x.args 0:=by
 obtain ⟨n,xs⟩:=x
 rw [Tm.pos]; rfl
theorem Tm.K0:∀ (xs:List Tm) (k:Int),(∀ y∈xs,y.pos.length=y.nodes)→(Tm.F7 xs k).length=Tm.Bb xs
 | [],_,_=>by rw [Tm.F7]; rfl
 | x :: xs,k,h=>by rw [Tm.F7,zZ,zY,h x (by simp),Tm.K0 xs (k+1) fun y hy=>h y (by simp [hy]),Tm.Bb]
theorem Tm.Ho (x:Tm):x.pos.length=x.nodes:=by
 rw [Tm.pos_eq,Tm.Af,zS,Tm.K0 x.args 0 fun y hy=>Tm.Ho y]
 omega
termination_by SizeOf.sizeOf x
decreasing_by exact Tm.AU hy
def Tm.at_:Tm→List Int→Option Tm
 | x,[]=>some x
 | x,k :: p=>if h:0≤k∧k.toNat < x.args.length then Tm.at_ (x.args[k.toNat]'h.2) p else none
def Tm.rep:Tm→List Int→Tm→Tm
 | _,[],s=>s
 | x,k :: p,s=>.mk x.name (x.args.set k.toNat (Tm.rep (x.args.getD k.toNat x) p s))
theorem Tm.Ii:∀ (xs:List Tm) (k:Int) (p:List Int),p∈Tm.F7 xs k→∃ (j:Nat) (h:j<xs.length) (q:List Int),p=(k+j) :: q∧q∈(xs[j]).pos
 | [],_,_,h=>by rw [Tm.F7] at h; cases h
 | x :: xs,k,p,h=>by
  rw [Tm.F7,List.mem_append] at h
  rcases h with h | h
  ·obtain ⟨q,hq,rfl⟩:=List.mem_map.1 h
   exact ⟨0,by simp,q,by simp,hq⟩
  ·obtain ⟨j,hj,q,rfl,hq⟩:=Tm.Ii xs (k+1) p h
   exact ⟨j+1,by simpa using hj,q,by congr 1; omega,by simpa using hq⟩
theorem Tm.pos_at:∀ (p:List Int) (x:Tm),p∈x.pos→∃ s,x.at_ p=some s∧s.nodes≤x.nodes
 | [],x,_=>⟨x,by rw [Tm.at_],zX _⟩
 | k :: q,x,h=>by
  rw [Tm.pos_eq] at h
  rcases zU.1 h with h | h
  ·cases h
  ·obtain ⟨j,hj,q',e,hq⟩:=Tm.Ii _ _ _ h
   injection e with e1 e2
   subst e2
   have hk:k.toNat=j:=by omega
   obtain ⟨s,hs,hn⟩:=Tm.pos_at q x.args[j] hq
   refine ⟨s,?_,?_⟩
   ·rw [Tm.at_,dif_pos ⟨by omega,by omega⟩]
    simp only [hk]
    exact hs
   ·have:=Tm.BD x.args j hj
    have:=Tm.Af x
    omega
theorem Tm.Gb:∀ (p:List Int) (x:Tm),p∈x.pos→p.length<x.nodes
 | [],x,_=>by have:=Tm.IY x; simp; omega
 | k :: q,x,h=>by
  rw [Tm.pos_eq] at h
  rcases zU.1 h with h | h
  ·cases h
  ·obtain ⟨j,hj,q',e,hq⟩:=Tm.Ii _ _ _ h
   injection e with e1 e2
   subst e2
   have h1:=Tm.Gb q x.args[j] hq
   have:=Tm.BD x.args j hj
   have:=Tm.Af x
   simp only [zS]; omega
theorem Tm.PZ (x:Tm):Tm.mk x.name x.args=x:=by cases x; rfl
theorem Tm.NA:∀ (p:List Int) (x s:Tm),x.at_ p=some s→x.rep p s=x
 | [],x,s,h=>by rw [Tm.at_] at h; rw [Tm.rep]; exact (zJ h).symm
 | k :: q,x,s,h=>by
  rw [Tm.at_] at h
  split at h
  ·rename_i hk
   have ih:=Tm.NA q _ s h
   rw [Tm.rep,z0,zM hk.2]
   simp only [z2]
   rw [ih,List.set_getElem_self,Tm.PZ]
  ·cases h
abbrev iD (n:Int):List D:=[D.int n]
abbrev iO (n:Int):List OT:=[OT.int n]
abbrev pD (p:List Int):List D:=[D.arr (p.map iD)]
abbrev pO (p:List Int):List OT:=[OT.ow (p.map iO)]
theorem Pd:∀ p:List Int,OT.erss (p.map iO)=p.map iD
 | []=>rfl
 | x :: p=>by simp only [zA,OT.erss,OT.ers,OT.er,Pd p]
theorem LN:∀ p:List Int,OT.Av (p.map iO)=true
 | []=>rfl
 | x :: p=>by simp only [zA,OT.Av,OT.Ch,OT.full,LN p,zH]
theorem NB:∀ l:List (List Int),OT.erss (l.map pO)=l.map pD
 | []=>rfl
 | x :: l=>by simp only [zA,OT.erss,OT.ers,OT.er,Pd,NB l]
theorem J7:∀ l:List (List Int),OT.Av (l.map pO)=true
 | []=>rfl
 | x :: l=>by simp only [zA,OT.Av,OT.Ch,OT.full,LN,J7 l,zH]
theorem Pe (p:List Int):(p.map iD).map (·.map D.ot)=p.map iO:=by rw [List.map_map]; rfl
theorem NC (p:List Int):((p.map iO).all fun e=>e.length == 1)=true:=by rw [List.all_map,z1]; intro x _; rfl
theorem Li (p:List Int):((p.map iD).all fun e=>e.length == 1)=true:=by rw [List.all_map,z1]; intro x _; rfl
def BW:SC:=(.seq (.reg [⟨some 6,none,.mv (.c (.bool false))⟩]) (.seq (.reg [⟨some 7,none,.mv (.t 0)⟩,⟨some 8,none,.mv (.t 1)⟩,⟨some 9,none,.bin .geq false (.t 7) (.t 8)⟩,⟨some 10,none,.mv (.t 9)⟩,⟨(some 11),(some (10,true)),(.mv (.t 0))⟩,⟨(some 12),(some (10,true)),(.mv (.t 2))⟩,⟨(some 13),(some (10,true)),(.bin .leq false (.t 11) (.t 12))⟩,⟨some 14,none,.pick (.t 10) (.t 13) (.c (.bool false))⟩,⟨some 6,none,.mv (.t 14)⟩]) .ret))
theorem CA:Aq Try.prog 61=some ⟨15,BW,[(.tmp 6)]⟩:=by kernel_rfl
theorem BX:modes 61=⟨[],.asis,none,false⟩:=by unfold modes; rfl
theorem M3 (n lo hi:Int):E 61 [.int .i64 n,.int .i64 lo,.int .i64 hi] []=some (.bool (dec (lo≤n)&&dec (n≤hi)),[]):=by
 cases h1:dec (lo≤n)
 ·cases h2:dec (n≤hi)
  ·refine Ai CA BX (of_decide_eq_true rfl) ?_
   simp (disch:=omega) only [BW,go_sem,Aa,h1,h2]
  ·refine Ai CA BX (of_decide_eq_true rfl) ?_
   simp (disch:=omega) only [BW,go_sem,Aa,h1,h2]
 ·cases h2:dec (n≤hi)
  ·refine Ai CA BX (of_decide_eq_true rfl) ?_
   simp (disch:=omega) only [BW,go_sem,Aa,h1,h2]
  ·refine Ai CA BX (of_decide_eq_true rfl) ?_
   simp (disch:=omega) only [BW,go_sem,Aa,h1,h2]
def GT:SC:=(.seq (.reg [⟨some 1,none,.boxv 26 2 (.t 0)⟩,⟨some 2,none,.mv (.c (.int .i64 0))⟩]) (.seq (.reg [⟨some 3,none,.mv (.c (.int .i64 1))⟩]) (.seq (.seq (.reg [⟨some 6,none,.faddr 1 (.t 1)⟩,⟨some 7,none,.load false 1 (.t 6)⟩,⟨some 8,none,.len false (.t 7)⟩,⟨some 9,none,.mv (.c (.int .i64 0))⟩]) (.block 0 (.loop [0,0,0,1,0,0,0,1,1,1,0,0,0,0,0,0,0,0,0,0,0,0] (.seq (.reg [⟨some 10,none,.bin .lss false (.t 9) (.t 8)⟩]) (.seq (.cond (.t 10) .skip (.exit 0)) (.seq (.block 1 (.seq (.reg [⟨some 11,none,.iaddr 2 (.t 7) (.t 9)⟩,⟨some 12,none,.load true 2 (.t 11)⟩,⟨(some 5),none,(.alloc 26 [(.str ⟨#[]⟩),.nil])⟩,⟨none,none,(.store 2 (.t 5) (.t 12))⟩]) (.seq (.seq (.reg [⟨some 13,none,.mv (.t 3)⟩,⟨some 14,none,.bin .gtr false (.t 13) (.c (.int .i64 30))⟩]) (.cond (.t 14) (.seq (.reg [⟨some 15,none,.mv (.t 3)⟩,⟨some 2,none,.mv (.t 15)⟩]) .ret) .skip)) (.reg [⟨some 16,none,.mv (.t 3)⟩,⟨some 17,none,.load true 2 (.t 5)⟩,⟨some 18,none,.call 31 [(.t 17)]⟩,⟨some 19,none,.bin .add false (.t 16) (.t 18)⟩,⟨some 3,none,.mv (.t 19)⟩])))) (.reg [⟨some 20,none,.bin .add false (.t 9) (.c (.int .i64 1))⟩,⟨some 9,none,.mv (.t 20)⟩]))))))) (.seq (.reg [⟨some 21,none,.mv (.t 3)⟩,⟨some 2,none,.mv (.t 21)⟩]) .ret))))
theorem K1:Aq Try.prog 31=some ⟨22,GT,[(.tmp 2)]⟩:=by kernel_rfl
theorem Ci:modes 31=⟨[],.asis,none,false⟩:=by unfold modes; rfl
theorem OQ (x:Tm) (hn:x.nodes≤1099511627776) (ih:∀ y∈x.args,E 31 [y.sv] []=some (.int .i64 y.cap,[])):E 31 [x.sv] []=some (.int .i64 x.cap,[]):=by
 have hl:=Tm.length_le x.args
 have hx:=Tm.Af x
 rw [Tm.N8]
 refine Ai K1 Ci (of_decide_eq_true rfl) ?_
 simp (disch:=omega) only [GT,go_sem,Aa]
 refine go_loop (α:=Int × Int) (fun a=>⟨slots 22 0 [(3,.int .i64 a.2),(7,.arr (x.args.map Tm.d)),(8,.int .i64 x.args.length),(9,.int .i64 a.1)],[]⟩) (fun a=>∃ k:Nat,a.1=k∧k≤x.args.length∧1≤a.2∧a.2+Tm.Bb (x.args.drop k)≤x.nodes∧Tm.Gy (x.args.drop k) a.2=Tm.Gy x.args 1) (fun a=>x.args.length-a.1.toNat) (0,1) ⟨0,rfl,zL _,by dsimp only; omega,by rw [zI]; dsimp only; omega,rfl⟩ (by simp (disch:=omega) only [go_sem,Aa]) ?_
 rintro ⟨i,n⟩ ⟨k,hi,hk,hn0,hn1,hs⟩
 dsimp only at hi hn0 hn1 hs
 have hni:i.toNat=k:=by omega
 rcases zF k x.args.length with hlt | hge
 ·have hg:=get_at Tm.d hlt
  rw [Tm.ED] at hg
  have hd:x.args.drop k=x.args[k] :: x.args.drop (k+1):=zC hlt
  have hc:=ih x.args[k] (zE hlt)
  have hp:=Tm.EG x.args[k]
  rw [hd,Tm.Gy] at hs
  rw [hd,Tm.Bb] at hn1
  rcases Int.lt_or_le 30 n with h30 | h30
  ·rw [if_pos h30] at hs
   simp (disch:=omega) only [go_sem,Aa,hni,hg,hc,Ci]
   exact hs
  ·rw [if_neg (by omega)] at hs
   simp (disch:=omega) only [go_sem,Aa,hni,hg,hc,Ci]
   refine ⟨(i+1,n+x.args[k].cap),⟨k+1,by dsimp only; omega,hlt,by dsimp only; omega,by dsimp only; omega,hs⟩,by dsimp only; omega,?_⟩
   simp only [and_self]
 ·have hd:x.args.drop k=[]:=zG hge
  rw [hd,Tm.Gy] at hs
  simp (disch:=omega) only [go_sem,Aa,hni]
  exact hs
theorem Lj (x:Tm) (hn:x.nodes≤1099511627776):E 31 [x.sv] []=some (.int .i64 x.cap,[]) :=
 OQ x hn fun y hy=>Lj y (by have:=Tm.BH hy; have:=Tm.Af x; omega)
termination_by SizeOf.sizeOf x
decreasing_by exact Tm.AU hy
def Fk:SC:=(.seq (.reg [⟨some 2,none,.boxv 26 2 (.t 0)⟩,⟨some 4,none,.mv (.c (.int .i64 0))⟩]) (.seq (.reg [⟨some 5,none,.mv (.c (.int .i64 1))⟩]) (.seq (.seq (.reg [⟨some 6,none,.mv (.c (.int .i64 0))⟩]) (.block 0 (.loop [0,1,1,0,0,1,1,0,0,0,0,0,0,0,0,0,0,0,0,0,0,0,0,0,0,0,0,0,0,0,0] (.seq (.seq (.reg [⟨some 7,none,.mv (.t 6)⟩,⟨some 8,none,.faddr 1 (.t 2)⟩,⟨some 9,none,.load false 1 (.t 8)⟩,⟨some 10,none,.len false (.t 9)⟩,⟨some 11,none,.bin .lss false (.t 7) (.t 10)⟩,⟨some 12,none,.mv (.t 11)⟩,⟨(some 13),(some (12,true)),(.mv (.t 5))⟩,⟨(some 14),(some (12,true)),(.mv (.t 1))⟩,⟨(some 15),(some (12,true)),(.bin .leq false (.t 13) (.t 14))⟩,⟨some 16,none,.pick (.t 12) (.t 15) (.c (.bool false))⟩]) (.cond (.t 16) .skip (.exit 0))) (.seq (.block 1 (.reg [⟨some 19,none,.mv (.t 5)⟩,⟨some 20,none,.faddr 1 (.t 2)⟩,⟨some 21,none,.load false 1 (.t 20)⟩,⟨some 22,none,.mv (.t 6)⟩,⟨some 23,none,.iaddr 2 (.t 21) (.t 22)⟩,⟨some 24,none,.load true 2 (.t 23)⟩,⟨some 25,none,.mv (.t 1)⟩,⟨some 26,none,.mv (.t 5)⟩,⟨some 27,none,.bin .sub false (.t 25) (.t 26)⟩,⟨some 28,none,.call 89 [(.t 24),(.t 27)]⟩,⟨some 29,none,.bin .add false (.t 19) (.t 28)⟩,⟨some 5,none,.mv (.t 29)⟩])) (.reg [⟨some 17,none,.mv (.t 6)⟩,⟨some 18,none,.bin .add false (.t 17) (.c (.int .i64 1))⟩,⟨some 6,none,.mv (.t 18)⟩])))))) (.seq (.reg [⟨some 30,none,.mv (.t 5)⟩,⟨some 4,none,.mv (.t 30)⟩]) .ret))))
theorem Iu:Aq Try.prog 89=some ⟨31,Fk,[(.tmp 4)]⟩:=by kernel_rfl
theorem BY:modes 89=⟨[],.asis,none,false⟩:=by unfold modes; rfl
theorem OR (x:Tm) (m:Int) (hm:0≤m) (hm1:m≤1099511627776) (hn:x.nodes≤1099511627776) (ih:∀ y∈x.args,∀ m:Int,0≤m→m≤1099511627776→E 89 [y.sv,.int .i64 m] []=some (.int .i64 (y.many m),[])):E 89 [x.sv,.int .i64 m] []=some (.int .i64 (x.many m),[]):=by
 have hl:=Tm.length_le x.args
 have hx:=Tm.Af x
 rw [Tm.LK]
 refine Ai Iu BY (of_decide_eq_true rfl) ?_
 simp (disch:=omega) only [Fk,go_sem,Aa]
 refine go_loop (α:=Int × Int) (fun a=>⟨slots 31 0 [(1,.int .i64 m),(2,.ptr 0 0),(5,.int .i64 a.2),(6,.int .i64 a.1)],[.box 26 [.str x.name,.arr (x.args.map Tm.d)]]⟩) (fun a=>∃ k:Nat,a.1=k∧k≤x.args.length∧1≤a.2∧a.2+Tm.Bb (x.args.drop k)≤x.nodes∧Tm.DT (x.args.drop k) m a.2=Tm.DT x.args m 1) (fun a=>x.args.length-a.1.toNat) (0,1) ⟨0,rfl,zL _,by dsimp only; omega,by rw [zI]; dsimp only; omega,rfl⟩ (by simp (disch:=omega) only [go_sem,Aa]) ?_
 rintro ⟨i,n⟩ ⟨k,hi,hk,hn0,hn1,hs⟩
 dsimp only at hi hn0 hn1 hs
 have hni:i.toNat=k:=by omega
 rcases zF k x.args.length with hlt | hge
 ·have hg:=get_at Tm.d hlt
  rw [Tm.ED] at hg
  have hd:x.args.drop k=x.args[k] :: x.args.drop (k+1):=zC hlt
  rw [hd,Tm.DT] at hs
  rw [hd,Tm.Bb] at hn1
  rcases Int.lt_or_le m n with h30 | h30
  ·rw [if_neg (by omega)] at hs
   simp (disch:=omega) only [go_sem,Aa,hni,hg,BY]
   exact hs
  ·rw [if_pos h30] at hs
   have hc:=ih x.args[k] (zE hlt) (m-n) (by omega) (by omega)
   have hp:=Tm.Fb x.args[k] (m-n)
   simp (disch:=omega) only [go_sem,Aa,hni,hg,hc,BY]
   refine ⟨(i+1,n+x.args[k].many (m-n)),⟨k+1,by dsimp only; omega,hlt,by dsimp only; omega,by dsimp only; omega,hs⟩,by dsimp only; omega,?_⟩
   simp only [and_self]
 ·have hd:x.args.drop k=[]:=zG hge
  rw [hd,Tm.DT] at hs
  simp (disch:=omega) only [go_sem,Aa,hni]
  exact hs
theorem ND (x:Tm) (m:Int) (hm:0≤m) (hm1:m≤1099511627776) (hn:x.nodes≤1099511627776):E 89 [x.sv,.int .i64 m] []=some (.int .i64 (x.many m),[]) :=
 OR x m hm hm1 hn fun y hy m hm hm1=>ND y m hm hm1 (by have:=Tm.BH hy; have:=Tm.Af x; omega)
termination_by SizeOf.sizeOf x
decreasing_by exact Tm.AU hy
def Gc:SC:=(.seq (.reg [⟨some 1,none,.boxv 26 2 (.t 0)⟩,⟨some 2,none,.mv (.c (.int .i64 0))⟩]) (.seq (.reg [⟨some 3,none,.mv (.c (.int .i64 0))⟩]) (.seq (.seq (.reg [⟨some 6,none,.faddr 1 (.t 1)⟩,⟨some 7,none,.load false 1 (.t 6)⟩,⟨some 8,none,.len false (.t 7)⟩,⟨some 9,none,.mv (.c (.int .i64 0))⟩]) (.block 0 (.loop [0,0,0,1,0,0,0,1,1,1,0,0,0,0,0,0,0,0,0,0] (.seq (.reg [⟨some 10,none,.bin .lss false (.t 9) (.t 8)⟩]) (.seq (.cond (.t 10) .skip (.exit 0)) (.seq (.block 1 (.seq (.reg [⟨some 11,none,.iaddr 2 (.t 7) (.t 9)⟩,⟨some 12,none,.load true 2 (.t 11)⟩,⟨(some 5),none,(.alloc 26 [(.str ⟨#[]⟩),.nil])⟩,⟨none,none,(.store 2 (.t 5) (.t 12))⟩]) (.reg [⟨some 13,none,.mv (.t 3)⟩,⟨some 14,none,.load true 2 (.t 5)⟩,⟨some 15,none,.call 63 [(.t 14)]⟩,⟨some 16,none,.minmax true (.t 13) (.t 15)⟩,⟨some 3,none,.mv (.t 16)⟩]))) (.reg [⟨some 17,none,.bin .add false (.t 9) (.c (.int .i64 1))⟩,⟨some 9,none,.mv (.t 17)⟩]))))))) (.seq (.reg [⟨some 18,none,.mv (.t 3)⟩,⟨some 19,none,.bin .add false (.t 18) (.c (.int .i64 1))⟩,⟨some 2,none,.mv (.t 19)⟩]) .ret))))
theorem J8:Aq Try.prog 63=some ⟨20,Gc,[(.tmp 2)]⟩:=by kernel_rfl
theorem CS:modes 63=⟨[],.asis,none,false⟩:=by unfold modes; rfl
def Fl:SC:=(.seq (.reg [⟨some 4,none,.mv (.c (.int .i64 0))⟩]) (.seq (.seq (.reg [⟨some 5,none,.mv (.t 0)⟩,⟨some 6,none,.mv (.t 1)⟩,⟨some 7,none,.bin .gtr false (.t 5) (.t 6)⟩]) (.cond (.t 7) (.seq (.reg [⟨some 8,none,.mv (.t 0)⟩,⟨some 4,none,.mv (.t 8)⟩]) .ret) .skip)) (.seq (.reg [⟨some 9,none,.mv (.t 1)⟩,⟨some 4,none,.mv (.t 9)⟩]) .ret)))
theorem Iv:Aq Try.prog 102=some ⟨10,Fl,[(.tmp 4)]⟩:=by kernel_rfl
theorem Fn:modes 102=⟨[],.asis,none,false⟩:=by unfold modes; rfl
def EJ:SC:=(.seq (.reg [⟨some 1,none,.boxv 26 2 (.t 0)⟩,⟨some 2,none,.mv (.c (.int .i64 0))⟩]) (.seq (.reg [⟨some 3,none,.mv (.c (.int .i64 0))⟩]) (.seq (.seq (.reg [⟨some 4,none,.mv (.c (.int .i64 0))⟩]) (.block 0 (.loop [0,1,0,1,1,0,0,0,0,0,0,0,0,0,0,0,0,0,0,0,0,0] (.seq (.seq (.reg [⟨some 5,none,.mv (.t 4)⟩,⟨some 6,none,.faddr 1 (.t 1)⟩,⟨some 7,none,.load false 1 (.t 6)⟩,⟨some 8,none,.len false (.t 7)⟩,⟨some 9,none,.bin .lss false (.t 5) (.t 8)⟩]) (.cond (.t 9) .skip (.exit 0))) (.seq (.block 1 (.reg [⟨some 12,none,.mv (.t 3)⟩,⟨some 13,none,.faddr 1 (.t 1)⟩,⟨some 14,none,.load false 1 (.t 13)⟩,⟨some 15,none,.mv (.t 4)⟩,⟨some 16,none,.iaddr 2 (.t 14) (.t 15)⟩,⟨some 17,none,.load true 2 (.t 16)⟩,⟨some 18,none,.call 90 [(.t 17)]⟩,⟨some 19,none,.call 102 [(.t 12),(.t 18)]⟩,⟨some 3,none,.mv (.t 19)⟩])) (.reg [⟨some 10,none,.mv (.t 4)⟩,⟨some 11,none,.bin .add false (.t 10) (.c (.int .i64 1))⟩,⟨some 4,none,.mv (.t 11)⟩])))))) (.seq (.reg [⟨some 20,none,.mv (.t 3)⟩,⟨some 21,none,.bin .add false (.t 20) (.c (.int .i64 1))⟩,⟨some 2,none,.mv (.t 21)⟩]) .ret))))
theorem Ij:Aq Try.prog 90=some ⟨22,EJ,[(.tmp 2)]⟩:=by kernel_rfl
theorem Cr:modes 90=⟨[],.asis,none,false⟩:=by unfold modes; rfl
theorem NE (a b:Int):E 102 [.int .i64 a,.int .i64 b] []=some (.int .i64 (max a b),[]):=by
 refine Ai Iv Fn (of_decide_eq_true rfl) ?_
 simp (disch:=omega) only [Fl,go_sem,Aa]
 repeat' (refine Kr (fun hq=>?_) (fun hq=>?_) <;> (first | replace hq:=Ap.1 hq | replace hq:=Ds.1 hq) <;> (try simp (disch:=omega) only [go_sem,Aa]))
 all_goals omega
theorem NF (x:Tm) (hn:x.nodes≤1099511627776) (ih:∀ y∈x.args,E 63 [y.sv] []=some (.int .i64 y.deep,[])):E 63 [x.sv] []=some (.int .i64 x.deep,[]):=by
 have hl:=Tm.length_le x.args
 have hx:=Tm.Af x
 have hd1:=Tm.J1 x
 have hd2:=Tm.D8 x
 refine Ai J8 CS (of_decide_eq_true rfl) ?_
 simp (disch:=omega) only [Gc,go_sem,Aa]
 refine go_loop (α:=Int × (Int)) (fun a=>⟨slots 20 0 [(3,.int .i64 (a.2)),(7,.arr (x.args.map Tm.d)),(8,.int .i64 x.args.length),(9,.int .i64 (a.1))],[]⟩) (fun a=>∃ k:Nat,a.1=k∧k≤(x.args).length∧0≤(a.2)∧max (a.2) (Tm.Dw (x.args.drop k):Nat)=(Tm.Dw x.args:Nat)) (fun a=>(x.args).length-(a.1).toNat) (0,0) ⟨0,rfl,zL _,by dsimp only; omega,by rw [zI]; dsimp only; omega⟩ (by simp (disch:=omega) only [go_sem,Aa]) ?_
 rintro ⟨i,n⟩ ⟨k,hi,hk,hR⟩
 dsimp only at hi hR
 have hni:i.toNat=k:=by omega
 have hni1:(i+1).toNat=k+1:=by omega
 rcases zF k (x.args).length with hlt | hge
 ·have hg:=get_at Tm.d hlt
  rw [Tm.ED] at hg
  have hc:=ih x.args[k] (zE hlt)
  rw [zC hlt,Tm.Dw] at hR
  simp (disch:=omega) only [go_sem,Aa,hni,hg,hc,CS,OL]
  refine ⟨(i+1,max n (x.args[k].deep:Int)),⟨k+1,by dsimp only; omega,hlt,by dsimp only; omega⟩,by dsimp only; omega,?_⟩
  simp only [and_self]
 ·rw [zG hge,Tm.Dw] at hR
  simp (disch:=omega) only [go_sem,Aa,hni]
  omega
theorem LO (x:Tm) (hn:x.nodes≤1099511627776):E 63 [x.sv] []=some (.int .i64 x.deep,[]) :=
 NF x hn fun y hy=>LO y (by have:=Tm.BH hy; have:=Tm.Af x; omega)
termination_by SizeOf.sizeOf x
decreasing_by exact Tm.AU hy
theorem Lk (x:Tm) (hn:x.nodes≤1099511627776) (ih:∀ y∈x.args,E 90 [y.sv] []=some (.int .i64 y.deep,[])):E 90 [x.sv] []=some (.int .i64 x.deep,[]):=by
 have hl:=Tm.length_le x.args
 have hx:=Tm.Af x
 have hd1:=Tm.J1 x
 have hd2:=Tm.D8 x
 refine Ai Ij Cr (of_decide_eq_true rfl) ?_
 simp (disch:=omega) only [EJ,go_sem,Aa]
 refine go_loop (α:=Int × (Int)) (fun a=>⟨slots 22 0 [(1,.ptr 0 0),(3,.int .i64 (a.2)),(4,.int .i64 (a.1))],[.box 26 [.str x.name,.arr (x.args.map Tm.d)]]⟩) (fun a=>∃ k:Nat,a.1=k∧k≤(x.args).length∧0≤(a.2)∧max (a.2) (Tm.Dw (x.args.drop k):Nat)=(Tm.Dw x.args:Nat)) (fun a=>(x.args).length-(a.1).toNat) (0,0) ⟨0,rfl,zL _,by dsimp only; omega,by rw [zI]; dsimp only; omega⟩ (by simp (disch:=omega) only [go_sem,Aa]) ?_
 rintro ⟨i,n⟩ ⟨k,hi,hk,hR⟩
 dsimp only at hi hR
 have hni:i.toNat=k:=by omega
 have hni1:(i+1).toNat=k+1:=by omega
 rcases zF k (x.args).length with hlt | hge
 ·have hg:=get_at Tm.d hlt
  rw [Tm.ED] at hg
  have hc:=ih x.args[k] (zE hlt)
  rw [zC hlt,Tm.Dw] at hR
  simp (disch:=omega) only [go_sem,Aa,hni,hg,hc,Cr,NE,Fn]
  refine ⟨(i+1,max n (x.args[k].deep:Int)),⟨k+1,by dsimp only; omega,hlt,by dsimp only; omega⟩,by dsimp only; omega,?_⟩
  simp only [and_self]
 ·rw [zG hge,Tm.Dw] at hR
  simp (disch:=omega) only [go_sem,Aa,hni]
  omega
theorem Je (x:Tm) (hn:x.nodes≤1099511627776):E 90 [x.sv] []=some (.int .i64 x.deep,[]) :=
 Lk x hn fun y hy=>Je y (by have:=Tm.BH hy; have:=Tm.Af x; omega)
termination_by SizeOf.sizeOf x
decreasing_by exact Tm.AU hy
def Bf:SC:=(.seq (.reg [⟨some 4,none,.mv (.c (.int .i64 0))⟩]) (.seq (.seq (.reg [⟨some 6,none,.mv (.t 0)⟩,⟨some 7,none,.len false (.t 6)⟩,⟨some 8,none,.mv (.c (.int .i64 0))⟩]) (.block 0 (.loop [1,1,0,0,0,0,0,1,1,0,0,0,0,0,0,0,0,0,0] (.seq (.reg [⟨some 9,none,.bin .lss false (.t 8) (.t 7)⟩]) (.seq (.cond (.t 9) .skip (.exit 0)) (.seq (.block 1 (.seq (.reg [⟨some 10,none,.mv (.t 8)⟩,⟨some 5,none,.mv (.t 10)⟩]) (.seq (.reg [⟨some 11,none,.mv (.t 1)⟩,⟨some 12,none,.mv (.t 0)⟩,⟨some 13,none,.mv (.t 5)⟩,⟨some 14,none,.iaddr 2 (.t 12) (.t 13)⟩,⟨some 15,none,.load true 2 (.t 14)⟩,⟨some 16,none,.callv (.t 11) [(.t 15)]⟩]) (.cond (.t 16) (.seq (.reg [⟨some 17,none,.mv (.t 5)⟩,⟨some 4,none,.mv (.t 17)⟩]) .ret) .skip)))) (.reg [⟨some 18,none,.bin .add false (.t 8) (.c (.int .i64 1))⟩,⟨some 8,none,.mv (.t 18)⟩]))))))) (.seq (.reg [⟨some 4,none,.mv (.c (.int .i64 (-(0+1))))⟩]) .ret)))
theorem BO:Aq Try.prog 95=some ⟨19,Bf,[(.tmp 4)]⟩:=by kernel_rfl
theorem Bg:modes 95=⟨[],.asis,none,false⟩:=by unfold modes; rfl
def AV:SC:=(.seq (.reg [⟨some 4,none,.mv (.c (.bool false))⟩]) (.seq (.reg [⟨some 5,none,.mv (.t 0)⟩,⟨some 6,none,.mv (.t 1)⟩,⟨some 7,none,.call 95 [(.t 5),(.t 6)]⟩,⟨some 8,none,.bin .geq false (.t 7) (.c (.int .i64 0))⟩,⟨some 4,none,.mv (.t 8)⟩]) .ret))
theorem BF:Aq Try.prog 65=some ⟨9,AV,[(.tmp 4)]⟩:=by kernel_rfl
theorem AW:modes 65=⟨[],.asis,none,false⟩:=by unfold modes; rfl
theorem Hg (fid:Nat) (p:Tm→Bool) (xs:List Tm) (hl:xs.length≤1099511627776) (hg:Jj Try.prog fid=true) (hm:(modes fid).hand=[]) (hE:∀ x∈xs,E fid [x.sv] []=some (.bool (p x),[])):E 95 [.arr (xs.map Tm.d),.fn fid []] []=some (.int .i64 (It p xs 0),[]):=by
 refine Ai BO Bg (of_decide_eq_true rfl) ?_
 simp (disch:=omega) only [Bf,go_sem,Aa]
 refine go_loop (α:=Int) (fun a=>⟨slots 19 0 [(0,.arr (xs.map Tm.d)),(1,.fn fid []),(7,.int .i64 xs.length),(8,.int .i64 a)],[]⟩) (fun a=>∃ k:Nat,a=k∧k≤(xs).length∧It p (xs.drop k) a=It p xs 0) (fun a=>(xs).length-(a).toNat) 0 ⟨0,rfl,zL _,by rw [zI]⟩ (by simp (disch:=omega) only [go_sem,Aa]) ?_
 rintro i ⟨k,hi,hk,hR⟩
 have hni:i.toNat=k:=by omega
 have hni1:(i+1).toNat=k+1:=by omega
 rcases zF k (xs).length with hlt | hge
 ·have hg':=get_at Tm.d hlt
  rw [Tm.ED] at hg'
  have hc:=hE xs[k] (zE hlt)
  rw [zC hlt,It] at hR
  cases hp:p xs[k] with
  | true =>
   rw [hp] at hc hR
   simp (disch:=omega) only [go_sem,Aa,hni,hg',hc,hg,hm]
   simpa using hR
  | false =>
   rw [hp] at hc hR
   simp (disch:=omega) only [go_sem,Aa,hni,hg',hc,hg,hm]
   exact ⟨i+1,⟨k+1,by omega,hlt,by simpa using hR⟩,by omega,by first | trivial | rfl⟩
 ·rw [zG hge,It] at hR
  simp (disch:=omega) only [go_sem,Aa,hni]
  exact hR
theorem F8 (fid:Nat) (p:Tm→Bool) (xs:List Tm) (hl:xs.length≤1099511627776) (hg:Jj Try.prog fid=true) (hm:(modes fid).hand=[]) (hE:∀ x∈xs,E fid [x.sv] []=some (.bool (p x),[])):E 65 [.arr (xs.map Tm.d),.fn fid []] []=some (.bool (xs.any p),[]):=by
 have h:=Hg fid p xs hl hg hm hE
 refine Ai BF AW (of_decide_eq_true rfl) ?_
 simp (disch:=omega) only [AV,go_sem,Aa,h,Bg]
 rw [N7]
def BG:SC:=(.seq (.reg [⟨some 1,none,.boxv 26 2 (.t 0)⟩,⟨some 2,none,.mv (.c (.bool false))⟩]) (.seq (.seq (.reg [⟨some 3,none,.faddr 0 (.t 1)⟩,⟨some 4,none,.load false 1 (.t 3)⟩,⟨some 5,none,.call 54 [(.t 4)]⟩]) (.cond (.t 5) (.seq (.reg [⟨some 6,none,.faddr 1 (.t 1)⟩,⟨some 7,none,.load false 1 (.t 6)⟩,⟨some 8,none,.len false (.t 7)⟩,⟨some 9,none,.bin .eql false (.t 8) (.c (.int .i64 0))⟩,⟨some 2,none,.mv (.t 9)⟩]) .ret) .skip)) (.seq (.reg [⟨some 10,none,.faddr 0 (.t 1)⟩,⟨some 11,none,.load false 1 (.t 10)⟩,⟨some 12,none,.call 64 [(.t 11)]⟩,⟨some 13,none,.mv (.t 12)⟩,⟨(some 14),(some (13,true)),(.faddr 1 (.t 1))⟩,⟨(some 15),(some (13,true)),(.load false 1 (.t 14))⟩,⟨(some 16),(some (13,true)),(.len false (.t 15))⟩,⟨(some 17),(some (13,true)),(.bin .leq false (.t 16) (.c (.int .i64 4)))⟩,⟨some 18,none,.pick (.t 13) (.t 17) (.c (.bool false))⟩,⟨some 19,none,.mv (.t 18)⟩,⟨(some 20),(some (19,true)),(.faddr 1 (.t 1))⟩,⟨(some 21),(some (19,true)),(.load false 1 (.t 20))⟩,⟨(some 22),(some (19,true)),(.call 65 [(.t 21),(.c (.fn 66 []))])⟩,⟨(some 23),(some (19,true)),(.un .not (.t 22))⟩,⟨some 24,none,.pick (.t 19) (.t 23) (.c (.bool false))⟩,⟨some 2,none,.mv (.t 24)⟩]) .ret)))
theorem Cd:Aq Try.prog 37=some ⟨25,BG,[(.tmp 2)]⟩:=by kernel_rfl
theorem Aw:modes 37=⟨[],.asis,none,false⟩:=by unfold modes; rfl
def D1:SC:=(.seq (.reg [⟨some 1,none,.boxv 26 2 (.t 0)⟩,⟨some 2,none,.mv (.c (.bool false))⟩]) (.seq (.reg [⟨some 3,none,.load true 2 (.t 1)⟩,⟨some 4,none,.call 37 [(.t 3)]⟩,⟨some 5,none,.un .not (.t 4)⟩,⟨some 2,none,.mv (.t 5)⟩]) .ret))
theorem Gd:Aq Try.prog 66=some ⟨6,D1,[(.tmp 2)]⟩:=by kernel_rfl
theorem D2:modes 66=⟨[],.asis,none,false⟩:=by unfold modes; rfl
theorem Ge:Jj Try.prog 66=true:=by kernel_rfl
theorem Tm.OS (xs:List Tm):(!xs.any fun y=>!y.names)=Tm.DS xs:=by
 rw [Tm.IZ]
 induction xs with
 | nil=>rfl
 | cons x xs ih=>simp only [z5,List.all_cons,Bool.not_or,Bool.not_not,ih]
theorem K2 (x:Tm) (hn:x.nodes≤1099511627776) (ih:∀ y∈x.args,E 37 [y.sv] []=some (.bool y.names,[])):E 37 [x.sv] []=some (.bool x.names,[]):=by
 have hl:=Tm.length_le x.args
 have hx:=Tm.Af x
 have h1:∀ y∈x.args,E 66 [y.sv] []=some (.bool (!y.names),[]):=fun y hy=>by
  have h:=ih y hy
  refine Ai Gd D2 (of_decide_eq_true rfl) ?_
  simp (disch:=omega) only [D1,go_sem,Aa,h,Aw]
 have h2:=F8 66 (fun y=>!y.names) x.args (by omega) Ge (by rw [D2]) h1
 rw [Tm.Ku,← Tm.OS]
 cases hv:Ex x.name with
 | true =>
  have h3:=FW x.name
  rw [hv] at h3
  refine Ai Cd Aw (of_decide_eq_true rfl) ?_
  simp (disch:=omega) only [BG,go_sem,Aa,h3,Br]
  rw [KJ]; cases x.args <;> simp <;> omega
 | false =>
  have h3:=FW x.name
  rw [hv] at h3
  have h4:=HX x.name
  cases hs:Dk x.name with
  | false =>
   rw [hs] at h4
   refine Ai Cd Aw (of_decide_eq_true rfl) ?_
   simp (disch:=omega) only [BG,go_sem,Aa,h2,h3,h4,Br,AI]
  | true =>
   rw [hs] at h4
   rcases zF 4 x.args.length with h5 | h5
   ·refine Ai Cd Aw (of_decide_eq_true rfl) ?_
    simp (disch:=omega) only [BG,go_sem,Aa,h2,h3,h4,Br,AI]
    simp; omega
   ·refine Ai Cd Aw (of_decide_eq_true rfl) ?_
    simp (disch:=omega) only [BG,go_sem,Aa,h2,h3,h4,Br,AI,AW]
    simp [h5]
theorem Em (x:Tm) (hn:x.nodes≤1099511627776):E 37 [x.sv] []=some (.bool x.names,[]) :=
 K2 x hn fun y hy=>Em y (by have:=Tm.BH hy; have:=Tm.Af x; omega)
termination_by SizeOf.sizeOf x
decreasing_by exact Tm.AU hy
def BP:SC:=(.seq (.reg [⟨some 1,none,.boxv 26 2 (.t 0)⟩,⟨some 2,none,.mv (.c (.bool false))⟩]) (.seq (.seq (.reg [⟨some 4,none,.faddr 0 (.t 1)⟩,⟨some 5,none,.load false 1 (.t 4)⟩,⟨some 6,none,.call 76 [(.t 5)]⟩]) (.cond (.t 6) (.seq (.reg [⟨some 7,none,.faddr 1 (.t 1)⟩,⟨some 8,none,.load false 1 (.t 7)⟩,⟨some 9,none,.len false (.t 8)⟩,⟨some 10,none,.bin .eql false (.t 9) (.c (.int .i64 0))⟩,⟨some 2,none,.mv (.t 10)⟩]) .ret) .skip)) (.seq (.seq (.reg [⟨some 11,none,.faddr 0 (.t 1)⟩,⟨some 12,none,.load false 1 (.t 11)⟩,⟨some 13,none,.call 60 [(.t 12)]⟩,⟨some 14,none,.un .not (.t 13)⟩,⟨some 15,none,.mv (.t 14)⟩,⟨(some 16),(some (15,false)),(.faddr 1 (.t 1))⟩,⟨(some 17),(some (15,false)),(.load false 1 (.t 16))⟩,⟨(some 18),(some (15,false)),(.len false (.t 17))⟩,⟨(some 19),(some (15,false)),(.bin .gtr false (.t 18) (.c (.int .i64 4)))⟩,⟨some 20,none,.pick (.t 15) (.c (.bool true)) (.t 19)⟩]) (.cond (.t 20) (.seq (.reg [⟨some 2,none,.mv (.c (.bool false))⟩]) .ret) .skip)) (.seq (.seq (.reg [⟨some 3,none,.mv (.c (.int .i64 0))⟩]) (.block 0 (.loop [0,1,0,1,0,0,0,0,0,0,0,0,0,0,0,0,0,0,0,0,0,0,0,0,0,0,0,0,0,0,0,0,0,0,0] (.seq (.seq (.reg [⟨some 21,none,.mv (.t 3)⟩,⟨some 22,none,.faddr 1 (.t 1)⟩,⟨some 23,none,.load false 1 (.t 22)⟩,⟨some 24,none,.len false (.t 23)⟩,⟨some 25,none,.bin .lss false (.t 21) (.t 24)⟩]) (.cond (.t 25) .skip (.exit 0))) (.seq (.block 1 (.seq (.reg [⟨some 28,none,.faddr 1 (.t 1)⟩,⟨some 29,none,.load false 1 (.t 28)⟩,⟨some 30,none,.mv (.t 3)⟩,⟨some 31,none,.iaddr 2 (.t 29) (.t 30)⟩,⟨some 32,none,.load true 2 (.t 31)⟩,⟨some 33,none,.call 59 [(.t 32)]⟩,⟨some 34,none,.un .not (.t 33)⟩]) (.cond (.t 34) (.seq (.reg [⟨some 2,none,.mv (.c (.bool false))⟩]) .ret) .skip))) (.reg [⟨some 26,none,.mv (.t 3)⟩,⟨some 27,none,.bin .add false (.t 26) (.c (.int .i64 1))⟩,⟨some 3,none,.mv (.t 27)⟩])))))) (.seq (.reg [⟨some 2,none,.mv (.c (.bool true))⟩]) .ret)))))
theorem Cs:Aq Try.prog 59=some ⟨35,BP,[(.tmp 2)]⟩:=by kernel_rfl
theorem Ax:modes 59=⟨[],.asis,none,false⟩:=by unfold modes; rfl
theorem Ll (x:Tm) (hn:x.nodes≤1099511627776) (ih:∀ y∈x.args,E 59 [y.sv] []=some (.bool y.names,[])):E 59 [x.sv] []=some (.bool x.names,[]):=by
 have hl:=Tm.length_le x.args
 have hx:=Tm.Af x
 have h3:=OK x.name
 have h4:=HY x.name
 rw [Tm.Ku]
 cases hv:Ex x.name with
 | true =>
  rw [hv] at h3
  refine Ai Cs Ax (of_decide_eq_true rfl) ?_
  simp (disch:=omega) only [BP,go_sem,Aa,h3,Ck]
  rw [KJ]; cases x.args <;> simp <;> omega
 | false =>
  rw [hv] at h3
  cases hs:Dk x.name with
  | false =>
   rw [hs] at h4
   refine Ai Cs Ax (of_decide_eq_true rfl) ?_
   simp (disch:=omega) only [BP,go_sem,Aa,h3,h4,Ck,AJ]
  | true =>
   rw [hs] at h4
   rcases zF 4 x.args.length with h5 | h5
   ·refine Ai Cs Ax (of_decide_eq_true rfl) ?_
    simp (disch:=omega) only [BP,go_sem,Aa,h3,h4,Ck,AJ]
    simp; omega
   ·refine Ai Cs Ax (of_decide_eq_true rfl) ?_
    simp (disch:=omega) only [BP,go_sem,Aa,h3,h4,Ck,AJ]
    refine go_loop (α:=Int) (fun a=>⟨slots 35 0 [(1,.ptr 0 0),(3,.int .i64 a)],[.box 26 [.str x.name,.arr (x.args.map Tm.d)]]⟩) (fun a=>∃ k:Nat,a=k∧k≤(x.args).length∧Tm.DS (x.args.drop k)=Tm.DS x.args) (fun a=>(x.args).length-(a).toNat) 0 ⟨0,rfl,zL _,by rw [zI]⟩ (by simp (disch:=omega) only [go_sem,Aa]) ?_
    rintro i ⟨k,hi,hk,hR⟩
    have hni:i.toNat=k:=by omega
    have hni1:(i+1).toNat=k+1:=by omega
    rcases zF k (x.args).length with hlt | hge
    ·have hg:=get_at Tm.d hlt
     rw [Tm.ED] at hg
     have hc:=ih x.args[k] (zE hlt)
     rw [zC hlt,Tm.DS] at hR
     cases hp:x.args[k].names with
     | true =>
      rw [hp] at hc hR
      simp (disch:=omega) only [go_sem,Aa,hni,hg,hc,Ax]
      exact ⟨i+1,⟨k+1,by omega,hlt,by simpa using hR⟩,by omega,by first | trivial | rfl⟩
     | false =>
      rw [hp] at hc hR
      simp (disch:=omega) only [go_sem,Aa,hni,hg,hc,Ax]
      simp at hR ⊢; exact fun _=>hR
    ·rw [zG hge,Tm.DS] at hR
     simp (disch:=omega) only [go_sem,Aa,hni]
     simp [h5,← hR]
theorem Fc (x:Tm) (hn:x.nodes≤1099511627776):E 59 [x.sv] []=some (.bool x.names,[]) :=
 Ll x hn fun y hy=>Fc y (by have:=Tm.BH hy; have:=Tm.Af x; omega)
termination_by SizeOf.sizeOf x
decreasing_by exact Tm.AU hy
def Dm:SC:=(.seq (.reg [⟨some 1,none,.boxv 26 2 (.t 0)⟩,⟨some 2,none,.mv (.c (.bool false))⟩]) (.seq (.reg [⟨some 3,none,.load true 2 (.t 1)⟩,⟨some 4,none,.call 31 [(.t 3)]⟩,⟨some 5,none,.bin .leq false (.t 4) (.c (.int .i64 30))⟩,⟨some 6,none,.mv (.t 5)⟩,⟨(some 7),(some (6,true)),(.load true 2 (.t 1))⟩,⟨(some 8),(some (6,true)),(.call 63 [(.t 7)])⟩,⟨(some 9),(some (6,true)),(.bin .leq false (.t 8) (.c (.int .i64 8)))⟩,⟨some 10,none,.pick (.t 6) (.t 9) (.c (.bool false))⟩,⟨some 2,none,.mv (.t 10)⟩]) .ret))
theorem EK:Aq Try.prog 36=some ⟨11,Dm,[(.tmp 2)]⟩:=by kernel_rfl
theorem AL:modes 36=⟨[],.asis,none,false⟩:=by unfold modes; rfl
def DA:SC:=(.seq (.reg [⟨some 1,none,.boxv 26 2 (.t 0)⟩,⟨some 2,none,.mv (.c (.bool false))⟩]) (.seq (.reg [⟨some 3,none,.load true 2 (.t 1)⟩,⟨some 4,none,.call 89 [(.t 3),(.c (.int .i64 30))]⟩,⟨some 5,none,.bin .leq false (.t 4) (.c (.int .i64 30))⟩,⟨some 6,none,.mv (.t 5)⟩,⟨(some 7),(some (6,true)),(.load true 2 (.t 1))⟩,⟨(some 8),(some (6,true)),(.call 90 [(.t 7)])⟩,⟨(some 9),(some (6,true)),(.bin .leq false (.t 8) (.c (.int .i64 8)))⟩,⟨some 10,none,.pick (.t 6) (.t 9) (.c (.bool false))⟩,⟨some 2,none,.mv (.t 10)⟩]) .ret))
theorem Fo:Aq Try.prog 58=some ⟨11,DA,[(.tmp 2)]⟩:=by kernel_rfl
theorem AS:modes 58=⟨[],.asis,none,false⟩:=by unfold modes; rfl
def Cg:SC:=(.seq (.reg [⟨some 1,none,.boxv 26 2 (.t 0)⟩,⟨some 2,none,.mv (.c (.bool false))⟩]) (.seq (.reg [⟨some 3,none,.load true 2 (.t 1)⟩,⟨some 4,none,.call 36 [(.t 3)]⟩,⟨some 5,none,.mv (.t 4)⟩,⟨(some 6),(some (5,true)),(.load true 2 (.t 1))⟩,⟨(some 7),(some (5,true)),(.call 37 [(.t 6)])⟩,⟨some 8,none,.pick (.t 5) (.t 7) (.c (.bool false))⟩,⟨some 2,none,.mv (.t 8)⟩]) .ret))
theorem Dn:Aq Try.prog 13=some ⟨9,Cg,[(.tmp 2)]⟩:=by kernel_rfl
theorem Ac:modes 13=⟨[],.asis,none,false⟩:=by unfold modes; rfl
def DB:SC:=(.seq (.reg [⟨some 1,none,.boxv 26 2 (.t 0)⟩,⟨some 2,none,.mv (.c (.bool false))⟩]) (.seq (.reg [⟨some 3,none,.load true 2 (.t 1)⟩,⟨some 4,none,.call 58 [(.t 3)]⟩,⟨some 5,none,.mv (.t 4)⟩,⟨(some 6),(some (5,true)),(.load true 2 (.t 1))⟩,⟨(some 7),(some (5,true)),(.call 59 [(.t 6)])⟩,⟨some 8,none,.pick (.t 5) (.t 7) (.c (.bool false))⟩,⟨some 2,none,.mv (.t 8)⟩]) .ret))
theorem Fp:Aq Try.prog 32=some ⟨9,DB,[(.tmp 2)]⟩:=by kernel_rfl
theorem AZ:modes 32=⟨[],.asis,none,false⟩:=by unfold modes; rfl
def D3:SC:=(.seq (.reg [⟨some 1,none,.boxv 26 2 (.t 0)⟩,⟨some 2,none,.mv (.c (.bool false))⟩]) (.seq (.reg [⟨some 3,none,.faddr 0 (.t 1)⟩,⟨some 4,none,.load false 1 (.t 3)⟩,⟨(some 5),none,(.bin .eql false (.t 4) (.c (.str ⟨#[61]⟩)))⟩,⟨some 2,none,.mv (.t 5)⟩]) .ret))
theorem Gf:Aq Try.prog 56=some ⟨6,D3,[(.tmp 2)]⟩:=by kernel_rfl
theorem AD:modes 56=⟨[],.asis,none,false⟩:=by unfold modes; rfl
def AN:SC:=(.seq (.reg [⟨some 1,none,.boxv 26 2 (.t 0)⟩,⟨some 2,none,.mv (.c (.bool false))⟩]) (.seq (.seq (.reg [⟨some 3,none,.load true 2 (.t 1)⟩,⟨some 4,none,.call 56 [(.t 3)]⟩]) (.cond (.t 4) (.seq (.reg [⟨some 5,none,.faddr 1 (.t 1)⟩,⟨some 6,none,.load false 1 (.t 5)⟩,⟨some 7,none,.len false (.t 6)⟩,⟨some 8,none,.bin .eql false (.t 7) (.c (.int .i64 2))⟩,⟨some 9,none,.mv (.t 8)⟩,⟨(some 10),(some (9,true)),(.load true 2 (.t 1))⟩,⟨(some 11),(some (9,true)),(.call 36 [(.t 10)])⟩,⟨some 12,none,.pick (.t 9) (.t 11) (.c (.bool false))⟩,⟨some 13,none,.mv (.t 12)⟩,⟨(some 14),(some (13,true)),(.faddr 1 (.t 1))⟩,⟨(some 15),(some (13,true)),(.load false 1 (.t 14))⟩,⟨(some 16),(some (13,true)),(.iaddr 2 (.t 15) (.c (.int .i64 0)))⟩,⟨(some 17),(some (13,true)),(.load true 2 (.t 16))⟩,⟨(some 18),(some (13,true)),(.call 37 [(.t 17)])⟩,⟨some 19,none,.pick (.t 13) (.t 18) (.c (.bool false))⟩,⟨some 20,none,.mv (.t 19)⟩,⟨(some 21),(some (20,true)),(.faddr 1 (.t 1))⟩,⟨(some 22),(some (20,true)),(.load false 1 (.t 21))⟩,⟨(some 23),(some (20,true)),(.iaddr 2 (.t 22) (.c (.int .i64 1)))⟩,⟨(some 24),(some (20,true)),(.load true 2 (.t 23))⟩,⟨(some 25),(some (20,true)),(.call 37 [(.t 24)])⟩,⟨some 26,none,.pick (.t 20) (.t 25) (.c (.bool false))⟩,⟨some 2,none,.mv (.t 26)⟩]) .ret) .skip)) (.seq (.reg [⟨some 27,none,.faddr 0 (.t 1)⟩,⟨some 28,none,.load false 1 (.t 27)⟩,⟨some 29,none,.call 64 [(.t 28)]⟩,⟨some 30,none,.mv (.t 29)⟩,⟨(some 31),(some (30,true)),(.load true 2 (.t 1))⟩,⟨(some 32),(some (30,true)),(.call 13 [(.t 31)])⟩,⟨some 33,none,.pick (.t 30) (.t 32) (.c (.bool false))⟩,⟨some 2,none,.mv (.t 33)⟩]) .ret)))
theorem AY:Aq Try.prog 57=some ⟨34,AN,[(.tmp 2)]⟩:=by kernel_rfl
theorem AO:modes 57=⟨[],.asis,none,false⟩:=by unfold modes; rfl
def Bu:SC:=(.seq (.reg [⟨some 1,none,.boxv 26 2 (.t 0)⟩,⟨some 2,none,.mv (.c (.bool false))⟩]) (.seq (.seq (.reg [⟨some 3,none,.faddr 0 (.t 1)⟩,⟨some 4,none,.load false 1 (.t 3)⟩,⟨(some 5),none,(.bin .eql false (.t 4) (.c (.str ⟨#[61]⟩)))⟩]) (.cond (.t 5) (.seq (.reg [⟨some 6,none,.faddr 1 (.t 1)⟩,⟨some 7,none,.load false 1 (.t 6)⟩,⟨some 8,none,.len false (.t 7)⟩,⟨some 9,none,.bin .eql false (.t 8) (.c (.int .i64 2))⟩,⟨some 10,none,.mv (.t 9)⟩,⟨(some 11),(some (10,true)),(.load true 2 (.t 1))⟩,⟨(some 12),(some (10,true)),(.call 58 [(.t 11)])⟩,⟨some 13,none,.pick (.t 10) (.t 12) (.c (.bool false))⟩,⟨some 14,none,.mv (.t 13)⟩,⟨(some 15),(some (14,true)),(.faddr 1 (.t 1))⟩,⟨(some 16),(some (14,true)),(.load false 1 (.t 15))⟩,⟨(some 17),(some (14,true)),(.iaddr 2 (.t 16) (.c (.int .i64 0)))⟩,⟨(some 18),(some (14,true)),(.load true 2 (.t 17))⟩,⟨(some 19),(some (14,true)),(.call 59 [(.t 18)])⟩,⟨some 20,none,.pick (.t 14) (.t 19) (.c (.bool false))⟩,⟨some 21,none,.mv (.t 20)⟩,⟨(some 22),(some (21,true)),(.faddr 1 (.t 1))⟩,⟨(some 23),(some (21,true)),(.load false 1 (.t 22))⟩,⟨(some 24),(some (21,true)),(.iaddr 2 (.t 23) (.c (.int .i64 1)))⟩,⟨(some 25),(some (21,true)),(.load true 2 (.t 24))⟩,⟨(some 26),(some (21,true)),(.call 59 [(.t 25)])⟩,⟨some 27,none,.pick (.t 21) (.t 26) (.c (.bool false))⟩,⟨some 2,none,.mv (.t 27)⟩]) .ret) .skip)) (.seq (.reg [⟨some 28,none,.faddr 0 (.t 1)⟩,⟨some 29,none,.load false 1 (.t 28)⟩,⟨some 30,none,.call 60 [(.t 29)]⟩,⟨some 31,none,.mv (.t 30)⟩,⟨(some 32),(some (31,true)),(.load true 2 (.t 1))⟩,⟨(some 33),(some (31,true)),(.call 32 [(.t 32)])⟩,⟨some 34,none,.pick (.t 31) (.t 33) (.c (.bool false))⟩,⟨some 2,none,.mv (.t 34)⟩]) .ret)))
theorem BI:Aq Try.prog 33=some ⟨35,Bu,[(.tmp 2)]⟩:=by kernel_rfl
theorem Bv:modes 33=⟨[],.asis,none,false⟩:=by unfold modes; rfl
def Bx:SC:=(.seq (.reg [⟨some 1,none,.boxv 26 2 (.t 0)⟩,⟨some 2,none,.mv (.c (.bool false))⟩]) (.seq (.reg [⟨some 3,none,.load true 2 (.t 1)⟩,⟨some 4,none,.call 13 [(.t 3)]⟩,⟨some 5,none,.mv (.t 4)⟩,⟨(some 6),(some (5,false)),(.load true 2 (.t 1))⟩,⟨(some 7),(some (5,false)),(.call 56 [(.t 6)])⟩,⟨(some 8),(some (5,false)),(.mv (.t 7))⟩,⟨(some 9),(some (8,true)),(.load true 2 (.t 1))⟩,⟨(some 10),(some (8,true)),(.call 57 [(.t 9)])⟩,⟨(some 11),(some (5,false)),(.pick (.t 8) (.t 10) (.c (.bool false)))⟩,⟨some 12,none,.pick (.t 5) (.c (.bool true)) (.t 11)⟩,⟨some 2,none,.mv (.t 12)⟩]) .ret))
theorem BT:Aq Try.prog 29=some ⟨13,Bx,[(.tmp 2)]⟩:=by kernel_rfl
theorem A2:modes 29=⟨[],.asis,none,false⟩:=by unfold modes; rfl
theorem Jf (x:Tm) (hn:x.nodes≤1099511627776):E 36 [x.sv] []=some (.bool x.small,[]):=by
 have h1:=Lj x hn
 have h2:=LO x hn
 have h3:=Tm.EG x
 have h4:=Tm.Fb x 30
 unfold Tm.small
 rcases zF 30 x.nodes with h5 | h5
 ·rw [decide_eq_false (by omega),z4]
  refine Ai EK AL (of_decide_eq_true rfl) ?_
  simp (disch:=omega) only [Dm,go_sem,Aa,h1,h2,Ci,CS]
 ·rw [decide_eq_true h5,z6]
  refine Ai EK AL (of_decide_eq_true rfl) ?_
  simp (disch:=omega) only [Dm,go_sem,Aa,h1,h2,Ci,CS]
  rcases zF 8 x.deep with h6 | h6
  ·rw [decide_eq_false (by omega),Cv (by omega)]
  ·rw [decide_eq_true h6,BN (by omega)]
theorem K3 (x:Tm) (hn:x.nodes≤1099511627776):E 58 [x.sv] []=some (.bool x.small,[]):=by
 have h1:=ND x 30 (by omega) (by omega) hn
 have h2:=Je x hn
 have h3:=Tm.EG x
 have h4:=Tm.Fb x 30
 unfold Tm.small
 rcases zF 30 x.nodes with h5 | h5
 ·rw [decide_eq_false (by omega),z4]
  refine Ai Fo AS (of_decide_eq_true rfl) ?_
  simp (disch:=omega) only [DA,go_sem,Aa,h1,h2,BY,Cr]
 ·rw [decide_eq_true h5,z6]
  refine Ai Fo AS (of_decide_eq_true rfl) ?_
  simp (disch:=omega) only [DA,go_sem,Aa,h1,h2,BY,Cr]
  rcases zF 8 x.deep with h6 | h6
  ·rw [decide_eq_false (by omega),Cv (by omega)]
  ·rw [decide_eq_true h6,BN (by omega)]
theorem BZ (x:Tm) (hn:x.nodes≤1099511627776):E 13 [x.sv] []=some (.bool x.valid,[]):=by
 have h1:=Jf x hn
 have h2:=Em x hn
 unfold Tm.valid
 cases h3:x.small <;> rw [h3] at h1
 ·refine Ai Dn Ac (of_decide_eq_true rfl) ?_
  simp (disch:=omega) only [Cg,go_sem,Aa,h1,h2,AL,Aw]
 ·refine Ai Dn Ac (of_decide_eq_true rfl) ?_
  simp (disch:=omega) only [Cg,go_sem,Aa,h1,h2,AL,Aw]
theorem K4 (x:Tm) (hn:x.nodes≤1099511627776):E 32 [x.sv] []=some (.bool x.valid,[]):=by
 have h1:=K3 x hn
 have h2:=Fc x hn
 unfold Tm.valid
 cases h3:x.small <;> rw [h3] at h1
 ·refine Ai Fp AZ (of_decide_eq_true rfl) ?_
  simp (disch:=omega) only [DB,go_sem,Aa,h1,h2,AS,Ax]
 ·refine Ai Fp AZ (of_decide_eq_true rfl) ?_
  simp (disch:=omega) only [DB,go_sem,Aa,h1,h2,AS,Ax]
theorem En (x:Tm):E 56 [x.sv] []=some (.bool x.eqn,[]):=by
 unfold Tm.eqn
 refine Ai Gf AD (of_decide_eq_true rfl) ?_
 simp (disch:=omega) only [D3,go_sem,Aa]
theorem Iw (x:Tm) (hn:x.nodes≤1099511627776):E 57 [x.sv] []=some (.bool x.atom,[]):=by
 have hl:=Tm.length_le x.args
 have hx:=Tm.Af x
 have h0:=En x
 have h1:=Jf x hn
 have h2:=HX x.name
 have h3:=BZ x hn
 have hE:dec (x.name=⟨#[61]⟩)=x.eqn:=rfl
 unfold Tm.atom
 cases he:x.eqn <;> rw [he] at h0 hE
 ·rw [if_neg (by simp)]
  cases hs:Dk x.name <;> rw [hs] at h2
  ·refine Ai AY AO (of_decide_eq_true rfl) ?_
   simp (disch:=omega) only [AN,go_sem,Aa,h0,h1,h2,h3,hE,AL,Aw,AI,Ac,AD]
  ·refine Ai AY AO (of_decide_eq_true rfl) ?_
   simp (disch:=omega) only [AN,go_sem,Aa,h0,h1,h2,h3,hE,AL,Aw,AI,Ac,AD]
 ·rw [if_pos rfl]
  by_cases hc:x.args.length=2
  ·have hlt0:0<x.args.length:=by omega
   have hlt1:1<x.args.length:=by omega
   have hg0:=get_at Tm.d hlt0
   have hg1:=get_at Tm.d hlt1
   rw [Tm.ED] at hg0 hg1
   have hb0:=Tm.BD x.args 0 hlt0
   have hb1:=Tm.BD x.args 1 hlt1
   have hn0:=Em x.args[0] (by omega)
   have hn1:=Em x.args[1] (by omega)
   rw [Ja hc,show (x.args.length == 2)=true by simpa using hc]
   cases hs:x.small <;> rw [hs] at h1
   ·refine Ai AY AO (of_decide_eq_true rfl) ?_
    simp (disch:=omega) only [AN,go_sem,Aa,h0,h1,h2,h3,hE,hg0,hg1,hn0,hn1,hc,AL,Aw,AI,Ac,AD]
    try simp
   ·cases hq:(x.args[0]'hlt0).names <;> rw [hq] at hn0
    ·refine Ai AY AO (of_decide_eq_true rfl) ?_
     simp (disch:=omega) only [AN,go_sem,Aa,h0,h1,h2,h3,hE,hg0,hg1,hn0,hn1,hc,AL,Aw,AI,Ac,AD]
     try simp
    ·refine Ai AY AO (of_decide_eq_true rfl) ?_
     simp (disch:=omega) only [AN,go_sem,Aa,h0,h1,h2,h3,hE,hg0,hg1,hn0,hn1,hc,AL,Aw,AI,Ac,AD]
     try simp
  ·refine Ai AY AO (of_decide_eq_true rfl) ?_
   simp (disch:=omega) only [AN,go_sem,Aa,h0,h1,h2,h3,hE,AL,Aw,AI,Ac,AD]
   rw [show (x.args.length == 2)=false by simpa using hc]
   try simp
theorem NG (x:Tm) (hn:x.nodes≤1099511627776):E 33 [x.sv] []=some (.bool x.atom,[]):=by
 have hl:=Tm.length_le x.args
 have hx:=Tm.Af x
 have h0:=En x
 have h1:=K3 x hn
 have h2:=HY x.name
 have h3:=K4 x hn
 have hE:dec (x.name=⟨#[61]⟩)=x.eqn:=rfl
 unfold Tm.atom
 cases he:x.eqn <;> rw [he] at h0 hE
 ·rw [if_neg (by simp)]
  cases hs:Dk x.name <;> rw [hs] at h2
  ·refine Ai BI Bv (of_decide_eq_true rfl) ?_
   simp (disch:=omega) only [Bu,go_sem,Aa,h0,h1,h2,h3,hE,AS,Ax,AJ,AZ]
  ·refine Ai BI Bv (of_decide_eq_true rfl) ?_
   simp (disch:=omega) only [Bu,go_sem,Aa,h0,h1,h2,h3,hE,AS,Ax,AJ,AZ]
 ·rw [if_pos rfl]
  by_cases hc:x.args.length=2
  ·have hlt0:0<x.args.length:=by omega
   have hlt1:1<x.args.length:=by omega
   have hg0:=get_at Tm.d hlt0
   have hg1:=get_at Tm.d hlt1
   rw [Tm.ED] at hg0 hg1
   have hb0:=Tm.BD x.args 0 hlt0
   have hb1:=Tm.BD x.args 1 hlt1
   have hn0:=Fc x.args[0] (by omega)
   have hn1:=Fc x.args[1] (by omega)
   rw [Ja hc,show (x.args.length == 2)=true by simpa using hc]
   cases hs:x.small <;> rw [hs] at h1
   ·refine Ai BI Bv (of_decide_eq_true rfl) ?_
    simp (disch:=omega) only [Bu,go_sem,Aa,h0,h1,h2,h3,hE,hg0,hg1,hn0,hn1,hc,AS,Ax,AJ,AZ]
    try simp
   ·cases hq:(x.args[0]'hlt0).names <;> rw [hq] at hn0
    ·refine Ai BI Bv (of_decide_eq_true rfl) ?_
     simp (disch:=omega) only [Bu,go_sem,Aa,h0,h1,h2,h3,hE,hg0,hg1,hn0,hn1,hc,AS,Ax,AJ,AZ]
     try simp
    ·refine Ai BI Bv (of_decide_eq_true rfl) ?_
     simp (disch:=omega) only [Bu,go_sem,Aa,h0,h1,h2,h3,hE,hg0,hg1,hn0,hn1,hc,AS,Ax,AJ,AZ]
     try simp
  ·refine Ai BI Bv (of_decide_eq_true rfl) ?_
   simp (disch:=omega) only [Bu,go_sem,Aa,h0,h1,h2,h3,hE,AS,Ax,AJ,AZ]
   rw [show (x.args.length == 2)=false by simpa using hc]
   try simp
noncomputable def Tm.expr (x:Tm):Bool:=x.valid || x.atom
theorem Tm.Lm {x:Tm} (h:x.expr=true):x.small=true:=by
 unfold Tm.expr Tm.atom Tm.valid at h
 cases hs:x.small with
 | true=>rfl
 | false =>
  rw [hs] at h
  split at h <;> simp at h
theorem Tm.Ln {x:Tm} (h:x.expr=true):x.nodes≤30:=by
 have:=Tm.Lm h
 unfold Tm.small at this
 rw [Bool.and_eq_true,decide_eq_true_eq] at this
 exact this.1
theorem Ct (x:Tm) (hn:x.nodes≤1099511627776):E 29 [x.sv] []=some (.bool x.expr,[]):=by
 have h1:=BZ x hn
 have h2:=En x
 have h3:=Iw x hn
 unfold Tm.expr
 cases hv:x.valid with
 | true =>
  rw [hv] at h1
  rw [Bool.true_or]
  refine Ai BT A2 (of_decide_eq_true rfl) ?_
  simp (disch:=omega) only [Bx,go_sem,Aa,h1,Ac]
 | false =>
  rw [hv] at h1
  rw [Bool.false_or]
  cases he:x.eqn with
  | true =>
   rw [he] at h2
   refine Ai BT A2 (of_decide_eq_true rfl) ?_
   simp (disch:=omega) only [Bx,go_sem,Aa,h1,h2,h3,Ac,AD,AO]
  | false =>
   rw [he] at h2
   have ha:x.atom=false:=by unfold Tm.atom; rw [if_neg (by rw [he]; simp),hv,Bool.and_false]
   rw [ha]
   refine Ai BT A2 (of_decide_eq_true rfl) ?_
   simp (disch:=omega) only [Bx,go_sem,Aa,h1,h2,Ac,AD]
def DW:SC:=(.seq (.reg [⟨some 1,none,.boxv 26 2 (.t 0)⟩,⟨some 2,none,.mv (.c .nil)⟩]) (.seq (.reg [⟨some 8,none,.mkrow 3 1 [(.int .i64 0)] 0 []⟩,⟨some 9,none,.mkrow 36 1 [.nil] 1 [(0,(.t 8))]⟩,⟨some 3,none,.mv (.t 9)⟩]) (.seq (.seq (.reg [⟨some 10,none,.faddr 1 (.t 1)⟩,⟨some 11,none,.load false 1 (.t 10)⟩,⟨some 12,none,.len false (.t 11)⟩,⟨some 13,none,.mv (.c (.int .i64 0))⟩]) (.block 0 (.loop [0,0,0,1,0,0,0,0,0,0,0,1,1,1,0,0,0,0,0,0,0,0,0,0,0,0,0,0,0,0,0,0,0,0,0] (.seq (.reg [⟨some 14,none,.bin .lss false (.t 13) (.t 12)⟩]) (.seq (.cond (.t 14) .skip (.exit 0)) (.seq (.block 1 (.seq (.reg [⟨some 15,none,.mv (.t 13)⟩,⟨some 16,none,.iaddr 2 (.t 11) (.t 13)⟩,⟨some 17,none,.load true 2 (.t 16)⟩,⟨(some 5),none,(.alloc 26 [(.str ⟨#[]⟩),.nil])⟩,⟨some 4,none,.mv (.t 15)⟩,⟨none,none,(.store 2 (.t 5) (.t 17))⟩]) (.seq (.reg [⟨some 18,none,.load true 2 (.t 5)⟩,⟨some 19,none,.call 30 [(.t 18)]⟩,⟨some 20,none,.len false (.t 19)⟩,⟨some 21,none,.mv (.c (.int .i64 0))⟩]) (.block 2 (.loop [0,0,0,1,1,0,0,0,0,0,0,1,1,1,0,0,0,0,0,1,1,1,0,0,0,0,0,0,0,0,0,0,0,0,0] (.seq (.reg [⟨some 22,none,.bin .lss false (.t 21) (.t 20)⟩]) (.seq (.cond (.t 22) .skip (.exit 2)) (.seq (.block 3 (.seq (.reg [⟨some 23,none,.iaddr 1 (.t 19) (.t 21)⟩,⟨some 24,none,.load false 1 (.t 23)⟩,⟨some 7,none,.mv (.t 24)⟩]) (.reg [⟨some 25,none,.mv (.t 3)⟩,⟨some 26,none,.mv (.t 4)⟩,⟨some 27,none,.mkrow 3 1 [(.int .i64 0)] 1 [(0,(.t 26))]⟩,⟨some 28,none,.mv (.t 7)⟩,⟨some 29,none,.append 3 1 8 [(.int .i64 0)] (.t 27) (.t 28)⟩,⟨some 30,none,.mkrow 36 1 [.nil] 1 [(0,(.t 29))]⟩,⟨some 31,none,.append 36 1 24 [.nil] (.t 25) (.t 30)⟩,⟨some 3,none,.mv (.t 31)⟩]))) (.reg [⟨some 32,none,.bin .add false (.t 21) (.c (.int .i64 1))⟩,⟨some 21,none,.mv (.t 32)⟩]))))))))) (.reg [⟨some 33,none,.bin .add false (.t 13) (.c (.int .i64 1))⟩,⟨some 13,none,.mv (.t 33)⟩]))))))) (.seq (.reg [⟨some 34,none,.mv (.t 3)⟩,⟨some 2,none,.mv (.t 34)⟩]) .ret))))
theorem G3:Aq Try.prog 30=some ⟨35,DW,[(.tmp 2)]⟩:=by kernel_rfl
theorem C6:modes 30=⟨[],.frz,none,false⟩:=by unfold modes; rfl
def C7:SC:=(.seq (.reg [⟨some 1,none,.boxv 26 2 (.t 0)⟩,⟨some 2,none,.mv (.c .nil)⟩,⟨some 3,none,.mv (.c (.bool false))⟩]) (.seq (.seq (.reg [⟨some 4,none,.load true 2 (.t 1)⟩,⟨some 5,none,.call 29 [(.t 4)]⟩,⟨some 6,none,.un .not (.t 5)⟩]) (.cond (.t 6) (.seq (.reg [⟨some 2,none,.mv (.c .nil)⟩,⟨some 3,none,.mv (.c (.bool false))⟩]) .ret) .skip)) (.seq (.reg [⟨some 7,none,.load true 2 (.t 1)⟩,⟨some 8,none,.call 30 [(.t 7)]⟩,⟨some 2,none,.mv (.t 8)⟩,⟨some 3,none,.mv (.c (.bool true))⟩]) .ret)))
theorem DX:Aq Try.prog 8=some ⟨9,C7,[(.tmp 2),(.tmp 3)]⟩:=by kernel_rfl
theorem A5:modes 8=⟨[],.frz,none,false⟩:=by unfold modes; rfl
def Jg:SC:=(.seq (.reg [⟨some 2,none,.boxv 26 2 (.t 0)⟩,⟨(some 4),none,(.alloc 26 [(.str ⟨#[]⟩),.nil])⟩,⟨some 5,none,.mv (.c (.bool false))⟩]) (.seq (.seq (.reg [⟨some 8,none,.mv (.t 1)⟩,⟨some 9,none,.len false (.t 8)⟩,⟨some 10,none,.mv (.c (.int .i64 0))⟩]) (.block 0 (.loop [0,0,1,0,1,0,0,0,1,1,1,0,0,0,0,0,0,0,0,0,0,0,0,0,0,0,0,0,0] (.seq (.reg [⟨some 11,none,.bin .lss false (.t 10) (.t 9)⟩]) (.seq (.cond (.t 11) .skip (.exit 0)) (.seq (.block 1 (.seq (.reg [⟨some 12,none,.iaddr 1 (.t 8) (.t 10)⟩,⟨some 13,none,.load false 1 (.t 12)⟩,⟨some 7,none,.mv (.t 13)⟩]) (.seq (.seq (.reg [⟨some 14,none,.mv (.t 7)⟩,⟨some 15,none,.faddr 1 (.t 2)⟩,⟨some 16,none,.load false 1 (.t 15)⟩,⟨some 17,none,.len false (.t 16)⟩,⟨some 18,none,.bin .sub false (.t 17) (.c (.int .i64 1))⟩,⟨some 19,none,.call 61 [(.t 14),(.c (.int .i64 0)),(.t 18)]⟩,⟨some 20,none,.un .not (.t 19)⟩]) (.cond (.t 20) (.seq (.reg [⟨(some 21),none,(.build [(.str ⟨#[]⟩),.nil] [])⟩,⟨none,none,(.store 2 (.t 4) (.t 21))⟩,⟨some 5,none,.mv (.c (.bool false))⟩]) .ret) .skip)) (.reg [⟨some 22,none,.faddr 1 (.t 2)⟩,⟨some 23,none,.load false 1 (.t 22)⟩,⟨some 24,none,.mv (.t 7)⟩,⟨some 25,none,.iaddr 2 (.t 23) (.t 24)⟩,⟨some 26,none,.load true 2 (.t 25)⟩,⟨none,none,(.store 2 (.t 2) (.t 26))⟩])))) (.reg [⟨some 27,none,.bin .add false (.t 10) (.c (.int .i64 1))⟩,⟨some 10,none,.mv (.t 27)⟩]))))))) (.seq (.reg [⟨some 28,none,.load true 2 (.t 2)⟩,⟨none,none,(.store 2 (.t 4) (.t 28))⟩,⟨some 5,none,.mv (.c (.bool true))⟩]) .ret)))
theorem M4:Aq Try.prog 34=some ⟨29,Jg,[(.cell 4 true 2),(.tmp 5)]⟩:=by kernel_rfl
theorem G4:modes 34=⟨[],.frz,none,false⟩:=by unfold modes; rfl
def DY:SC:=(.seq (.reg [⟨some 2,none,.boxv 26 2 (.t 0)⟩,⟨(some 4),none,(.alloc 26 [(.str ⟨#[]⟩),.nil])⟩,⟨some 5,none,.mv (.c (.bool false))⟩]) (.seq (.seq (.reg [⟨some 8,none,.load true 2 (.t 2)⟩,⟨some 9,none,.call 29 [(.t 8)]⟩,⟨some 10,none,.un .not (.t 9)⟩]) (.cond (.t 10) (.seq (.reg [⟨(some 11),none,(.build [(.str ⟨#[]⟩),.nil] [])⟩,⟨none,none,(.store 2 (.t 4) (.t 11))⟩,⟨some 5,none,.mv (.c (.bool false))⟩]) .ret) .skip)) (.seq (.reg [⟨some 13,none,.load true 2 (.t 2)⟩,⟨some 14,none,.mv (.t 1)⟩,⟨some 15,none,.call 34 [(.t 13),(.t 14)]⟩,⟨some 12,none,.mv (.t 15)⟩,⟨some 16,none,.ext (.t 12) 0⟩,⟨some 17,none,.ext (.t 12) 1⟩,⟨(some 6),none,(.alloc 26 [(.str ⟨#[]⟩),.nil])⟩,⟨none,none,(.store 2 (.t 6) (.t 16))⟩,⟨some 7,none,.mv (.t 17)⟩]) (.seq (.reg [⟨some 18,none,.load true 2 (.t 6)⟩,⟨some 19,none,.call 35 [(.t 18)]⟩,⟨some 20,none,.mv (.t 7)⟩,⟨none,none,(.store 2 (.t 4) (.t 19))⟩,⟨some 5,none,.mv (.t 20)⟩]) .ret))))
theorem G5:Aq Try.prog 12=some ⟨21,DY,[(.cell 4 true 2),(.tmp 5)]⟩:=by kernel_rfl
theorem AA:modes 12=⟨[],.own [none,some (26,2),none],none,false⟩:=by unfold modes; rfl
def CI:SC:=(.seq (.reg [⟨some 3,none,.boxv 26 2 (.t 0)⟩,⟨some 5,none,.boxv 26 2 (.t 2)⟩,⟨(some 6),none,(.alloc 26 [(.str ⟨#[]⟩),.nil])⟩]) (.seq (.seq (.reg [⟨some 8,none,.mv (.t 1)⟩,⟨some 9,none,.len false (.t 8)⟩,⟨some 10,none,.bin .eql false (.t 9) (.c (.int .i64 0))⟩]) (.cond (.t 10) (.seq (.reg [⟨some 11,none,.load true 2 (.t 5)⟩,⟨some 12,none,.call 35 [(.t 11)]⟩,⟨none,none,(.store 2 (.t 6) (.t 12))⟩]) .ret) .skip)) (.seq (.reg [⟨some 13,none,.load true 2 (.t 3)⟩,⟨some 14,none,.call 35 [(.t 13)]⟩,⟨(some 7),none,(.alloc 26 [(.str ⟨#[]⟩),.nil])⟩,⟨none,none,(.store 2 (.t 7) (.t 14))⟩]) (.seq (.dreg [[],[0],[],[2],[3,2],[],[5],[],[7],[8,7],[6,5,9,8,7],[10,6,5,9,8,7],[],[12],[],[11,10,6,5,9,8,7,13,12,14],[1,0,4,3,2,5,6,7,8,9,10,11,12,13,14,15],[16,1,0,4,3,2,5,6,7,8,9,10,11,12,13,14,15]] [⟨some 15,none,.faddr 1 (.t 7)⟩,⟨some 16,none,.load false 1 (.t 15)⟩,⟨some 17,none,.mv (.t 1)⟩,⟨some 18,none,.iaddr 1 (.t 17) (.c (.int .i64 0))⟩,⟨some 19,none,.load false 1 (.t 18)⟩,⟨some 20,none,.faddr 1 (.t 3)⟩,⟨some 21,none,.load false 1 (.t 20)⟩,⟨some 22,none,.mv (.t 1)⟩,⟨some 23,none,.iaddr 1 (.t 22) (.c (.int .i64 0))⟩,⟨some 24,none,.load false 1 (.t 23)⟩,⟨some 25,none,.iaddr 2 (.t 21) (.t 24)⟩,⟨some 26,none,.load true 2 (.t 25)⟩,⟨some 27,none,.mv (.t 1)⟩,⟨some 28,none,.slice false 1 (.t 27) (some (.c (.int .i64 1))) none⟩,⟨some 29,none,.load true 2 (.t 5)⟩,⟨some 30,none,.call 38 [(.t 26),(.t 28),(.t 29)]⟩,⟨some 31,none,.iaddr 2 (.t 16) (.t 19)⟩,⟨none,none,(.store 2 (.t 31) (.t 30))⟩]) (.seq (.reg [⟨some 32,none,.load true 2 (.t 7)⟩,⟨none,none,(.store 2 (.t 6) (.t 32))⟩]) .ret)))))
theorem Ev:Aq Try.prog 38=some ⟨33,CI,[(.cell 6 true 2)]⟩:=by kernel_rfl
theorem Ce:modes 38=⟨[],.own [none,some (26,2)],none,false⟩:=by unfold modes; rfl
def DZ:SC:=(.seq (.reg [⟨some 3,none,.boxv 26 2 (.t 0)⟩,⟨some 5,none,.boxv 26 2 (.t 2)⟩,⟨(some 6),none,(.alloc 26 [(.str ⟨#[]⟩),.nil])⟩,⟨some 7,none,.mv (.c (.bool false))⟩]) (.seq (.seq (.reg [⟨some 11,none,.load true 2 (.t 3)⟩,⟨some 12,none,.call 29 [(.t 11)]⟩,⟨some 13,none,.un .not (.t 12)⟩,⟨some 14,none,.mv (.t 13)⟩,⟨(some 15),(some (14,false)),(.load true 2 (.t 5))⟩,⟨(some 16),(some (14,false)),(.call 13 [(.t 15)])⟩,⟨(some 17),(some (14,false)),(.un .not (.t 16))⟩,⟨some 18,none,.pick (.t 14) (.c (.bool true)) (.t 17)⟩]) (.cond (.t 18) (.seq (.reg [⟨(some 19),none,(.build [(.str ⟨#[]⟩),.nil] [])⟩,⟨none,none,(.store 2 (.t 6) (.t 19))⟩,⟨some 7,none,.mv (.c (.bool false))⟩]) .ret) .skip)) (.seq (.seq (.reg [⟨some 21,none,.load true 2 (.t 3)⟩,⟨some 22,none,.mv (.t 1)⟩,⟨some 23,none,.call 34 [(.t 21),(.t 22)]⟩,⟨some 20,none,.mv (.t 23)⟩,⟨some 24,none,.ext (.t 20) 0⟩,⟨some 25,none,.ext (.t 20) 1⟩,⟨(some 8),none,(.alloc 26 [(.str ⟨#[]⟩),.nil])⟩,⟨none,none,(.store 2 (.t 8) (.t 24))⟩,⟨some 9,none,.mv (.t 25)⟩]) (.seq (.reg [⟨some 26,none,.mv (.t 9)⟩,⟨some 27,none,.un .not (.t 26)⟩]) (.cond (.t 27) (.seq (.reg [⟨(some 28),none,(.build [(.str ⟨#[]⟩),.nil] [])⟩,⟨none,none,(.store 2 (.t 6) (.t 28))⟩,⟨some 7,none,.mv (.c (.bool false))⟩]) .ret) .skip))) (.seq (.reg [⟨some 29,none,.load true 2 (.t 3)⟩,⟨some 30,none,.mv (.t 1)⟩,⟨some 31,none,.load true 2 (.t 5)⟩,⟨some 32,none,.call 38 [(.t 29),(.t 30),(.t 31)]⟩,⟨(some 10),none,(.alloc 26 [(.str ⟨#[]⟩),.nil])⟩,⟨none,none,(.store 2 (.t 10) (.t 32))⟩]) (.seq (.seq (.reg [⟨some 33,none,.load true 2 (.t 10)⟩,⟨some 34,none,.call 29 [(.t 33)]⟩,⟨some 35,none,.un .not (.t 34)⟩]) (.cond (.t 35) (.seq (.reg [⟨(some 36),none,(.build [(.str ⟨#[]⟩),.nil] [])⟩,⟨none,none,(.store 2 (.t 6) (.t 36))⟩,⟨some 7,none,.mv (.c (.bool false))⟩]) .ret) .skip)) (.seq (.reg [⟨some 37,none,.load true 2 (.t 10)⟩,⟨none,none,(.store 2 (.t 6) (.t 37))⟩,⟨some 7,none,.mv (.c (.bool true))⟩]) .ret))))))
theorem G6:Aq Try.prog 14=some ⟨38,DZ,[(.cell 6 true 2),(.tmp 7)]⟩:=by kernel_rfl
theorem AB:modes 14=⟨[],.own [none,some (26,2),none],none,false⟩:=by unfold modes; rfl
def CJ:SC:=(.seq (.reg [⟨some 1,none,.boxv 26 2 (.t 0)⟩,⟨some 2,none,.mv (.c (.int .i64 0))⟩,⟨some 3,none,.mv (.c (.bool false))⟩]) (.seq (.seq (.reg [⟨some 4,none,.load true 2 (.t 1)⟩,⟨some 5,none,.call 29 [(.t 4)]⟩,⟨some 6,none,.un .not (.t 5)⟩]) (.cond (.t 6) (.seq (.reg [⟨some 2,none,.mv (.c (.int .i64 0))⟩,⟨some 3,none,.mv (.c (.bool false))⟩]) .ret) .skip)) (.seq (.reg [⟨some 7,none,.load true 2 (.t 1)⟩,⟨some 8,none,.call 31 [(.t 7)]⟩,⟨some 2,none,.mv (.t 8)⟩,⟨some 3,none,.mv (.c (.bool true))⟩]) .ret)))
theorem Ew:Aq Try.prog 9=some ⟨9,CJ,[(.tmp 2),(.tmp 3)]⟩:=by kernel_rfl
theorem A9:modes 9=⟨[],.asis,none,false⟩:=by unfold modes; rfl
theorem M5 {xs:List Tm} {k:Nat} (h:k<xs.length) (j:Int):Tm.F7 (xs.drop k) j=(xs[k]).pos.map (j :: ·)++Tm.F7 (xs.drop (k+1)) (j+1):=by rw [zC h,Tm.F7]
theorem J9 (x:Tm) (hn:x.nodes≤1048576) (ih:∀ y∈x.args,E 30 [y.sv] []=some (.arr (y.pos.map pD),[])):E 30 [x.sv] []=some (.arr (x.pos.map pD),[]):=by
 have hl:=Tm.length_le x.args
 have hne:=Tm.Af x
 have hpl:=Tm.Ho x
 have h00:[([]:List Int)].map pO=[[OT.ow []]]:=rfl
 refine Ai G3 C6 (of_decide_eq_true rfl) ?_
 simp (disch:=omega) only [DW,go_sem,Aa]
 refine go_loop (α:=Int × List (List Int)) (fun a=>⟨slots 35 0 [(3,.ref 0),(11,.arr (x.args.map Tm.d)),(12,.int .i64 x.args.length),(13,.int .i64 a.1)],[.row 36 1 (a.2.map pO)]⟩) (fun a=>∃ k0:Nat,a.1=k0∧k0≤x.args.length∧a.2++Tm.F7 (x.args.drop k0) a.1=x.pos) (fun a=>x.args.length-a.1.toNat) (0,[[]]) ⟨0,rfl,zL _,by rw [zI,Tm.pos_eq]; rfl⟩ (by simp (disch:=omega) only [go_sem,Aa,h00]) ?_
 rintro ⟨i0,ac0⟩ ⟨k0,hi0,hk0,hR0⟩
 dsimp only at hi0 hR0
 have hni0:i0.toNat=k0:=by omega
 rcases zF k0 x.args.length with hlt0 | hge0
 ·have hg0:=get_at Tm.d hlt0
  rw [Tm.ED] at hg0
  have hc0:=ih x.args[k0] (zE hlt0)
  have hdp:=M5 hlt0 i0
  obtain ⟨ps,hps⟩:∃ ps,ps=(x.args[k0]).pos:=⟨_,rfl⟩
  have hpl2:ps.length≤x.nodes:=by rw [hps,Tm.Ho]; have:=Tm.BD x.args k0 hlt0; omega
  have hpz:∀ p∈ps,p.length<x.nodes:=fun p hp=>by rw [hps] at hp; have:=Tm.Gb p _ hp; have:=Tm.BD x.args k0 hlt0; omega
  rw [←hps] at hc0
  simp (disch:=omega) only [go_sem,Aa,hni0,hg0,hc0,C6]
  refine go_loop (α:=Int × (List (List Int))) (fun a=>⟨slots 35 0 [(3,.ref 0),(4,.int .i64 i0),(11,.arr (x.args.map Tm.d)),(12,.int .i64 x.args.length),(13,.int .i64 i0),(19,.arr (ps.map pD)),(20,.int .i64 ps.length),(21,.int .i64 (a.1))],[.row 36 1 ((a.2).map pO)]⟩) (fun a=>∃ k:Nat,a.1=k∧k≤(ps).length∧(a.2)++((ps.drop k).map (i0 :: ·)++Tm.F7 (x.args.drop (k0+1)) (i0+1))=x.pos) (fun a=>(ps).length-(a.1).toNat) (0,ac0) ⟨0,rfl,zL _,by rw [zI,hps,← hdp]; exact hR0⟩ (by simp (disch:=omega) only [go_sem,Aa,hni0]) ?_
  rintro ⟨i,acc⟩ ⟨k,hi,hk,hR⟩
  dsimp only at hi hR
  have hni:i.toNat=k:=by omega
  have hni1:(i+1).toNat=k+1:=by omega
  rcases zF k (ps).length with hlt | hge
  ·have hgp:=get_at pD hlt
   have hpz1:=hpz ps[k] (zE hlt)
   have e1:[[OT.int i0]]++(ps[k]).map iO=(i0 :: ps[k]).map iO:=rfl
   have e2:acc.map pO++[[OT.ow ((i0 :: ps[k]).map iO)]]=(acc++[i0 :: ps[k]]).map pO:=by rw [zR]; rfl
   rw [zA] at e2
   have hal:acc.length+1≤x.nodes:=by
    have:=congrArg List.length hR
    rw [zZ,zZ,zY,List.length_drop,hpl] at this
    omega
   simp (disch:=omega) only [go_sem,Aa,hni,hgp,e1,Li,Pe,NC,J7,NB]
   refine ⟨(i+1,acc++[i0 :: ps[k]]),⟨k+1,by dsimp only; omega,hlt,?_⟩,by dsimp only; omega,?_⟩
   ·dsimp only
    rw [zC hlt,zA] at hR
    rw [List.append_assoc]
    exact hR
   ·simp (disch:=omega) only [go_sem,Aa,e2]
  ·rw [zG hge,zN,List.nil_append] at hR
   simp (disch:=omega) only [go_sem,Aa,hni]
   refine ⟨(i0+1,acc),⟨k0+1,by dsimp only; omega,hlt0,hR⟩,by dsimp only; omega,?_⟩
   simp (disch:=omega) only [go_sem,Aa]
 ·rw [zG hge0,Tm.F7,List.append_nil] at hR0
  rw [←hR0]
  simp (disch:=omega) only [go_sem,Aa,hni0,Li,Pe,NC,J7,NB]
theorem GU (x:Tm) (hn:x.nodes≤1048576):E 30 [x.sv] []=some (.arr (x.pos.map pD),[]) :=
 J9 x hn fun y hy=>GU y (by have:=Tm.BH hy; have:=Tm.Af x; omega)
termination_by SizeOf.sizeOf x
decreasing_by exact Tm.AU hy
theorem Gg (x:Tm) (hn:x.nodes≤1048576):E 8 [x.sv] []=some (.tup [.arr ((bif x.expr then x.pos else []).map pD),.bool x.expr],[]):=by
 have h1:=Ct x (by omega)
 cases he:x.expr with
 | false =>
  rw [he] at h1
  refine Ai DX A5 (of_decide_eq_true rfl) ?_
  simp (disch:=omega) only [C7,go_sem,Aa,h1,A2,zN]
 | true =>
  rw [he] at h1
  have h2:=GU x hn
  refine Ai DX A5 (of_decide_eq_true rfl) ?_
  simp (disch:=omega) only [C7,go_sem,Aa,h1,h2,A2,C6]
theorem Lo (x:Tm) (hn:x.nodes≤1048576):E 9 [x.sv] []=some (.tup [.int .i64 (bif x.expr then (x.nodes:Int) else 0),.bool x.expr],[]):=by
 have h1:=Ct x (by omega)
 cases he:x.expr with
 | false =>
  rw [he] at h1
  rw [cond_false]
  refine Ai Ew A9 (of_decide_eq_true rfl) ?_
  simp (disch:=omega) only [CJ,go_sem,Aa,h1,A2]
 | true =>
  rw [he] at h1
  have h2:=Lj x (by omega)
  have h3:=Tm.EG x
  have h4:=Tm.Ln he
  rw [h3.2.2 (by omega)] at h2
  rw [cond_true]
  refine Ai Ew A9 (of_decide_eq_true rfl) ?_
  simp (disch:=omega) only [CJ,go_sem,Aa,h1,h2,A2,Ci]
theorem Qt (x s:Tm) (p:List Int) (hl:p.length≤1048576) (hn:x.nodes≤1048576) (h:x.at_ p=some s):E 34 [x.sv,.arr (p.map iD)] []=some (.tup [s.sv,.bool true],[]):=by
 refine Ai M4 G4 (of_decide_eq_true rfl) ?_
 simp (disch:=omega) only [Jg,go_sem,Aa]
 refine go_loop (α:=Int × (Tm)) (fun a=>⟨slots 29 0 [(2,.ptr 0 0),(4,.ptr 1 0),(8,.arr (p.map iD)),(9,.int .i64 p.length),(10,.int .i64 (a.1))],[.box 26 [.str (a.2).name,.arr ((a.2).args.map Tm.d)],tZ]⟩) (fun a=>∃ k:Nat,a.1=k∧k≤(p).length∧(a.2).at_ (p.drop k)=some s∧(a.2).nodes≤x.nodes) (fun a=>(p).length-(a.1).toNat) (0,x) ⟨0,rfl,zL _,by rw [zI]; exact h,zX _⟩ (by simp (disch:=omega) only [go_sem,Aa]) ?_
 rintro ⟨i,cur_⟩ ⟨k,hi,hk,hR⟩
 dsimp only at hi hR
 have hni:i.toNat=k:=by omega
 have hni1:(i+1).toNat=k+1:=by omega
 rcases zF k (p).length with hlt | hge
 ·obtain ⟨hR,hcn⟩:=hR
  rw [zC hlt,Tm.at_] at hR
  split at hR
  ·rename_i hk
   have hgp:=get_at iD hlt
   have hw:=M3 p[k] 0 ((cur_.args.length:Int)-1)
   rw [BN hk.1,BN (show p[k]≤(cur_.args.length:Int)-1 by omega)] at hw
   have hga:=get_at Tm.d hk.2
   rw [Tm.ED] at hga
   have hcl:=Tm.Ig cur_
   have hnn:=Tm.BD cur_.args _ hk.2
   have hcn2:=Tm.Af cur_
   have hi2:dec (inK .i64 ((cur_.args.length:Int)-1))=true:=Ej (by omega) (by omega)
   have hk0:(0≤p[k])=True:=eq_true hk.1
   simp (disch:=omega) only [go_sem,Aa,hni,hgp,hw,hga,hi2,hk0,BX,zH]
   exact ⟨(i+1,cur_.args[(p[k]).toNat]),⟨k+1,by dsimp only; omega,hlt,hR,by dsimp only; omega⟩,by dsimp only; omega,by first | trivial | rfl⟩
  ·cases hR
 ·obtain ⟨hR,hcn⟩:=hR
  rw [zG hge,Tm.at_] at hR
  obtain rfl:=zJ hR
  simp (disch:=omega) only [go_sem,Aa,hni]
theorem GV (x s:Tm) (p:List Int) (hl:p.length≤1048576) (hn:x.nodes≤1048576) (hs:s.nodes≤1048576) (he:x.expr=true) (h:x.at_ p=some s):E 12 [x.sv,.arr (p.map iD)] []=some (.tup [s.osv,.bool true],s.obs):=by
 have h1:=Ct x (by omega)
 rw [he] at h1
 have h2:=Qt x s p hl hn h
 have h3:=Ek s (by omega)
 refine Ai G5 AA (of_decide_eq_true rfl) ?_
 simp (disch:=omega) only [DY,go_sem,Aa,h1,h2,h3,A2,G4,BE,Tm.osv,Tm.obs]
theorem Ik:∀ (p:List Int) (x s:Tm),p.length≤1048576→x.nodes≤1048576→s.nodes≤1048576→(∃ y,x.at_ p=some y)→E 38 [x.sv,.arr (p.map iD),s.sv] []=some ((x.rep p s).osv,(x.rep p s).obs)
 | [],x,s,_,_,hs,_=>by
  have h3:=Ek s (by omega)
  rw [Tm.rep]
  refine Ai Ev Ce (of_decide_eq_true rfl) ?_
  simp (disch:=omega) only [CI,go_sem,Aa,h3,BE,Tm.osv,Tm.obs]
 | k :: q,x,s,hl,hn,hs,⟨y,hy⟩=>by
  rw [Tm.at_] at hy
  split at hy
  ·rename_i hk
   have h1:=Ek x (by omega)
   have hnn:=Tm.BD x.args _ hk.2
   have hne:=Tm.Af x
   have ih:=Ik q x.args[k.toNat] s (by simp only [zS] at hl; omega) (by omega) hs ⟨y,hy⟩
   rw [Tm.rep,z0,zM hk.2]
   simp only [z2]
   obtain ⟨r,hr⟩:∃ r,r=(x.args[k.toNat]).rep q s:=⟨_,rfl⟩
   rw [←hr] at ih ⊢
   have hga:=get_at Tm.d hk.2
   rw [Tm.ED] at hga
   have hgo:=get_at Tm.o hk.2
   rw [Tm.Ha] at hgo
   have hk0:(0≤k)=True:=eq_true hk.1
   have hq1:((q.length+1:Nat):Int)=0 ↔ False:=by constructor <;> intro h <;> first | omega | exact h.elim
   have hq0:(((q.length+1:Nat):Int)=0)=False:=propext hq1
   have ht:(iD k :: q.map iD).take (q.length+1)=iD k :: q.map iD:=List.take_of_length_le (by simp)
   have hs1:(x.args.map Tm.o).set k.toNat [.str r.name,.ow (r.args.map Tm.o)]=(x.args.set k.toNat r).map Tm.o:=by rw [List.map_set,Tm.Ha r]
   have hal:((iD k :: q.map iD).all fun e=>e.length == 1)=true:=by have:=Li (k :: q); rw [zA] at this; exact this
   have hk2:=hk.2
   refine Ai Ev Ce (of_decide_eq_true rfl) ?_
   simp (disch:=omega) only [CI,go_sem,Aa,h1,ih,hga,hgo,hk0,hq0,ht,hal,hs1,hk2,BE,Ce,Tm.osv,Tm.obs]
   exact ⟨rfl,rfl⟩
  ·cases hy
theorem GW (x s:Tm) (p:List Int) (hl:p.length≤1048576) (hn:x.nodes≤1048576) (hs:s.nodes≤1048576) (he:x.expr=true) (hv:s.valid=true) (h:x.at_ p=some s):E 14 [x.sv,.arr (p.map iD),s.sv] []=some (.tup [x.osv,.bool true],x.obs):=by
 have h1:=Ct x (by omega)
 rw [he] at h1
 have h2:=Qt x s p hl hn h
 have h3:=BZ s (by omega)
 rw [hv] at h3
 have h4:=Ik p x s hl hn hs ⟨s,h⟩
 rw [Tm.NA p x s h] at h4
 refine Ai G6 AB (of_decide_eq_true rfl) ?_
 simp (disch:=omega) only [DZ,go_sem,Aa,h1,h2,h3,h4,A2,Ac,G4,Ce,Tm.osv,Tm.obs]
def Do:SC:=(.seq (.reg [⟨some 1,none,.boxv 26 2 (.t 0)⟩,⟨some 2,none,.mv (.c (.bool false))⟩]) (.seq (.reg [⟨some 3,none,.load true 2 (.t 1)⟩,⟨some 4,none,.call 32 [(.t 3)]⟩,⟨some 2,none,.mv (.t 4)⟩]) .ret))
theorem F9:Aq Try.prog 10=some ⟨5,Do,[(.tmp 2)]⟩:=by kernel_rfl
theorem Az:modes 10=⟨[],.asis,none,false⟩:=by unfold modes; rfl
def Dp:SC:=(.seq (.reg [⟨some 1,none,.boxv 26 2 (.t 0)⟩,⟨some 2,none,.mv (.c (.bool false))⟩]) (.seq (.reg [⟨some 3,none,.load true 2 (.t 1)⟩,⟨some 4,none,.call 33 [(.t 3)]⟩,⟨some 2,none,.mv (.t 4)⟩]) .ret))
theorem FA:Aq Try.prog 11=some ⟨5,Dp,[(.tmp 2)]⟩:=by kernel_rfl
theorem A1:modes 11=⟨[],.asis,none,false⟩:=by unfold modes; rfl
def Bm:SC:=(.seq (.reg [⟨some 2,none,.mv (.c (.bool false))⟩]) (.seq (.seq (.reg [⟨some 13,none,.mv (.t 0)⟩,⟨some 14,none,.call 6 [(.t 13)]⟩]) (.cond (.t 14) (.seq (.reg [⟨some 2,none,.mv (.c (.bool true))⟩]) .ret) .skip)) (.seq (.reg [⟨some 15,none,.mv (.t 0)⟩,⟨some 16,none,.call 7 [(.t 15)]⟩,⟨(some 3),none,(.alloc 26 [(.str ⟨#[]⟩),.nil])⟩,⟨none,none,(.store 2 (.t 3) (.t 16))⟩]) (.seq (.reg [⟨some 18,none,.load true 2 (.t 3)⟩,⟨some 19,none,.call 8 [(.t 18)]⟩,⟨some 17,none,.mv (.t 19)⟩,⟨some 20,none,.ext (.t 17) 0⟩,⟨some 21,none,.ext (.t 17) 1⟩,⟨some 4,none,.mv (.t 20)⟩,⟨some 5,none,.mv (.t 21)⟩]) (.seq (.reg [⟨some 23,none,.load true 2 (.t 3)⟩,⟨some 24,none,.call 9 [(.t 23)]⟩,⟨some 22,none,.mv (.t 24)⟩,⟨some 25,none,.ext (.t 22) 0⟩,⟨some 26,none,.ext (.t 22) 1⟩,⟨some 6,none,.mv (.t 25)⟩,⟨some 7,none,.mv (.t 26)⟩]) (.seq (.seq (.reg [⟨some 27,none,.mv (.t 5)⟩,⟨some 28,none,.load true 2 (.t 3)⟩,⟨some 29,none,.call 10 [(.t 28)]⟩,⟨some 30,none,.mv (.t 29)⟩,⟨(some 31),(some (30,false)),(.load true 2 (.t 3))⟩,⟨(some 32),(some (30,false)),(.call 11 [(.t 31)])⟩,⟨some 33,none,.pick (.t 30) (.c (.bool true)) (.t 32)⟩,⟨some 34,none,.bin .neq true (.t 27) (.t 33)⟩,⟨some 35,none,.mv (.t 34)⟩,⟨(some 36),(some (35,false)),(.mv (.t 7))⟩,⟨(some 37),(some (35,false)),(.mv (.t 5))⟩,⟨(some 38),(some (35,false)),(.bin .neq true (.t 36) (.t 37))⟩,⟨some 39,none,.pick (.t 35) (.c (.bool true)) (.t 38)⟩,⟨some 40,none,.mv (.t 39)⟩,⟨(some 41),(some (40,false)),(.mv (.t 4))⟩,⟨(some 42),(some (40,false)),(.len false (.t 41))⟩,⟨(some 43),(some (40,false)),(.mv (.t 6))⟩,⟨(some 44),(some (40,false)),(.bin .neq false (.t 42) (.t 43))⟩,⟨some 45,none,.pick (.t 40) (.c (.bool true)) (.t 44)⟩]) (.cond (.t 45) (.seq (.reg [⟨some 2,none,.mv (.c (.bool false))⟩]) .ret) .skip)) (.seq (.seq (.reg [⟨some 8,none,.mv (.c (.int .i64 0))⟩]) (.block 0 (.loop [0,0,0,1,1,0,0,0,1,0,0,0,0,0,0,0,0,0,0,0,0,0,0,0,0,0,0,0,0,0,0,0,0,0,0,0,0,0,0,0,0,0,0,0,0,0,0,0,0,0,0,0,0,0,0,0,0,0,0,0,0,0,0,0,0,0,0,0,0,0,0,0,0,0,0,0,0,0,0,0,0,0,0,0,0,0,0,0,0,0,0,0,0,0] (.seq (.seq (.reg [⟨some 46,none,.mv (.t 8)⟩,⟨some 47,none,.mv (.t 4)⟩,⟨some 48,none,.len false (.t 47)⟩,⟨some 49,none,.bin .lss false (.t 46) (.t 48)⟩]) (.cond (.t 49) .skip (.exit 0))) (.seq (.block 1 (.seq (.dreg [[],[],[],[1,2],[3,1,2],[0,4,3,1,2],[5,0,4,3,1,2],[6,5,0,4,3,1,2],[6,5,0,4,3,1,2],[],[9,7,6,5,0,4,3,1,2],[8,6,5,0,4,3,1,2,10,9,7]] [⟨some 53,none,.load true 2 (.t 3)⟩,⟨some 54,none,.mv (.t 4)⟩,⟨some 55,none,.mv (.t 8)⟩,⟨some 56,none,.iaddr 1 (.t 54) (.t 55)⟩,⟨some 57,none,.load false 1 (.t 56)⟩,⟨some 58,none,.call 12 [(.t 53),(.t 57)]⟩,⟨some 52,none,.mv (.t 58)⟩,⟨some 59,none,.ext (.t 52) 0⟩,⟨some 60,none,.ext (.t 52) 1⟩,⟨(some 9),none,(.alloc 26 [(.str ⟨#[]⟩),.nil])⟩,⟨none,none,(.store 2 (.t 9) (.t 59))⟩,⟨some 10,none,.mv (.t 60)⟩]) (.seq (.seq (.reg [⟨some 61,none,.mv (.t 10)⟩,⟨some 62,none,.un .not (.t 61)⟩]) (.cond (.t 62) (.seq (.reg [⟨some 2,none,.mv (.c (.bool false))⟩]) .ret) .skip)) (.seq (.seq (.reg [⟨some 63,none,.load true 2 (.t 9)⟩,⟨some 64,none,.call 13 [(.t 63)]⟩,⟨some 65,none,.un .not (.t 64)⟩]) (.cond (.t 65) (.exit 1) .skip)) (.seq (.dreg [[],[],[],[1,2],[3,1,2],[],[0,4,3,1,2,5],[6,0,4,3,1,2,5],[7,6,0,4,3,1,2,5],[7,6,0,4,3,1,2,5],[],[10,8,7,6,0,4,3,1,2,5],[9,7,6,0,4,3,1,2,5,11,10,8]] [⟨some 67,none,.load true 2 (.t 3)⟩,⟨some 68,none,.mv (.t 4)⟩,⟨some 69,none,.mv (.t 8)⟩,⟨some 70,none,.iaddr 1 (.t 68) (.t 69)⟩,⟨some 71,none,.load false 1 (.t 70)⟩,⟨some 72,none,.load true 2 (.t 9)⟩,⟨some 73,none,.call 14 [(.t 67),(.t 71),(.t 72)]⟩,⟨some 66,none,.mv (.t 73)⟩,⟨some 74,none,.ext (.t 66) 0⟩,⟨some 75,none,.ext (.t 66) 1⟩,⟨(some 11),none,(.alloc 26 [(.str ⟨#[]⟩),.nil])⟩,⟨none,none,(.store 2 (.t 11) (.t 74))⟩,⟨some 12,none,.mv (.t 75)⟩]) (.seq (.seq (.reg [⟨some 76,none,.mv (.t 4)⟩,⟨some 77,none,.mv (.t 8)⟩,⟨some 78,none,.iaddr 1 (.t 76) (.t 77)⟩,⟨some 79,none,.load false 1 (.t 78)⟩,⟨some 80,none,.len false (.t 79)⟩,⟨some 81,none,.bin .eql false (.t 80) (.c (.int .i64 0))⟩,⟨some 82,none,.mv (.t 81)⟩,⟨(some 83),(some (82,true)),(.mv (.t 12))⟩,⟨(some 84),(some (82,true)),(.un .not (.t 83))⟩,⟨some 85,none,.pick (.t 82) (.t 84) (.c (.bool false))⟩]) (.cond (.t 85) (.seq (.reg [⟨some 2,none,.mv (.c (.bool false))⟩]) .ret) .skip)) (.seq (.reg [⟨some 86,none,.mv (.t 12)⟩,⟨some 87,none,.un .not (.t 86)⟩,⟨some 88,none,.mv (.t 87)⟩,⟨(some 89),(some (88,false)),(.load true 2 (.t 11))⟩,⟨(some 90),(some (88,false)),(.load true 2 (.t 3))⟩,⟨(some 91),(some (88,false)),(.call 15 [(.t 89),(.t 90)])⟩,⟨(some 92),(some (88,false)),(.un .not (.t 91))⟩,⟨some 93,none,.pick (.t 88) (.c (.bool true)) (.t 92)⟩]) (.cond (.t 93) (.seq (.reg [⟨some 2,none,.mv (.c (.bool false))⟩]) .ret) .skip)))))))) (.reg [⟨some 50,none,.mv (.t 8)⟩,⟨some 51,none,.bin .add false (.t 50) (.c (.int .i64 1))⟩,⟨some 8,none,.mv (.t 51)⟩])))))) (.seq (.reg [⟨some 2,none,.mv (.c (.bool true))⟩]) .ret))))))))
theorem B8:Aq Try.prog 3=some ⟨94,Bm,[(.tmp 2)]⟩:=by kernel_rfl
theorem B9:modes 3=⟨[],.asis,none,false⟩:=by unfold modes; rfl
theorem Gh (x:Tm) (hx:x.nodes≤1099511627776):E 10 [x.sv] []=some (.bool x.valid,[]):=by
 have h:=K4 x hx
 refine Ai F9 Az (of_decide_eq_true rfl) ?_
 simp (disch:=omega) only [Do,go_sem,Aa,h,AZ]
theorem Gi (x:Tm) (hx:x.nodes≤1099511627776):E 11 [x.sv] []=some (.bool x.atom,[]):=by
 have h:=NG x hx
 refine Ai FA A1 (of_decide_eq_true rfl) ?_
 simp (disch:=omega) only [Dp,go_sem,Aa,h,Bv]
theorem Qa (l:List Int) (hl:Bytes l):E 3 [.arr (l.map by_)] []=some (.bool true,[]):=by
 have hbig:=PY l
 by_cases hb:65536<(l.length:Int)
 ·rw [BN hb] at hbig
  refine Ai B8 B9 (of_decide_eq_true rfl) ?_
  simp (disch:=omega) only [Bm,go_sem,Aa,hbig,Be]
 ·rw [Cv hb] at hbig
  obtain ⟨t,hd,ht⟩:=Hf l hl (by omega)
  have p1:=Gg t (by omega)
  have p2:=Lo t (by omega)
  have v1:=Gh t (by omega)
  have v2:=Gi t (by omega)
  have hx:t.expr=(t.valid || t.atom):=rfl
  have hpl:=Tm.Ho t
  rcases (show (t.valid=false∧t.atom=false)∨t.valid=true∨(t.valid=false∧t.atom=true) by cases t.valid <;> cases t.atom <;> simp) with ⟨k1,k2⟩ | k1 | ⟨k1,k2⟩
  ·rw [k1,k2] at hx
   rw [k1] at v1
   rw [k2] at v2
   rw [hx] at p1 p2
   refine Ai B8 B9 (of_decide_eq_true rfl) ?_
   simp (disch:=omega) only [Bm,go_sem,Aa,hbig,hd,p1,p2,v1,v2,Bool.or_self,Be,A7,At,Az,A1,A5,A9,AA,Ac,AB,Tm.osv,Tm.obs]
   refine go_loop (α:=Unit) (fun _=>⟨slots 94 0 [(3,.ptr 0 0),(4,.arr []),(8,.int .i64 0)],[.box 26 [.str t.name,.arr (t.args.map Tm.d)]]⟩) (fun _=>True) (fun _=>0) () trivial (by simp (disch:=omega) only [go_sem,Aa]) ?_
   rintro ⟨⟩ _
   simp (disch:=omega) only [go_sem,Aa]
  ·rw [k1] at hx v1
   have hx:t.expr=true:=hx
   rw [hx,cond_true] at p1 p2
   have hq:((t.pos.length:Int)=(t.nodes:Int))=True:=eq_true (by omega)
   refine Ai B8 B9 (of_decide_eq_true rfl) ?_
   simp (disch:=omega) only [Bm,go_sem,Aa,hbig,hd,p1,p2,v1,v2,hq,Be,A7,At,Az,A1,A5,A9,AA,Ac,AB,Tm.osv,Tm.obs]
   refine go_loop (α:=Int) (fun a=>⟨slots 94 0 [(3,.ptr 0 0),(4,.arr (t.pos.map pD)),(8,.int .i64 a)],[.box 26 [.str t.name,.arr (t.args.map Tm.d)]]⟩) (fun a=>∃ k:Nat,a=k∧k≤(t.pos).length) (fun a=>(t.pos).length-(a).toNat) 0 ⟨0,rfl,zL _⟩ (by simp (disch:=omega) only [go_sem,Aa]) ?_
   rintro i ⟨k,hi,hk⟩
   have hni:i.toNat=k:=by omega
   have hni1:(i+1).toNat=k+1:=by omega
   rcases zF k (t.pos).length with hlt | hge
   ·have hgp:=get_at pD hlt
    have hpm:=zE hlt
    obtain ⟨s,hs,hsn⟩:=Tm.pos_at _ _ hpm
    have hpz:=Tm.Gb _ _ hpm
    have a1:=GV t s _ (by omega) (by omega) (by omega) hx hs
    have a2:=BZ s (by omega)
    have a4:=Ih t t (by omega) (by omega)
    rw [HZ] at a4
    cases hv:s.valid with
    | false =>
     rw [hv] at a2
     simp (disch:=omega) only [go_sem,Aa,hni,hgp,a1,a2,Be,A7,At,Az,A1,A5,A9,AA,Ac,AB,Tm.osv,Tm.obs]
     exact ⟨i+1,⟨k+1,by omega,hlt⟩,by omega,by first | trivial | rfl⟩
    | true =>
     rw [hv] at a2
     have a3:=GW t s _ (by omega) (by omega) (by omega) hx hv hs
     have hz0:=Classical.propComplete (((t.pos[k]).length:Int)=0)
     rcases hz0 with hz0 | hz0
     ·simp (disch:=omega) only [go_sem,Aa,hni,hgp,a1,a2,a3,a4,hz0,Be,A7,At,Az,A1,A5,A9,AA,Ac,AB,Tm.osv,Tm.obs]
      exact ⟨i+1,⟨k+1,by omega,hlt⟩,by omega,by first | trivial | rfl⟩
     ·simp (disch:=omega) only [go_sem,Aa,hni,hgp,a1,a2,a3,a4,hz0,Be,A7,At,Az,A1,A5,A9,AA,Ac,AB,Tm.osv,Tm.obs]
      exact ⟨i+1,⟨k+1,by omega,hlt⟩,by omega,by first | trivial | rfl⟩
   ·simp (disch:=omega) only [go_sem,Aa,hni]
  ·rw [k1,k2] at hx
   rw [k1] at v1
   rw [k2] at v2
   have hx:t.expr=true:=hx
   rw [hx,cond_true] at p1 p2
   have hq:((t.pos.length:Int)=(t.nodes:Int))=True:=eq_true (by omega)
   refine Ai B8 B9 (of_decide_eq_true rfl) ?_
   simp (disch:=omega) only [Bm,go_sem,Aa,hbig,hd,p1,p2,v1,v2,hq,Be,A7,At,Az,A1,A5,A9,AA,Ac,AB,Tm.osv,Tm.obs]
   refine go_loop (α:=Int) (fun a=>⟨slots 94 0 [(3,.ptr 0 0),(4,.arr (t.pos.map pD)),(8,.int .i64 a)],[.box 26 [.str t.name,.arr (t.args.map Tm.d)]]⟩) (fun a=>∃ k:Nat,a=k∧k≤(t.pos).length) (fun a=>(t.pos).length-(a).toNat) 0 ⟨0,rfl,zL _⟩ (by simp (disch:=omega) only [go_sem,Aa]) ?_
   rintro i ⟨k,hi,hk⟩
   have hni:i.toNat=k:=by omega
   have hni1:(i+1).toNat=k+1:=by omega
   rcases zF k (t.pos).length with hlt | hge
   ·have hgp:=get_at pD hlt
    have hpm:=zE hlt
    obtain ⟨s,hs,hsn⟩:=Tm.pos_at _ _ hpm
    have hpz:=Tm.Gb _ _ hpm
    have a1:=GV t s _ (by omega) (by omega) (by omega) hx hs
    have a2:=BZ s (by omega)
    have a4:=Ih t t (by omega) (by omega)
    rw [HZ] at a4
    cases hv:s.valid with
    | false =>
     rw [hv] at a2
     simp (disch:=omega) only [go_sem,Aa,hni,hgp,a1,a2,Be,A7,At,Az,A1,A5,A9,AA,Ac,AB,Tm.osv,Tm.obs]
     exact ⟨i+1,⟨k+1,by omega,hlt⟩,by omega,by first | trivial | rfl⟩
    | true =>
     rw [hv] at a2
     have a3:=GW t s _ (by omega) (by omega) (by omega) hx hv hs
     have hz0:=Classical.propComplete (((t.pos[k]).length:Int)=0)
     rcases hz0 with hz0 | hz0
     ·simp (disch:=omega) only [go_sem,Aa,hni,hgp,a1,a2,a3,a4,hz0,Be,A7,At,Az,A1,A5,A9,AA,Ac,AB,Tm.osv,Tm.obs]
      exact ⟨i+1,⟨k+1,by omega,hlt⟩,by omega,by first | trivial | rfl⟩
     ·simp (disch:=omega) only [go_sem,Aa,hni,hgp,a1,a2,a3,a4,hz0,Be,A7,At,Az,A1,A5,A9,AA,Ac,AB,Tm.osv,Tm.obs]
      exact ⟨i+1,⟨k+1,by omega,hlt⟩,by omega,by first | trivial | rfl⟩
   ·simp (disch:=omega) only [go_sem,Aa,hni]
end Go.Proofs.Ytgilfckaddklfaa
set_option maxRecDepth 100000
set_option linter.unusedSimpArgs false
set_option linter.unusedVariables false
set_option linter.unusedSectionVars false
namespace Go.Proofs.Ytgilfckaddklfaa
open Go.RowKit Go.ChangeShapes Go.WideShapes Go.ChangeAt Go.Deep
section
variable {H:Type} {enc:TypeId × Value→H} {P:Program} {w:World} {base:Nat} {spare:Nat→Bool} {held:Bool}
theorem EM {b o k:Nat}:(⟨b,o,none⟩:Addr).add k=⟨b,o+k,none⟩:=by
 unfold Addr.add; split
 ·subst_vars; rfl
 ·rfl
theorem OU {a:Addr} {v:Value} (h:w.cell? a=some v):a.block<w.heap.size:=by
 unfold World.cell? at h
 cases hb:w.heap[a.block]? with
 | none=>rw [hb] at h; cases h
 | some o=>exact (Array.getElem?_eq_some_iff.1 hb).1
end
section
variable {H:Type} {enc:TypeId × Value→H} {w:World} {base:Nat} {spare:Nat→Bool} {held:Bool}
end
end Go.Proofs.Ytgilfckaddklfaa
set_option maxRecDepth 100000
set_option linter.unusedSimpArgs false
set_option linter.unusedVariables false
set_option linter.unusedSectionVars false
namespace Go.Proofs.Ytgilfckaddklfaa
open Go.RowKit Go.ChangeShapes Go.WideShapes Go.ChangeAt Go.Deep
section
variable {H:Type} {enc:TypeId × Value→H} {P:Program} {w:World} {base:Nat} {spare:Nat→Bool} {held:Bool}
theorem NH {t e:TypeId} {fuel:Nat} {v:Value} {x:DataW H × List MemPlace} (sz:Nat) (hsz:P.cellsOf e=sz) (h0:0<sz) (ht:P.underlying t=some (.slice e)) (h:DataW.trod enc P w base spare held fuel t [v]=some x) :
  ∃ (a:Option Addr) (len cap:Nat) (f:Nat→Nat→Value),v=.slice a len cap∧len≤cap∧cap≤9223372036854775807∧SlA w 0 sz len f a ∧
   ∀ i,i<len→∃ n x',n<fuel∧DataW.trod enc P w base spare held n e ((zW sz).map (f i))=some x':=by
 rcases DataW.trod_slice ht h with ⟨hcs,_⟩ | ⟨a,len,cap,elems,rest,n,hf,hcs,hx,hb,hl,hm,hlen,hel,_,_⟩
 ·simp only [zV,and_true] at hcs
  exact ⟨none,0,0,fun _ _=>undef,hcs,zX _,by omega,.inl rfl,fun i hi=>absurd hi (by omega)⟩
 ·have hi:∀ i,i<len→∃ cs' x',w.cells? base (a.add (i*sz)) sz=some cs'∧DataW.trod enc P w base spare held n e cs'=some x':=by
   intro i hi
   have h1:=hel i hi
   rw [hsz,zM (by omega)] at h1
   obtain ⟨cs',h2,h3⟩:=Option.bind_eq_some_iff.1 h1
   exact ⟨cs',_,h2,h3⟩
  have hcell:∀ i j,i<len→j<sz→∃ v,w.cell? (a.add (i*sz+j))=some v:=by
   intro i j hil hj
   obtain ⟨cs',x',hc,_⟩:=hi i hil
   obtain ⟨_,hcl,hat⟩:=World.cells?_some hc
   have h1:=hat j hj
   rw [Go.Deep.add_add,zM (by omega)] at h1
   exact ⟨_,h1⟩
  simp only [zV,and_true] at hcs
  refine ⟨some a,len,cap,fun i j=>(w.cell? (a.add (i*sz+j))).getD undef,hcs,hl,hm,?_,?_⟩
  ·rcases zQ len with h | h
   ·exact .inl h
   ·obtain ⟨v,hv⟩:=hcell 0 0 h h0
    rw [Nat.zero_mul,Nat.zero_add] at hv
    have hsp:a.spot=none:=by simpa [Addr.add] using World.cell?_spot hv
    have hlt:=OU hv
    obtain ⟨b,off,spot⟩:=a
    simp only at hsp
    subst hsp
    refine .inr ⟨b,off,rfl,zL _,by simpa [Addr.add] using hlt,fun i j hil hj=>?_⟩
    obtain ⟨v',hv'⟩:=hcell i j hil hj
    rw [EM] at hv'
    show _=some ((w.cell? ((⟨b,off,none⟩:Addr).add (i*sz+j))).getD undef)
    rw [EM,Nat.add_assoc,hv']
    rfl
  ·intro i hil
   obtain ⟨cs',x',hc,ht'⟩:=hi i hil
   obtain ⟨_,hcl,hat⟩:=World.cells?_some hc
   refine ⟨n,x',by omega,?_⟩
   have hcs':(zW sz).map (fun j=>(w.cell? (a.add (i*sz+j))).getD undef)=cs':=by
    apply List.ext_getElem?
    intro j
    by_cases hj:j<sz
    ·rw [List.getElem?_map,List.getElem?_range hj]
     have h1:=hat j hj
     rw [Go.Deep.add_add] at h1
     rw [zM (by omega:j<cs'.length)] at h1 ⊢
     simp [h1]
    ·rw [List.getElem?_eq_none (by simp; omega),List.getElem?_eq_none (by omega)]
   rw [hcs']
   exact ht'
end
inductive Lvs (w:World):List D→List Value→Prop
 |nil:Lvs w [] []
 |cons {d:D} {v:Value} {ds:List D} {vs:List Value} (h:DAt w d v) (hs:Lvs w ds vs):Lvs w (d :: ds) (v :: vs)
theorem Lvs.len {w:World} {ds:List D} {vs:List Value} (h:Lvs w ds vs):ds.length=vs.length:=by
 induction h with
 | nil=>rfl
 | cons h hs ih=>simp [ih]
theorem Lvs.get {w:World} {ds:List D} {vs:List Value} (h:Lvs w ds vs):∀ j (h1:j<ds.length) (h2:j<vs.length),DAt w ds[j] vs[j]:=by
 induction h with
 | nil=>intro j h1; simp at h1
 | cons h hs ih =>
  intro j h1 h2
  cases j with
  | zero=>exact h
  | succ j=>exact ih j (by simpa using h1) (by simpa using h2)
theorem NI {α:Type} [Inhabited α] (dd:α→List D) {w:World} {m len cap:Nat} {f:Nat→Nat→Value} {a:Option Addr} (hl:len≤cap) (hm:cap≤9223372036854775807) (hS:SlA w 0 m len f a)
  (hel:∀ i,i<len→∃ X:α,Lvs w (dd X) ((zW m).map (f i))):∃ xs:List α,DAt w (.arr (xs.map dd)) (.slice a len cap):=by
 obtain ⟨g,hg⟩:∃ g:Nat→α,∀ i,i<len→Lvs w (dd (g i)) ((zW m).map (f i)) :=
  ⟨fun i=>if h:i<len then (hel i h).choose else default,fun i hi=>by simp only [hi,dif_pos]; exact (hel i hi).choose_spec⟩
 refine ⟨(zW len).map g,?_⟩
 have hlen:(((zW len).map g).map dd).length=len:=by simp
 have:=DAt.Pf (w:=w) (es:=((zW len).map g).map dd) (sz:=m) (cap:=cap) (a:=a) (f:=f) (by rw [hlen]; exact hl) hm (by rw [hlen]; exact hS) (fun i hi=>by
  rw [hlen] at hi
  have:=(hg i hi).len
  simpa using this) (fun i j hi hj=>by
  rw [hlen] at hi
  have h1:=hg i hi
  have h2:=h1.len
  simp only [zY,List.length_range] at h2
  simp only [List.getElem_map,List.getElem_range] at hj ⊢
  have:=h1.get j hj (by simp; omega)
  simpa using this)
 rw [hlen] at this
 exact this
instance:Inhabited Tm:=⟨Tm.zero⟩
instance:Inhabited Fm:=⟨Fm.zero⟩
section
variable {H:Type} {enc:TypeId × Value→H} {w:World} {base:Nat} {spare:Nat→Bool} {held:Bool}
end
end Go.Proofs.Ytgilfckaddklfaa
set_option maxRecDepth 100000
set_option linter.unusedSimpArgs false
set_option linter.unusedVariables false
set_option linter.unusedSectionVars false
namespace Go.Proofs.Ytgilfckaddklfaa
open Go.RowKit
theorem DRep.lt_ {own:Bool} {w:World} {S:Nat→Prop} {d:D} {v:Value} (h:DRep own w S d v):DRep own w (fun b=>S b∧b<w.heap.size) d v:=by
 induction h with
 | int S n=>exact .int _ n
 | byte S n=>exact .byte _ n
 | bool S b=>exact .bool _ b
 | str S s h=>exact .str _ s h
 | arr S sz es a cap f Sub h1 h2 h3 h4 h5 h6 h7 ih =>
  refine .arr _ sz es a cap f (fun i j x=>Sub i j x∧x<w.heap.size) h1 h2 ?_ h4 (fun i j x h=>⟨h5 i j x h.1,h.2⟩) (fun ho i j i' j' x h h'=>h6 ho i j i' j' x h.1 h'.1) ih
  rcases h3 with h3 | ⟨b,off,ha,hS,hl,hc,ho⟩
  ·exact .inl h3
  ·exact .inr ⟨b,off,ha,⟨hS,hl⟩,hl,hc,fun h=>⟨fun i j hx=>(ho h).1 i j hx.1,(ho h).2⟩⟩
theorem DAt.rep {w:World} {es:List (List D)} {v:Value} (h:DAt w (.arr es) v):RepV w (fun b=>b<w.heap.size) (fun _=>none) (.arr es) v:=by
 simp only [RepV]
 exact (DRep.lt_ h).up fun b hb=>hb.2
theorem Fun.yes {f:FuncId} {args:List SV} (h:Fun Try.prog f args [] (.bool true) []) {w:World} {vs:List Value} (hgl:GL w fun b=>b<w.heap.size) (hvs:RepVs w (fun b=>b<w.heap.size) (fun _=>none) args vs):Calls Try.prog f vs.toArray w (Ret w (.bool true)):=by
 have nl:∀ g,¬ (Ab [] g).live:=fun g hg=>by simp [Ab,Ob.live] at hg
 refine (h w (fun b=>b<w.heap.size) (fun _=>none) (fun _ _=>False) vs ⟨fun b hb=>hb,fun g hg=>absurd hg (nl g),fun g b hg=>absurd hg (nl g),fun g b hg=>absurd hg (nl g),fun g g' b hg=>absurd hg (nl g),fun g _=>rfl,hgl⟩ hvs).mono ?_
 rintro e w' ⟨v,I',V',B',rfl,hr,hp⟩
 simp only [RepV] at hr
 subst hr
 exact ⟨rfl,hp.fr.os,hp.fr.tape.1,hp.fr.output,hp.fr.size,fun b hb=>hp.fr.block b hb fun ⟨g,hg,_⟩=>absurd hg (nl g)⟩
theorem NJ {w:World} {I:Nat→Prop} {V:Nat→Option Value}:RepVs w I V [] []:=by simp [RepVs]
theorem M6 {w:World} {I:Nat→Prop} {V:Nat→Option Value} {x:SV} {xs:List SV} {v:Value} {vs:List Value} (h:RepV w I V x v) (hs:RepVs w I V xs vs):RepVs w I V (x :: xs) (v :: vs):=by
 simp only [RepVs]; exact ⟨v,vs,rfl,h,hs⟩
section
variable {H:Type} {enc:TypeId × Value→H} {w:World} {base:Nat} {spare:Nat→Bool} {held:Bool}
end
end Go.Proofs.Ytgilfckaddklfaa
set_option maxRecDepth 100000
set_option linter.unusedSimpArgs false
set_option linter.unusedVariables false
set_option linter.unusedSectionVars false
namespace Go.Proofs.Ytgilfckaddklfaa
open Go.RowKit Go.ChangeShapes Go.WideShapes Go.ChangeAt Go.Deep
section
variable {H:Type} {enc:TypeId × Value→H} {w:World} {base:Nat} {spare:Nat→Bool} {held:Bool}
abbrev ByteZ:={ b:Int // 0≤b∧b≤255 }
instance:Inhabited ByteZ:=⟨⟨0,by omega⟩⟩
theorem M7 {fuel:Nat} {v:Value} {x:DataW H × List MemPlace} (h:DataW.trod enc Try.prog w base spare held fuel 22 [v]=some x):∃ l:List Int,Bytes l∧DAt w (.arr (l.map by_)) v:=by
 obtain ⟨a,len,cap,f,rfl,hl,hm,hS,hr⟩:=NH (P:=Try.prog) 1 (by kernel_rfl) (by omega) Try.underlying22 h
 obtain ⟨xs,hx⟩:=NI (fun s:ByteZ=>[D.byte s.1]) hl hm hS fun i hi=>by
  obtain ⟨n,x',hn,h1⟩:=hr i hi
  obtain ⟨z,q,_,hw⟩:=DataW.trod_int Try.underlying5 h1
  have h2:(decide (IntKind.u8.min≤z)&&decide (z≤IntKind.u8.max))=true:=hw
  rw [Bool.and_eq_true,decide_eq_true_eq,decide_eq_true_eq] at h2
  rw [q]
  exact ⟨⟨z,h2.1,h2.2⟩,.cons (.byte _ z) .nil⟩
 refine ⟨xs.map (·.1),fun b hb=>?_,?_⟩
 ·obtain ⟨s,_,rfl⟩:=List.mem_map.1 hb
  exact s.2
 ·rw [List.map_map]
  exact hx
end
end Go.Proofs.Ytgilfckaddklfaa
