/-
  Texts of this claim, one behind the other, each built on those ahead of it. No condition.
-/
import Derived.Test.YtkjpmfmjebkkiaaK16b
set_option maxHeartbeats 16000000
open Bool renaming and_eq_true → zA, false_and → zB, true_and → zD, and_self → zG, and_true → zK, or_eq_true → zS, and_false → zZ, or_true → yO, or_false → yV, false_or → yW
open List renaming map_cons → zC, drop_eq_getElem_cons → zF, drop_eq_nil_of_le → zJ, length_cons → zL, drop_zero → zM, append_assoc → zN, eq_nil_of_length_eq_zero → zO, getElem_mem → zQ, length_append → zR, length_nil → zV, mem_cons → zW, eq_nil_or_concat → zX, all_eq_true → zY, map_append → z7, length_map → z8, map_nil → yB, cons_append → yC, take_succ_cons → yD, map_map → yE, length_take → yF, getElem_of_mem → yH, take_zero → yI, length → yJ, getElem?_eq_getElem → yK, any_cons → yL, length_drop → yN, append_nil → yQ, all_cons → yU
open Option.some renaming injEq → zE, inj → zP
open Prod.mk renaming injEq → zH, inj → yG
open Nat renaming lt_or_ge → zI, zero_le → zU, le_refl → z6
open ByteArray renaming size_append → zT
open Int renaming toNat_natCast → yA, lt_or_le → yP, natCast_add → yS, toNat_zero → yT
open Option renaming getD_some → yM
open List.cons renaming injEq → yR
set_option maxRecDepth 100000
set_option linter.unusedSimpArgs false
set_option linter.unusedVariables false
set_option linter.unusedSectionVars false
namespace Go.Proofs.Ytkjpmfmjebkkiaa
open Go.RowKit
def Qs:List (Nat × FM)→Nat→FM
 | [],_=>⟨[],.asis,none,false⟩
 | (f,m) :: r,g=>bif f == g then m else Qs r g
theorem QK {l:List (Nat × FM)} {f:Nat} {g:List SV→List Ob→Option (SV × List Ob)} (h:(Qs l f).ext=some g):∃ m,(f,m)∈l∧m.ext=some g:=by
 induction l with
 | nil=>cases h
 | cons x r ih =>
  obtain ⟨f',m⟩:=x
  simp only [Qs] at h
  cases e:f' == f with
  | true =>
   rw [e] at h
   obtain rfl:f'=f:=by simpa using e
   exact ⟨m,by simp,h⟩
  | false =>
   rw [e] at h
   obtain ⟨m',h1,h2⟩:=ih h
   exact ⟨m',by simp [h1],h2⟩
noncomputable def ME:List SV→Option SV
 | [.int .i64 k]=>bif dec (1≤k)&&dec (k≤1099511627776) then some (.str (DT k)) else none
 | _=>none
theorem P3 {xs:List SV} {r:SV} (h:ME xs=some r):Fun Try.prog 43 xs [] r []:=by
 unfold ME at h
 split at h
 ·rename_i k
  obtain ⟨h1,h2⟩:=Aw h
  rw [zA,At,At] at h1
  obtain rfl:=zP h2
  obtain ⟨n,rfl⟩:∃ n:Nat,k=n:=⟨k.toNat,by omega⟩
  refine Fun.N0 (rv:=.string (DT n)) (fun w I V=>by simp only [RepV,true_and]; exact Py (by omega) (by omega)) fun w I V vs h=>?_
  obtain ⟨v,r,rfl,h3,h⟩:=Ef h
  obtain rfl:=MB h
  obtain rfl:=TC h3
  exact N1 n w (by omega) (by omega)
 ·cases h
def Se:List SV→Option SV
 | [.str s]=>some (.bool (CU s))
 | _=>none
theorem QL {xs:List SV} {r:SV} (h:Se xs=some r):Fun Try.prog 95 xs [] r []:=by
 unfold Se at h
 split at h
 ·rename_i s
  obtain rfl:=zP h
  refine Fun.of_same (rv:=.bool (CU s)) (fun w I V=>by simp only [RepV]) fun w I V vs h=>?_
  obtain ⟨v,r,rfl,h3,h⟩:=Ef h
  obtain rfl:=MB h
  obtain ⟨rfl,h4⟩:=IU h3
  exact Lm s w h4
 ·cases h
def Sf:List SV→Option SV
 | [.str s]=>some (.bool (CU s))
 | _=>none
theorem QM {xs:List SV} {r:SV} (h:Sf xs=some r):Fun Try.prog 72 xs [] r []:=by
 unfold Sf at h
 split at h
 ·rename_i s
  obtain rfl:=zP h
  refine Fun.of_same (rv:=.bool (CU s)) (fun w I V=>by simp only [RepV]) fun w I V vs h=>?_
  obtain ⟨v,r,rfl,h3,h⟩:=Ef h
  obtain rfl:=MB h
  obtain ⟨rfl,h4⟩:=IU h3
  exact QJ s w h4
 ·cases h
def Sg:List SV→Option SV
 | [.str s]=>some (.bool (D4 s))
 | _=>none
theorem QN {xs:List SV} {r:SV} (h:Sg xs=some r):Fun Try.prog 123 xs [] r []:=by
 unfold Sg at h
 split at h
 ·rename_i s
  obtain rfl:=zP h
  refine Fun.N0 (rv:=.bool (D4 s)) (fun w I V=>by simp only [RepV]) fun w I V vs h=>?_
  obtain ⟨v,r,rfl,h3,h⟩:=Ef h
  obtain rfl:=MB h
  obtain ⟨rfl,h4⟩:=IU h3
  exact N4 s w h4
 ·cases h
def Sh:List SV→Option SV
 | [.str s]=>some (.bool (D4 s))
 | _=>none
theorem QO {xs:List SV} {r:SV} (h:Sh xs=some r):Fun Try.prog 104 xs [] r []:=by
 unfold Sh at h
 split at h
 ·rename_i s
  obtain rfl:=zP h
  refine Fun.of_same (rv:=.bool (D4 s)) (fun w I V=>by simp only [RepV]) fun w I V vs h=>?_
  obtain ⟨v,r,rfl,h3,h⟩:=Ef h
  obtain rfl:=MB h
  obtain ⟨rfl,h4⟩:=IU h3
  exact N5 s w h4
 ·cases h
noncomputable def modes:FuncId→FM:=Qs [(43,⟨[],.asis,some (HK ME),false⟩),(95,⟨[],.asis,some (HK Se),false⟩),(72,⟨[],.asis,some (HK Sf),false⟩),(123,⟨[],.asis,some (HK Sg),false⟩),(104,⟨[],.asis,some (HK Sh),false⟩),(100,⟨[],.asis,some (HK MD),false⟩),(67,⟨[true],.asis,none,true⟩),(28,⟨[true],.asis,none,false⟩),(29,⟨[true],.asis,none,true⟩),(8,⟨[true],.asis,none,false⟩),(92,⟨[],.own [none,some (24,2)],none,false⟩),(59,⟨[],.own [none,some (24,2)],none,false⟩),(85,⟨[],.frz,none,false⟩),(56,⟨[false,false,true],.own [none,none,some (24,2),none,some (27,5)],none,false⟩),(57,⟨[true],.own [none,none,some (24,2),none,some (27,5)],none,false⟩),(60,⟨[true],.own [none,none,some (24,2),none,some (27,5)],none,false⟩),(91,⟨[false,true,true],.own [none,none,some (24,2),none,some (27,5)],none,false⟩),(65,⟨[],.frz,none,false⟩),(19,⟨[],.frz,none,false⟩),(46,⟨[],.frz,none,false⟩),(47,⟨[],.frz,none,false⟩),(48,⟨[],.frz,none,false⟩),(49,⟨[],.frz,none,false⟩),(5,⟨[],.frz,none,false⟩),(22,⟨[],.own [none,none,some (24,2),none,some (27,5)],none,false⟩),(58,⟨[],.own [none,none,some (24,2),none,some (27,5)],none,false⟩),(6,⟨[],.own [none,none,some (24,2),none,some (27,5),none],none,false⟩)]
theorem noExt {l:List (Nat × FM)} (h:(l.all fun p=>p.2.ext.isNone)=true) {f:Nat} {m:FM} {g:List SV→List Ob→Option (SV × List Ob)} (h1:(f,m)∈l) (h2:m.ext=some g):False:=by
 have h3:=zY.1 h _ h1
 rw [h2] at h3
 cases h3
theorem P4:Kz Try.prog modes:=by
 intro f g xs ob r ob' hg hx
 obtain ⟨m,h1,h2⟩:=QK hg
 rcases zW.1 h1 with h1 | h1
 ·obtain ⟨rfl,rfl⟩:=yG h1
  obtain rfl:=zP h2
  exact ES P3 hx
 rcases zW.1 h1 with h1 | h1
 ·obtain ⟨rfl,rfl⟩:=yG h1
  obtain rfl:=zP h2
  exact ES QL hx
 rcases zW.1 h1 with h1 | h1
 ·obtain ⟨rfl,rfl⟩:=yG h1
  obtain rfl:=zP h2
  exact ES QM hx
 rcases zW.1 h1 with h1 | h1
 ·obtain ⟨rfl,rfl⟩:=yG h1
  obtain rfl:=zP h2
  exact ES QN hx
 rcases zW.1 h1 with h1 | h1
 ·obtain ⟨rfl,rfl⟩:=yG h1
  obtain rfl:=zP h2
  exact ES QO hx
 rcases zW.1 h1 with h1 | h1
 ·obtain ⟨rfl,rfl⟩:=yG h1
  obtain rfl:=zP h2
  exact ES P2 hx
 exact (noExt rfl h1 h2).elim
noncomputable def E:FEnv:=ev Try.prog modes
noncomputable def calls:CallF:=C7 modes E
theorem UF {f:FuncId} {xs:List SV} {ob:List Ob} {r:SV} {ob':List Ob} (h:E f xs ob=some (r,ob')):Fun Try.prog f xs ob r ob':=TB UA P4 f xs ob r ob' h
noncomputable def run (n0:Nat):SC→St→Option (X × St):=fr Try.prog calls (Iy n0)
def go (n0:Nat) (sc:SC) (st:St) (K:X→St→Prop):Prop:=∃ x st',run n0 sc st=some (x,st')∧K x st'
def TF (n0:Nat) (b:SC) (K:X→St→Prop):X→St→Prop
 | .normal,st=>go n0 b st K
 | .exit i,st=>K (.exit i) st
 | .ret,st=>K .ret st
def blk (id:Nat) (K:X→St→Prop):X→St→Prop
 | .normal,st=>K .normal st
 | .exit i,st=>if i=id then K .normal st else K (.exit i) st
 | .ret,st=>K .ret st
def Si (r:Option St) (k:X→St→Prop):Prop :=
 match r with
 | some st=>k .normal st
 | none=>False
def Sj (anc:List (List Nat)) (r:Option (List Ent × St)) (k:X→St→Prop):Prop :=
 match r with
 | some (es,st)=>obB anc [] (Io es) 0=true∧k .normal st
 | none=>False
def IV (v:SV) (a b:Unit→Prop):Prop :=
 match v with
 | .bool true=>a ()
 | .bool false=>b ()
 | _=>False
noncomputable def P5 (ops:List SOper) (st:St):Option St:=KV Try.prog calls ops st
noncomputable def P6 (ops:List SOper) (acc:List Ent) (st:St):Option (List Ent × St):=Gg Try.prog calls ops acc st
section
variable {n0:Nat} {st:St} {K:X→St→Prop}
theorem go_skip:go n0 .skip st K=K .normal st:=by
 refine propext ⟨fun ⟨x,st',h,k⟩=>?_,fun k=>⟨_,_,rfl,k⟩⟩
 obtain ⟨rfl,rfl⟩:X.normal=x∧st=st':=by simpa [run,fr] using h
 exact k
theorem TG {i:Nat}:go n0 (.exit i) st K=K (.exit i) st:=by
 refine propext ⟨fun ⟨x,st',h,k⟩=>?_,fun k=>⟨_,_,rfl,k⟩⟩
 obtain ⟨rfl,rfl⟩:X.exit i=x∧st=st':=by simpa [run,fr] using h
 exact k
theorem go_ret:go n0 .ret st K=K .ret st:=by
 refine propext ⟨fun ⟨x,st',h,k⟩=>?_,fun k=>⟨_,_,rfl,k⟩⟩
 obtain ⟨rfl,rfl⟩:X.ret=x∧st=st':=by simpa [run,fr] using h
 exact k
theorem UG {ops:List SOper}:go n0 (.reg ops) st K=Si (P5 ops st) K:=by
 unfold Si P5
 refine propext ⟨fun ⟨x,st',h,k⟩=>?_,fun k=>?_⟩
 ·simp only [run,fr] at h
  split at h
  ·rename_i s hs
   simp only [zE,zH] at h
   obtain ⟨rfl,rfl⟩:=h
   first | exact k | (simp only [hs]; exact k)
  ·cases h
 ·split at k
  ·rename_i s hs
   exact ⟨.normal,s,by simp only [run,fr,hs],k⟩
  ·exact k.elim
theorem TH {anc:List (List Nat)} {ops:List SOper}:go n0 (.dreg anc ops) st K=Sj anc (P6 ops [] st) K:=by
 unfold Sj P6
 refine propext ⟨fun ⟨x,st',h,k⟩=>?_,fun k=>?_⟩
 ·simp only [run,fr] at h
  split at h
  ·rename_i es s hs
   obtain ⟨h1,h2⟩:=Aw h
   simp only [zE,zH] at h2
   obtain ⟨rfl,rfl⟩:=h2
   first | exact ⟨h1,k⟩ | (simp only [hs]; exact ⟨h1,k⟩)
  ·cases h
 ·split at k
  ·rename_i es s hs
   exact ⟨.normal,s,by simp only [run,fr,hs,k.1,cond_true],k.2⟩
  ·exact k.elim
theorem UH {a b:SC}:go n0 (.seq a b) st K=go n0 a st (TF n0 b K):=by
 refine propext ⟨fun ⟨x,st',h,k⟩=>?_,fun ⟨x,st',h,k⟩=>?_⟩
 ·simp only [run,fr,C1] at h
  split at h
  ·rename_i s hs
   exact ⟨.normal,s,hs,x,st',h,k⟩
  ·rename_i i s hs
   simp only [zE,zH] at h
   obtain ⟨rfl,rfl⟩:=h
   exact ⟨_,_,hs,k⟩
  ·rename_i s hs
   simp only [zE,zH] at h
   obtain ⟨rfl,rfl⟩:=h
   exact ⟨_,_,hs,k⟩
  ·cases h
 ·simp only [run] at h
  cases x with
  | normal =>
   obtain ⟨x2,st2,h2,k2⟩:=k
   exact ⟨x2,st2,by simp only [run,fr,C1,h]; exact h2,k2⟩
  | exit i=>exact ⟨_,st',by simp only [run,fr,C1,h],k⟩
  | ret=>exact ⟨_,st',by simp only [run,fr,C1,h],k⟩
theorem Sk {id:Nat} {b:SC}:go n0 (.block id b) st K=go n0 b st (blk id K):=by
 refine propext ⟨fun ⟨x,st',h,k⟩=>?_,fun ⟨x,st',h,k⟩=>?_⟩
 ·simp only [run,fr,G4] at h
  split at h
  ·rename_i s hs
   simp only [zE,zH] at h
   obtain ⟨rfl,rfl⟩:=h
   exact ⟨.normal,s,hs,k⟩
  ·rename_i i s hs
   refine ⟨.exit i,s,hs,?_⟩
   simp only [blk]
   by_cases hi:i=id
   ·simp only [if_pos hi,zE,zH] at h ⊢
    obtain ⟨rfl,rfl⟩:=h
    exact k
   ·simp only [if_neg hi,zE,zH] at h ⊢
    obtain ⟨rfl,rfl⟩:=h
    exact k
  ·rename_i s hs
   simp only [zE,zH] at h
   obtain ⟨rfl,rfl⟩:=h
   exact ⟨_,s,hs,k⟩
  ·cases h
 ·simp only [run] at h
  cases x with
  | normal=>exact ⟨_,st',by simp only [run,fr,G4,h],k⟩
  | exit i =>
   simp only [blk] at k
   by_cases hi:i=id
   ·simp only [if_pos hi] at k
    exact ⟨.normal,st',by simp only [run,fr,G4,h,if_pos hi],k⟩
   ·simp only [if_neg hi] at k
    exact ⟨.exit i,st',by simp only [run,fr,G4,h,if_neg hi],k⟩
  | ret=>exact ⟨_,st',by simp only [run,fr,G4,h],k⟩
theorem Ab {q:SX} {a b:SC}:go n0 (.cond q a b) st K=IV (A5 (gets st.sl) q) (fun _=>go n0 a st K) (fun _=>go n0 b st K):=by
 unfold IV
 refine propext ⟨fun ⟨x,st',h,k⟩=>?_,fun k=>?_⟩
 ·simp only [run,fr] at h
  split at h
  ·rename_i t ht
   simp only [ht]
   cases t with
   | true=>exact ⟨x,st',h,k⟩
   | false=>exact ⟨x,st',h,k⟩
  ·cases h
 ·split at k
  ·rename_i ht
   obtain ⟨x,st',h,k⟩:=k
   exact ⟨x,st',by simp only [run,fr,ht,cond_true]; exact h,k⟩
  ·rename_i ht
   obtain ⟨x,st',h,k⟩:=k
   exact ⟨x,st',by simp only [run,fr,ht,cond_false]; exact h,k⟩
  ·exact k.elim
theorem TI {a b:Unit→Prop}:IV (.bool true) a b=a ():=rfl
theorem TJ {a b:Unit→Prop}:IV (.bool false) a b=b ():=rfl
theorem TK {t:Bool} {a b:Unit→Prop}:IV (.bool (!t)) a b=IV (.bool t) b a:=by cases t <;> rfl
theorem AH {q:SX} {a b:SC} (h:A5 (gets st.sl) q=.bool true) (k:go n0 a st K):go n0 (.cond q a b) st K:=by rw [Ab,h]; exact k
theorem AI {q:SX} {a b:SC} (h:A5 (gets st.sl) q=.bool false) (k:go n0 b st K):go n0 (.cond q a b) st K:=by rw [Ab,h]; exact k
theorem O6 {t:Bool} {a b:Unit→Prop} (h1:t=true→a ()) (h2:t=false→b ()):IV (.bool t) a b:=by
 cases t with
 | true=>exact h1 rfl
 | false=>exact h2 rfl
theorem UI {b:SC}:TF n0 b K .normal st=go n0 b st K:=rfl
theorem UJ {b:SC} {i:Nat}:TF n0 b K (.exit i) st=K (.exit i) st:=rfl
theorem UK {b:SC}:TF n0 b K .ret st=K .ret st:=rfl
theorem V8 {id:Nat}:blk id K .normal st=K .normal st:=rfl
theorem V9 {id i:Nat}:blk id K (.exit i) st=if i=id then K .normal st else K (.exit i) st:=rfl
theorem VA {id:Nat}:blk id K .ret st=K .ret st:=rfl
theorem TL:Si (some st) K=K .normal st:=rfl
def quiet:List Ent→Bool
 | []=>true
 | ⟨_,_,[],_⟩ :: r=>quiet r
 | ⟨_,_,_ :: _,_⟩ :: _=>false
theorem Lo {anc:List (List Nat)} {rd:List Nat} {j:Nat}:∀ {l:List Ent} {i:Nat},quiet l=true→OZ anc rd [] j (Io l) i=true
 | [],i,_=>rfl
 | ⟨_,_,[],rdi⟩ :: r,i,h=>by
  have:=Lo (anc:=anc) (rd:=rd) (j:=j) (l:=r) (i:=i+1) h
  simp only [Io,zC,yB] at this ⊢
  simp only [OZ,this,zK]
  have e1:meets [] (rd++[])=false:=rfl
  have e2:meets rdi []=false:=by cases rdi <;> simp [meets]
  rw [e1,e2]; rfl
theorem QP {l l':List Ent} (h:quiet l=true) (h':quiet l'=true):quiet (l++l')=true:=by
 induction l with
 | nil=>exact h'
 | cons x r ih =>
  obtain ⟨a,b,c,d⟩:=x
  cases c with
  | nil=>exact ih h
  | cons _ _=>cases h
theorem MG {anc:List (List Nat)}:∀ {l pre:List Ent} {j:Nat},quiet pre=true→quiet l=true→obB anc (Io pre) (Io l) j=true
 | [],pre,j,_,_=>rfl
 | ⟨a,b,[],rd⟩ :: r,pre,j,hp,h=>by
  have e:=MG (anc:=anc) (l:=r) (pre:=pre++[⟨a,b,[],rd⟩]) (j:=j+1) (QP hp rfl) h
  have e2:=Lo (anc:=anc) (rd:=rd) (j:=j) (i:=0) hp
  simp only [Io,z7,zC,yB] at e e2 ⊢
  simp only [obB,e2,e,zG]
theorem TM {anc:List (List Nat)} {es:List Ent}:Sj anc (some (es,st)) K=match quiet es with
  | true=>K .normal st
  | false=>obB anc [] (Io es) 0=true∧K .normal st:=by
 show (obB anc [] (Io es) 0=true∧K .normal st)=_
 cases h:quiet es with
 | true=>exact propext ⟨fun h=>h.2,fun h'=>⟨MG (pre:=[]) rfl h,h'⟩⟩
 | false=>rfl
noncomputable def UL (r:List SOper) (e:Option (Ent × St)):Option St :=
 match e with
 | some (_,st)=>P5 r st
 | none=>none
noncomputable def UM (r:List SOper) (acc:List Ent) (e:Option (Ent × St)):Option (List Ent × St) :=
 match e with
 | some (x,st)=>P6 r (acc++[x]) st
 | none=>none
noncomputable def opF (so:SOp) (sl:List SV) (ob:List Ob):Option R3:=fOp Try.prog calls so sl ob
theorem Sl:P5 [] st=some st:=rfl
theorem QQ {d:Option Tmp} {so:SOp} {r:List SOper} {sl:List SV} {ob:List Ob}:P5 (⟨d,none,so⟩ :: r) ⟨sl,ob⟩=UL r (HJ d ⟨sl,ob⟩ (opF so sl ob)):=rfl
noncomputable def gdF (d:Option Tmp) (so:SOp) (want:Bool) (sl:List SV) (ob:List Ob) (v:SV):Option (Ent × St) :=
 match v with
 | .bool b=>bif Pl b want then HJ d ⟨sl,ob⟩ (opF so sl ob) else some (⟨false,.tup [],[],[]⟩,⟨Fa sl d (.tup []),ob⟩)
 | .tup []=>some (⟨false,.tup [],[],[]⟩,⟨Fa sl d (.tup []),ob⟩)
 | _=>none
theorem TN {d:Option Tmp} {k:Nat} {want:Bool} {so:SOp} {r:List SOper} {sl:List SV} {ob:List Ob}:P5 (⟨d,some (k,want),so⟩ :: r) ⟨sl,ob⟩=UL r (gdF d so want sl ob (gets sl k)):=rfl
theorem Sm {acc:List Ent}:P6 [] acc st=some (acc,st):=rfl
theorem QR {d:Option Tmp} {so:SOp} {r:List SOper} {acc:List Ent} {sl:List SV} {ob:List Ob}:P6 (⟨d,none,so⟩ :: r) acc ⟨sl,ob⟩=UM r acc (HJ d ⟨sl,ob⟩ (opF so sl ob)):=rfl
theorem TO {d:Option Tmp} {k:Nat} {want:Bool} {so:SOp} {r:List SOper} {acc:List Ent} {sl:List SV} {ob:List Ob}:P6 (⟨d,some (k,want),so⟩ :: r) acc ⟨sl,ob⟩=UM r acc (gdF d so want sl ob (gets sl k)):=rfl
theorem UN {r:List SOper} {e:Ent}:UL r (some (e,st))=P5 r st:=rfl
theorem UO {r:List SOper} {acc:List Ent} {e:Ent}:UM r acc (some (e,st))=P6 r (acc++[e]) st:=rfl
theorem VB {d:Option Tmp} {so:SOp} {sl:List SV} {ob:List Ob}:gdF d so true sl ob (.bool true)=HJ d ⟨sl,ob⟩ (opF so sl ob):=rfl
theorem UP {d:Option Tmp} {so:SOp} {sl:List SV} {ob:List Ob}:gdF d so false sl ob (.bool false)=HJ d ⟨sl,ob⟩ (opF so sl ob):=rfl
theorem UQ {d:Option Tmp} {so:SOp} {sl:List SV} {ob:List Ob}:gdF d so true sl ob (.bool false)=some (⟨false,.tup [],[],[]⟩,⟨Fa sl d (.tup []),ob⟩):=rfl
theorem UR {d:Option Tmp} {so:SOp} {sl:List SV} {ob:List Ob}:gdF d so false sl ob (.bool true)=some (⟨false,.tup [],[],[]⟩,⟨Fa sl d (.tup []),ob⟩):=rfl
theorem VC {d:Option Tmp} {so:SOp} {want:Bool} {sl:List SV} {ob:List Ob}:gdF d so want sl ob (.tup [])=some (⟨false,.tup [],[],[]⟩,⟨Fa sl d (.tup []),ob⟩):=rfl
theorem US {d:Option Tmp} {x:SV} {rd:List Nat}:HJ d st (some (x,[],rd))=some (⟨true,x,[],rd⟩,⟨Fa st.sl d x,st.ob⟩):=rfl
theorem UT {d:Option Tmp} {x:SV} {q:Nat × Ob} {u:List (Nat × Ob)} {rd:List Nat}:HJ d st (some (x,q :: u,rd))=bif Q9 (CW st.ob (q :: u)).length (q :: u) then some (⟨true,x,q :: u,rd⟩,⟨Fa st.sl d x,CW st.ob (q :: u)⟩) else none:=rfl
def O7 (ob:List Ob) (xs:List SV) (sel:List Nat) (r:Option (SV × List Ob)) (n:Nat):Option R3 :=
 match r with
 | some (r,fob')=>bif decide (n≤fob'.length) then some (F2 sel (Bu sel xs) ob.length r fob') else none
 | none=>none
def UU (hd:List Bool) (f:FuncId) (xs:List SV) (ob:List Ob) (sel:List Nat) (e:List SV→List Ob→Option (SV × List Ob)) (b:Option (List Ob)):Option R3 :=
 match b with
 | some fob=>bif nodupB sel&&Iv ob.length sel&&G0 fob.length fob then O7 ob xs sel (e (F1 hd (Au ob) sel xs) fob) fob.length else none
 | none=>none
def Sn (hd:List Bool) (f:FuncId) (xs:List SV) (ob:List Ob) (sel:List Nat) (e:List SV→List Ob→Option (SV × List Ob)):Option R3:=UU hd f xs ob sel e (EH sel ob sel)
theorem So {f:FuncId} {xs:List SV} {ob:List Ob}:calls f xs ob=Gl (modes f).res (Sn (modes f).hand f xs ob (reach ob 64 (Gk (modes f).hand xs) []) (E f)):=rfl
theorem UV {r:Option R3}:Gl .asis r=r:=rfl
theorem UW {r:Option R3}:Gl .frz r=r:=rfl
theorem UX {l:List (Option (Nat × Nat))} {r:Option R3}:Gl (.own l) r=r:=rfl
theorem UY {l:List (Option (Nat × Nat))} {r:Option R3}:Gl (.half l) r=r:=rfl
theorem UZ {l:List (Option (Nat × Nat))} {r:Option R3}:Gl (.tr l) r=r:=rfl
theorem Va {l:List Nat} {r:Option R3}:Gl (.frl l) r=r:=rfl
theorem Vb {r:R3}:Gl .late (some r)=Or r:=rfl
theorem I1:∀ u:List (Nat × Ob),Dh [] u=u
 | []=>rfl
 | (g,o) :: u=>by rw [Dh,I1 u]; rfl
theorem Vd {m:RM} {b:Bool} {u:List (Nat × Ob)} {rd:List Nat}:Gl m (some (.bool b,u,rd))=some (.bool b,u,rd):=by
 cases m <;> first | rfl | (show some (SV.bool b,Dh [] u,rd)=_; rw [I1])
theorem Ve {m:RM} {k:IntKind} {n:Int} {u:List (Nat × Ob)} {rd:List Nat}:Gl m (some (.int k n,u,rd))=some (.int k n,u,rd):=by
 cases m <;> first | rfl | (show some (SV.int k n,Dh [] u,rd)=_; rw [I1])
theorem QS {hd:List Bool} {f:FuncId} {xs:List SV} {ob:List Ob} {e:List SV→List Ob→Option (SV × List Ob)}:Sn hd f xs ob [] e=O7 ob xs [] (e (F1 hd (Au ob) [] xs) []) 0:=rfl
theorem P7 {hd:List Bool} {f:FuncId} {xs:List SV} {ob:List Ob} {g:Nat} {r:List Nat} {e:List SV→List Ob→Option (SV × List Ob)}:Sn hd f xs ob (g :: r) e=UU hd f xs ob (g :: r) e (EH (g :: r) ob (g :: r)):=rfl
theorem TP {ob:List Ob} {xs:List SV} {r:SV} {fob':List Ob}:O7 ob xs [] (some (r,fob')) 0=some (F2 [] (Bu [] xs) ob.length r fob'):=rfl
theorem TQ {ob:List Ob} {xs:List SV} {sel:List Nat} {r:SV} {fob':List Ob} {n:Nat}:O7 ob xs sel (some (r,fob')) n=bif decide (n≤fob'.length) then some (F2 sel (Bu sel xs) ob.length r fob') else none:=rfl
theorem Vf {hd:List Bool} {f:FuncId} {xs:List SV} {ob:List Ob} {sel:List Nat} {fob:List Ob} {e:List SV→List Ob→Option (SV × List Ob)}:UU hd f xs ob sel e (some fob)=bif nodupB sel&&Iv ob.length sel&&G0 fob.length fob then O7 ob xs sel (e (F1 hd (Au ob) sel xs) fob) fob.length else none:=rfl
theorem QT {p:Nat} {r:SV}:F2 [] [] p r []=(r.ren (sgp [] p),[],[]):=rfl
def N6 {α:Type} (n0:Nat) (keep:List Nat) (H:α→St) (R:α→Prop) (μ:α→Nat) (a:α) (K:X→St→Prop):X→St→Prop
 | .normal,st'=>∃ y,R y∧μ y < μ a∧canon n0 keep st'=H y
 | .exit i,st'=>K (.exit i) st'
 | .ret,st'=>K .ret st'
theorem Sp {α:Type} {keep:List Nat} {H:α→St} {R:α→Prop} {μ:α→Nat} {a:α} {st':St}:N6 n0 keep H R μ a K .normal st'=∃ y,R y∧μ y < μ a∧canon n0 keep st'=H y:=rfl
theorem Sq {α:Type} {keep:List Nat} {H:α→St} {R:α→Prop} {μ:α→Nat} {a:α} {i:Nat} {st':St}:N6 n0 keep H R μ a K (.exit i) st'=K (.exit i) st':=rfl
theorem Sr {α:Type} {keep:List Nat} {H:α→St} {R:α→Prop} {μ:α→Nat} {a:α} {st':St}:N6 n0 keep H R μ a K .ret st'=K .ret st':=rfl
theorem go_loop {α:Type} {keep:List Nat} {b:SC} (H:α→St) (R:α→Prop) (μ:α→Nat) (a0:α) (hR:R a0) (h0:canon n0 keep st=H a0) (round:∀ a,R a→go n0 b (H a) (N6 n0 keep H R μ a K)):go n0 (.loop keep b) st K:=by
 have key:∀ (n:Nat) (a:α) (st:St),μ a≤n→R a→canon n0 keep st=H a→∃ x st',M7 n0 keep (run n0 b) st=some (x,st')∧K x st':=by
  intro n
  induction n with
  | zero =>
   intro a st hn hR hc
   obtain ⟨x,st',h,k⟩:=round a hR
   cases x with
   | normal =>
    obtain ⟨y,_,h2,_⟩:=k
    omega
   | exit i=>exact ⟨_,st',by rw [Hg,hc,h]; rfl,k⟩
   | ret=>exact ⟨_,st',by rw [Hg,hc,h]; rfl,k⟩
  | succ n ih =>
   intro a st hn hR hc
   obtain ⟨x,st',h,k⟩:=round a hR
   cases x with
   | normal =>
    obtain ⟨y,h1,h2,h3⟩:=k
    obtain ⟨x2,st2,h4,k2⟩:=ih y st' (by omega) h1 h3
    exact ⟨x2,st2,by rw [Hg,hc,h]; exact h4,k2⟩
   | exit i=>exact ⟨_,st',by rw [Hg,hc,h]; rfl,k⟩
   | ret=>exact ⟨_,st',by rw [Hg,hc,h]; rfl,k⟩
 exact key (μ a0) a0 st (z6 _) hR h0
def N7 (n0:Nat) (keep keepO:List Nat) (H:EL→St) (F:X × St) (p:EL):X→St→Prop
 | .normal,st'=>canon n0 keep st'=H p
 | .exit i,st'=>F=(.exit i,canon n0 keepO st')
 | .ret,st'=>F=(.ret,canon n0 keepO st')
def Ss (n0:Nat) (keepO:List Nat) (F:X × St):X→St→Prop
 | .normal,_=>False
 | .exit i,st'=>F=(.exit i,canon n0 keepO st')
 | .ret,st'=>F=(.ret,canon n0 keepO st')
theorem QU {keep keepO:List Nat} {H:EL→St} {F:X × St} {p:EL} {st':St}:N7 n0 keep keepO H F p .normal st'=(canon n0 keep st'=H p):=rfl
theorem QV {keep keepO:List Nat} {H:EL→St} {F:X × St} {p:EL} {i:Nat} {st':St}:N7 n0 keep keepO H F p (.exit i) st'=(F=(.exit i,canon n0 keepO st')):=rfl
theorem QW {keep keepO:List Nat} {H:EL→St} {F:X × St} {p:EL} {st':St}:N7 n0 keep keepO H F p .ret st'=(F=(.ret,canon n0 keepO st')):=rfl
theorem TR {keepO:List Nat} {F:X × St} {i:Nat} {st':St}:Ss n0 keepO F (.exit i) st'=(F=(.exit i,canon n0 keepO st')):=rfl
theorem TS {keepO:List Nat} {F:X × St} {st':St}:Ss n0 keepO F .ret st'=(F=(.ret,canon n0 keepO st')):=rfl
def N8 (n0:Nat) (keep keepO:List Nat) (H:EL→St) (Ok:EL→Prop) (F:X × St) (p:EL):X→St→Prop
 | .normal,st'=>Ok p∧canon n0 keep st'=H p
 | .exit i,st'=>F=(.exit i,canon n0 keepO st')
 | .ret,st'=>F=(.ret,canon n0 keepO st')
theorem Ev {keep keepO:List Nat} {H:EL→St} {Ok:EL→Prop} {F:X × St} {p:EL} {st':St}:N8 n0 keep keepO H Ok F p .normal st'=(Ok p∧canon n0 keep st'=H p):=rfl
theorem Ew {keep keepO:List Nat} {H:EL→St} {Ok:EL→Prop} {F:X × St} {p:EL} {i:Nat} {st':St}:N8 n0 keep keepO H Ok F p (.exit i) st'=(F=(.exit i,canon n0 keepO st')):=rfl
theorem Ex {keep keepO:List Nat} {H:EL→St} {Ok:EL→Prop} {F:X × St} {p:EL} {st':St}:N8 n0 keep keepO H Ok F p .ret st'=(F=(.ret,canon n0 keepO st')):=rfl
theorem MH {keep keepO:List Nat} {it:SX} {nx more:Nat} {b:SC} (f:MF) (hfin:∃ l,Enum f l) (F:X × St) (hF:K F.1 F.2) (H:EL→St) (Ok:EL→Prop) (hok:Ok []) (g:Nat) (ks:Bool)
  (h0:canon n0 keep st=H []) (hit:∀ p:EL,Nx it (H p)=some (g,ks,f,(p.map (·.1)).reverse))
  (round:∀ (p:EL) (k:MK) (x:MV),Ok p→(p.map (·.1)).Nodup→(∀ e,e∈p→f e.1=some e.2)→f k=some x→k ∉ p.map (·.1)→go n0 b (E5 nx more (H p) true [(g,.it ks f (k :: (p.map (·.1)).reverse) (some (k,x)))]) (N8 n0 keep keepO H Ok F (p++[(k,x)])))
  (fin:∀ p:EL,Ok p→Enum f p→go n0 b (E5 nx more (H p) false []) (Ss n0 keepO F)):go n0 (.mloop keep keepO it nx more b) st K:=by
 have key:∀ (l p:EL) (s:St),Ok p→Enum f (p++l)→canon n0 keep s=H p→Le n0 keepO (Eu n0 ⟨keepO,it,nx,more⟩ keep (run n0 b) f l (p.map (·.1)).reverse s)=some F:=by
  intro l
  induction l with
  | nil =>
   intro p s hO hE hs
   rw [yQ] at hE
   unfold Eu
   rw [hs,hit p]
   simp only
   try rw [A1 (p:=f=f) rfl,A1 (p:=(p.map (·.1)).reverse=(p.map (·.1)).reverse) rfl]
   simp only [A1 True.intro,zG,cond_true]
   obtain ⟨x,st',h1,h2⟩:=fin p hO hE
   rw [h1]
   cases x with
   | normal=>exact h2.elim
   | exit i=>have h2:F=_:=h2; rw [h2]; rfl
   | ret=>have h2:F=_:=h2; rw [h2]; rfl
  | cons e l ih =>
   intro p s hO hE hs
   obtain ⟨k,x⟩:=e
   have hnd:=hE.nd
   rw [z7,List.nodup_append] at hnd
   have hpm:∀ e,e∈p→f e.1=some e.2:=fun e he=>(hE.mem e.1 e.2).1 (by simp [he])
   have hk:f k=some x:=(hE.mem k x).1 (by simp)
   have hn:k ∉ p.map (·.1):=fun hm=>hnd.2.2 k hm k (by simp) rfl
   obtain ⟨x1,st1,h1,h2⟩:=round p k x hO hnd.1 hpm hk hn
   unfold Eu
   rw [hs,hit p]
   simp only
   try rw [A1 (p:=f=f) rfl,A1 (p:=(p.map (·.1)).reverse=(p.map (·.1)).reverse) rfl]
   simp only [A1 True.intro,zG,cond_true]
   rw [h1]
   cases x1 with
   | normal =>
    have h2:Ok (p++[(k,x)])∧canon n0 keep st1=H (p++[(k,x)]):=h2
    have:=ih (p++[(k,x)]) st1 h2.1 (by rw [zN]; exact hE) h2.2
    have hrev:((p++[(k,x)]).map (·.1)).reverse=k :: (p.map (·.1)).reverse:=by simp
    rw [hrev] at this
    exact this
   | exit i=>have h2:F=_:=h2; rw [h2]; rfl
   | ret=>have h2:F=_:=h2; rw [h2]; rfl
 refine ⟨F.1,F.2,?_,hF⟩
 have:Gm n0 ⟨keepO,it,nx,more⟩ keep (run n0 b) st=some F:=by
  unfold Gm
  rw [h0,hit []]
  exact Ea.2 ⟨hfin,fun l hl=>key l [] st hok (by simpa using hl) h0⟩
 exact this
end
def slots:Nat→Nat→List (Nat × SV)→List SV
 | 0,_,_=>[]
 | n+1,k,[]=>.any :: slots n (k+1) []
 | n+1,k,(j,x) :: r=>bif j == k then x :: slots n (k+1) r else .any :: slots n (k+1) ((j,x) :: r)
def TT (res:RM) (n0:Nat) (rs:List RX) (out:SV × List Ob) (x:X) (st:St):Prop:=fin res n0 rs x st=some out
def Vg (res:RM) (n0:Nat) (r:Option (SV × List Ob)):Option (SV × List Ob) :=
 match r with
 | some (r,ob)=>order res n0 r ob
 | none=>none
def O8 (res:RM) (n0:Nat) (ob:List Ob) (r:Option SV):Option (SV × List Ob) :=
 match r with
 | some r0=>Vg res n0 (gc n0 r0 ob)
 | none=>none
theorem Vh {res:RM} {n0:Nat} {rs:List RX} {out:SV × List Ob} {sl:List SV} {ob:List Ob}:TT res n0 rs out .ret ⟨sl,ob⟩=(O8 res n0 ob (LJ ⟨sl,ob⟩ rs)=some out):=rfl
theorem Vi {res:RM} {n0:Nat} {rs:List RX} {out:SV × List Ob} {sl:List SV} {ob:List Ob}:TT res n0 rs out .normal ⟨sl,ob⟩=(O8 res n0 ob (LJ ⟨sl,ob⟩ rs)=some out):=rfl
theorem TU {res:RM} {n0:Nat} {ob:List Ob} {r:SV}:O8 res n0 ob (some r)=Vg res n0 (gc n0 r ob):=rfl
theorem Vj {n0:Nat} {r:SV} {ob:List Ob} {res:RM}:Vg res n0 (some (r,ob))=order res n0 r ob:=rfl
theorem Aj {f:FuncId} {fc:FC} {hand:List Bool} {res:RM} {tr:Bool} {xs:List SV} {ob:List Ob} {out:SV × List Ob} (hc:codeOf Try.prog f=some fc) (hr:modes f=⟨hand,res,none,tr⟩) (hn:xs.length≤fc.nt) (h:go ob.length (F3 res fc.sc) ⟨xs++IR (fc.nt-xs.length),entry tr ob⟩ (TT res ob.length fc.rs out)):E f xs ob=some out:=by
 obtain ⟨x,st',h1,h2⟩:=h
 unfold E
 rw [Un]
 unfold F4
 rw [hc,hr]
 simp only
 rw [decide_eq_true hn,cond_true]
 have h1:fr Try.prog (C7 modes (ev Try.prog modes)) (Iy ob.length) (F3 res fc.sc) ⟨xs++IR (fc.nt-xs.length),entry tr ob⟩=some (x,st'):=h1
 rw [h1]
 exact h2
theorem Vk {f:FuncId} {g:List SV→List Ob→Option (SV × List Ob)} {xs:List SV} {ob:List Ob} (hg:(modes f).ext=some g):E f xs ob=g xs ob:=by
 unfold E
 rw [Un]
 unfold F4
 rw [hg]
theorem MJ {f:FuncId} {g:List SV→Option SV} {xs:List SV} {r:SV} (hg:(modes f).ext=some (HK g)) (h:g xs=some r):E f xs []=some (r,[]):=by
 rw [Vk hg]
 simp only [HK,h]
theorem Dy:modes 43=⟨[],.asis,some (HK ME),false⟩:=by unfold modes; rfl
theorem Eh {k:Int} (h1:1≤k) (h2:k≤1099511627776):E 43 [.int .i64 k] []=some (.str (DT k),[]):=by
 refine MJ (g:=ME) (by unfold modes; rfl) ?_
 simp only [ME,A1 h1,A1 h2,zG,cond_true]
theorem Ae:modes 95=⟨[],.asis,some (HK Se),false⟩:=by unfold modes; rfl
theorem CB (s:ByteArray):E 95 [.str s] []=some (.bool (CU s),[]):=MJ (g:=Se) (congrArg FM.ext Ae) rfl
theorem Am:modes 72=⟨[],.asis,some (HK Sf),false⟩:=by unfold modes; rfl
theorem HF (s:ByteArray):E 72 [.str s] []=some (.bool (CU s),[]):=MJ (g:=Sf) (congrArg FM.ext Am) rfl
theorem By:modes 123=⟨[],.asis,some (HK Sg),false⟩:=by unfold modes; rfl
theorem Lp (s:ByteArray):E 123 [.str s] []=some (.bool (D4 s),[]):=MJ (g:=Sg) (congrArg FM.ext By) rfl
theorem Bz:modes 104=⟨[],.asis,some (HK Sh),false⟩:=by unfold modes; rfl
theorem Lq (s:ByteArray):E 104 [.str s] []=some (.bool (D4 s),[]):=MJ (g:=Sh) (congrArg FM.ext Bz) rfl
abbrev Tm.sv (x:Tm):SV:=.agg [.str x.name,.arr (x.args.map Tm.d)]
mutual
def Tm.o:Tm→List OT
 | .mk name args=>[.str name,.ow (Tm.os args)]
def Tm.os:List Tm→List (List OT)
 | []=>[]
 | x :: xs=>Tm.o x :: Tm.os xs
end
theorem Tm.os_eq:∀ xs:List Tm,Tm.os xs=xs.map Tm.o
 | []=>rfl
 | x :: xs=>by rw [Tm.os,Tm.os_eq xs]; rfl
theorem Tm.o_eq (x:Tm):Tm.o x=[.str x.name,.ow (x.args.map Tm.o)]:=by
 obtain ⟨name,args⟩:=x
 rw [Tm.o,Tm.os_eq]; rfl
theorem Tm.ers_of:∀ xs:List Tm,(∀ x∈xs,OT.ers (Tm.o x)=Tm.d x)→OT.erss (xs.map Tm.o)=xs.map Tm.d
 | [],_=>rfl
 | x :: xs,h=>by
  simp only [zC,OT.erss]
  rw [h x (by simp),Tm.ers_of xs fun y hy=>h y (by simp [hy])]
theorem Tm.er (x:Tm):OT.ers (Tm.o x)=Tm.d x:=by
 have h:=Tm.ers_of x.args fun y hy=>Tm.er y
 rw [Tm.o_eq,Tm.d_eq]
 simp only [OT.ers,OT.er,h]
termination_by SizeOf.sizeOf x
decreasing_by exact Tm.lt_of_mem hy
theorem Tm.erss (xs:List Tm):OT.erss (xs.map Tm.o)=xs.map Tm.d:=Tm.ers_of xs fun x _=>Tm.er x
theorem Tm.nos_of:∀ xs:List Tm,(∀ x∈xs,OT.DB (Tm.o x)=true)→OT.Ce (xs.map Tm.o)=true
 | [],_=>rfl
 | x :: xs,h=>by
  simp only [zC,OT.Ce]
  rw [h x (by simp),Tm.nos_of xs fun y hy=>h y (by simp [hy])]; rfl
theorem Tm.no (x:Tm):OT.DB (Tm.o x)=true:=by
 have h:=Tm.nos_of x.args fun y hy=>Tm.no y
 rw [Tm.o_eq]
 simp only [OT.DB,OT.noSh,h,zG,zK]
termination_by SizeOf.sizeOf x
decreasing_by exact Tm.lt_of_mem hy
theorem Tm.noss (xs:List Tm):OT.Ce (xs.map Tm.o)=true:=Tm.nos_of xs fun x _=>Tm.no x
abbrev Tm.osv (x:Tm):SV:=.agg [.str x.name,.ref 0]
abbrev Tm.obs (x:Tm):List Ob:=[.row 24 2 (x.args.map Tm.o)]
abbrev Fm.sv (x:Fm):SV:=.agg [.int .i64 x.op,.str x.atom.name,.arr (x.atom.args.map Tm.d),.str x.var,.arr (x.parts.map Fm.d)]
mutual
def Fm.o:Fm→List OT
 | .mk op atom var parts=>[.int op,.str atom.name,.ow (atom.args.map Tm.o),.str var,.ow (Fm.os parts)]
def Fm.os:List Fm→List (List OT)
 | []=>[]
 | x :: xs=>Fm.o x :: Fm.os xs
end
theorem Fm.os_eq:∀ xs:List Fm,Fm.os xs=xs.map Fm.o
 | []=>rfl
 | x :: xs=>by rw [Fm.os,Fm.os_eq xs]; rfl
theorem Fm.o_eq (x:Fm):Fm.o x=[.int x.op,.str x.atom.name,.ow (x.atom.args.map Tm.o),.str x.var,.ow (x.parts.map Fm.o)]:=by
 obtain ⟨op,atom,var,parts⟩:=x
 rw [Fm.o,Fm.os_eq]; rfl
theorem Fm.ers_of:∀ xs:List Fm,(∀ x∈xs,OT.ers (Fm.o x)=Fm.d x)→OT.erss (xs.map Fm.o)=xs.map Fm.d
 | [],_=>rfl
 | x :: xs,h=>by
  simp only [zC,OT.erss]
  rw [h x (by simp),Fm.ers_of xs fun y hy=>h y (by simp [hy])]
theorem Fm.er (x:Fm):OT.ers (Fm.o x)=Fm.d x:=by
 have h:=Fm.ers_of x.parts fun y hy=>Fm.er y
 rw [Fm.o_eq,Fm.d_eq]
 simp only [OT.ers,OT.er,h,Tm.erss]
termination_by SizeOf.sizeOf x
decreasing_by exact Fm.lt_of_mem hy
theorem Fm.erss (xs:List Fm):OT.erss (xs.map Fm.o)=xs.map Fm.d:=Fm.ers_of xs fun x _=>Fm.er x
theorem Fm.nos_of:∀ xs:List Fm,(∀ x∈xs,OT.DB (Fm.o x)=true)→OT.Ce (xs.map Fm.o)=true
 | [],_=>rfl
 | x :: xs,h=>by
  simp only [zC,OT.Ce]
  rw [h x (by simp),Fm.nos_of xs fun y hy=>h y (by simp [hy])]; rfl
theorem Fm.no (x:Fm):OT.DB (Fm.o x)=true:=by
 have h:=Fm.nos_of x.parts fun y hy=>Fm.no y
 rw [Fm.o_eq]
 simp only [OT.DB,OT.noSh,h,Tm.noss,zG,zK]
termination_by SizeOf.sizeOf x
decreasing_by exact Fm.lt_of_mem hy
theorem Fm.noss (xs:List Fm):OT.Ce (xs.map Fm.o)=true:=Fm.nos_of xs fun x _=>Fm.no x
abbrev Fm.osv (x:Fm):SV:=.agg [.int .i64 x.op,.str x.atom.name,.ref 0,.str x.var,.ref 1]
abbrev Fm.obs (x:Fm):List Ob:=[.row 24 2 (x.atom.args.map Tm.o),.row 27 5 (x.parts.map Fm.o)]
def Lt.o (x:Lt):List OT:=[.bool x.pos,.str x.atom.name,.ow (x.atom.args.map Tm.o)]
theorem Lt.er (x:Lt):OT.ers (Lt.o x)=Lt.d x:=by
 simp only [Lt.o,Lt.d,OT.ers,OT.er,Tm.erss]
theorem Lt.erss:∀ xs:List Lt,OT.erss (xs.map Lt.o)=xs.map Lt.d
 | []=>rfl
 | x :: xs=>by simp only [zC,OT.erss,Lt.er,Lt.erss xs]
theorem Lt.no (x:Lt):OT.DB (Lt.o x)=true:=by
 simp only [Lt.o,OT.DB,OT.noSh,Tm.noss,zG,zK]
theorem Lt.noss:∀ xs:List Lt,OT.Ce (xs.map Lt.o)=true
 | []=>rfl
 | x :: xs=>by simp only [zC,OT.Ce,Lt.no,Lt.noss xs,zG]
def Cl.o (x:Cl):List OT:=[.ow (x.lits.map Lt.o)]
theorem Cl.er (x:Cl):OT.ers (Cl.o x)=Cl.d x:=by
 simp only [Cl.o,Cl.d,OT.ers,OT.er,Lt.erss]
theorem Cl.erss:∀ xs:List Cl,OT.erss (xs.map Cl.o)=xs.map Cl.d
 | []=>rfl
 | x :: xs=>by simp only [zC,OT.erss,Cl.er,Cl.erss xs]
theorem Cl.no (x:Cl):OT.DB (Cl.o x)=true:=by
 simp only [Cl.o,OT.DB,OT.noSh,Lt.noss,zG,zK]
theorem Cl.noss:∀ xs:List Cl,OT.Ce (xs.map Cl.o)=true
 | []=>rfl
 | x :: xs=>by simp only [zC,OT.Ce,Cl.no,Cl.noss xs,zG]
def Tl.o (x:Tl):List OT:=[.str x.name,.int x.arity,.bool x.pred,.ow (x.vals.map fun n=>[OT.int n])]
theorem Tl.er (x:Tl):OT.ers (Tl.o x)=Tl.d x:=by
 simp only [Tl.o,Tl.d,OT.ers,OT.er,Qo]
theorem Tl.erss:∀ xs:List Tl,OT.erss (xs.map Tl.o)=xs.map Tl.d
 | []=>rfl
 | x :: xs=>by simp only [zC,OT.erss,Tl.er,Tl.erss xs]
theorem Tl.no (x:Tl):OT.DB (Tl.o x)=true:=by
 simp only [Tl.o,OT.DB,OT.noSh,Qp,zG,zK]
theorem Tl.noss:∀ xs:List Tl,OT.Ce (xs.map Tl.o)=true
 | []=>rfl
 | x :: xs=>by simp only [zC,OT.Ce,Tl.no,Tl.noss xs,zG]
theorem TV {n:Int} (h1:-9223372036854775808≤n) (h2:n≤9223372036854775807):dec (inK .i64 n)=true:=A1 (Tx.2 ⟨h1,h2⟩)
theorem get_at {α β:Type} (f:α→β) {xs:List α} {k:Nat} (h:k<xs.length):(xs.map f)[k]?=some (f xs[k]):=by rw [List.getElem?_map,yK h]; rfl
theorem VD:dec True=true:=A1 trivial
theorem VE:dec False=false:=An fun h=>h
attribute [go_sem] pfx E7 HU OT.G3 OT.Ow OT.half UY T8 F1 Og SV.isNil Ob.idsB SV.idsB SV.JT List.getElem?_cons_zero List.getElem?_cons_succ OT.Br OT.Dn OT.full entry toTree Ql Ox Qk EI Gj DW RL Mj RV OT.erss OT.ers OT.er OT.Ce OT.DB OT.noSh quiet obB OZ Io meets GS go_skip TG go_ret UG TH UH Sk TI TJ TK UI UJ UK V8 V9 VA TL TM Sl QQ TN Sm QR TO UN UO VB UP UQ UR VC US UT So UV UW UX UZ Va Vb Vd Ve Or Oq Dh seen QS P7 TP TQ Vf QT F2 Sp Sq Sr Vh Vi TU Vj order opF fOp Et Qg Ty Qe Qf RK GY eqK A5 gets Au LI Fa CW IK KM AS Q9 SV.cellsN SV.one HQ splice Do NR HP II Db BG BW BF FY GC Pb eOp.mkEs eOp.addS D.sv OT.sv D.ot Ge nodupB reach SV.refs SV.Mv SV.ptrs SV.Mw Ob.refs Ob.liveB Gk EH SV.back SV.JU Ob.back Gc GD Cu Bu Bv Iv G0 SV.ren SV.IO Ob.ren mkU sgp gc JY names IS T1 T2 T3 Lb RW T4 T5 T6 T7 T9 TA SC.mark M1 Fd slots LJ Pj rxV IR Oo SV.noSh SV.JQ Ob.noSh SV.own SV.Nw Fc cond_true cond_false zL zV zC yB List.drop_succ_cons zM List.drop_nil yD yI List.take_nil yQ List.nil_append yC yU List.all_nil List.getD_cons_zero List.getD_cons_succ yL List.any_nil List.contains_cons List.contains_nil List.isEmpty_nil List.isEmpty_cons List.flatten_cons List.flatten_nil List.replicate_succ List.replicate_zero List.set_cons_zero List.set_cons_succ Nat.add_zero Nat.zero_add z6 zU zK zD zG yV yW Bool.true_or yO Bool.not_true Bool.not_false zB zZ decide_true decide_false beq_self_eq_true if_true if_false Option.map_some Option.map_none zE yM Option.getD_none yA true_and and_true and_self eq_self_iff_true z8 Bool.false_eq_true Bool.true_eq_false zH SV.int.injEq SV.bool.injEq SV.str.injEq SV.agg.injEq SV.tup.injEq SV.arr.injEq yR St.mk.injEq Int.zero_add VD VE TV A1 An Vz svK svD Rz svM MV.sv PT RN RO RP E5 St.app Nx MK.sv QU QV QW TR TS
attribute [go_sem_proc] Nat.reduceAdd Nat.reduceSub Nat.reduceLT Nat.reduceLeDiff Nat.reduceEqDiff Nat.reduceBEq Nat.reduceBneDiff Nat.reduceMul Int.reduceToNat Int.reduceNeg Int.reduceAdd reduceCtorEq
attribute [go_sem_proc ↓] reduceIte
theorem N9:∀ xs:List ByteArray,OT.Br (xs.map fun s=>[OT.str s])=true
 | []=>rfl
 | x :: xs=>by simp only [zC,OT.Br,OT.Dn,OT.full,N9 xs,zG]
theorem NA:∀ xs:List Int,OT.Br (xs.map fun n=>[OT.int n])=true
 | []=>rfl
 | x :: xs=>by simp only [zC,OT.Br,OT.Dn,OT.full,NA xs,zG]
theorem Tm.fu_of:∀ xs:List Tm,(∀ x∈xs,OT.Dn (Tm.o x)=true)→OT.Br (xs.map Tm.o)=true
 | [],_=>rfl
 | x :: xs,h=>by
  simp only [zC,OT.Br]
  rw [h x (by simp),Tm.fu_of xs fun y hy=>h y (by simp [hy])]; rfl
theorem Tm.fu (x:Tm):OT.Dn (Tm.o x)=true:=by
 have h:=Tm.fu_of x.args fun y hy=>Tm.fu y
 rw [Tm.o_eq]
 simp only [OT.Dn,OT.full,h,zG,zK]
termination_by SizeOf.sizeOf x
decreasing_by exact Tm.lt_of_mem hy
theorem Tm.fus (xs:List Tm):OT.Br (xs.map Tm.o)=true:=Tm.fu_of xs fun x _=>Tm.fu x
theorem Fm.fu_of:∀ xs:List Fm,(∀ x∈xs,OT.Dn (Fm.o x)=true)→OT.Br (xs.map Fm.o)=true
 | [],_=>rfl
 | x :: xs,h=>by
  simp only [zC,OT.Br]
  rw [h x (by simp),Fm.fu_of xs fun y hy=>h y (by simp [hy])]; rfl
theorem Fm.fu (x:Fm):OT.Dn (Fm.o x)=true:=by
 have h:=Fm.fu_of x.parts fun y hy=>Fm.fu y
 rw [Fm.o_eq]
 simp only [OT.Dn,OT.full,h,Tm.fus,zG,zK]
termination_by SizeOf.sizeOf x
decreasing_by exact Fm.lt_of_mem hy
theorem Fm.fus (xs:List Fm):OT.Br (xs.map Fm.o)=true:=Fm.fu_of xs fun x _=>Fm.fu x
theorem Lt.fu (x:Lt):OT.Dn (Lt.o x)=true:=by
 simp only [Lt.o,OT.Dn,OT.full,Tm.fus,zG,zK]
theorem Lt.fus:∀ xs:List Lt,OT.Br (xs.map Lt.o)=true
 | []=>rfl
 | x :: xs=>by simp only [zC,OT.Br,Lt.fu,Lt.fus xs,zG]
theorem Cl.fu (x:Cl):OT.Dn (Cl.o x)=true:=by
 simp only [Cl.o,OT.Dn,OT.full,Lt.fus,zG,zK]
theorem Cl.fus:∀ xs:List Cl,OT.Br (xs.map Cl.o)=true
 | []=>rfl
 | x :: xs=>by simp only [zC,OT.Br,Cl.fu,Cl.fus xs,zG]
theorem Tl.fu (x:Tl):OT.Dn (Tl.o x)=true:=by
 simp only [Tl.o,OT.Dn,OT.full,NA,zG,zK]
theorem Tl.fus:∀ xs:List Tl,OT.Br (xs.map Tl.o)=true
 | []=>rfl
 | x :: xs=>by simp only [zC,OT.Br,Tl.fu,Tl.fus xs,zG]
attribute [go_sem] N9 NA Qn Qo TD Qp Tm.fus Tm.erss Tm.noss Fm.fus Fm.erss Fm.noss Lt.fus Lt.erss Lt.noss Cl.fus Cl.erss Cl.noss Tl.fus Tl.erss Tl.noss
theorem Kd {α β:Type} (f:α→β) (dn rest:List α) (x y:α) {k:Nat} (h:dn.length=k):((dn++x :: rest).map f).set k (f y)=((dn++[y])++rest).map f:=by
 subst h
 rw [z7,List.set_append_right _ _ (by simp)]
 simp
theorem DE {α:Type} (a:α):dec (a=a)=true:=A1 rfl
section
variable {α β:Type} (f:α→β) (z:β) {xs:List α} {k:Nat}
end
theorem TW (a b:Int):(bif dec (a<b) then b else a)=max a b:=by
 by_cases h:a<b
 ·rw [A1 h,cond_true,Int.max_eq_right (by omega)]
 ·rw [An h,cond_false,Int.max_eq_left (by omega)]
def I3 {α:Type} (p:α→Bool):List α→Int→Int
 | [],_=>-1
 | x :: xs,i=>if p x then i else I3 p xs (i+1)
theorem O9 {α:Type} (p:α→Bool):∀ (xs:List α),dec (0≤I3 p xs 0)=xs.any p:=by
 have key:∀ (xs:List α) (i:Int),0≤i→(0≤I3 p xs i ↔ xs.any p=true):=by
  intro xs
  induction xs with
  | nil=>intro i h; simp [I3]
  | cons x xs ih =>
   intro i h
   simp only [I3,yL,zS]
   by_cases hp:p x=true
   ·simp [hp,h]
   ·rw [if_neg hp,ih (i+1) (by omega)]; simp [hp]
 intro xs
 cases h:xs.any p with
 | true=>exact A1 ((key xs 0 (by omega)).2 h)
 | false=>exact An fun h'=>by rw [(key xs 0 (by omega)).1 h'] at h; cases h
mutual
def Tm.nodes:Tm→Nat
 | .mk _ args=>1+Tm.nodeS args
def Tm.nodeS:List Tm→Nat
 | []=>0
 | x :: xs=>Tm.nodes x+Tm.nodeS xs
end
theorem Tm.nodes_eq (x:Tm):x.nodes=1+Tm.nodeS x.args:=by
 obtain ⟨name,args⟩:=x
 rw [Tm.nodes]; rfl
theorem Tm.nodes_pos (x:Tm):1≤x.nodes:=by rw [Tm.nodes_eq]; omega
theorem Tm.nodes_le:∀ (xs:List Tm) (k:Nat) (h:k<xs.length),xs[k].nodes≤Tm.nodeS xs
 | [],k,h=>absurd h (by simp)
 | x :: xs,0,_=>by rw [Tm.nodeS]; simp
 | x :: xs,k+1,h=>by
  have:=Tm.nodes_le xs k (by simpa using h)
  rw [Tm.nodeS]; simp only [List.getElem_cons_succ]; omega
mutual
def Tm.deep:Tm→Nat
 | .mk _ args=>Tm.Ey args+1
def Tm.Ey:List Tm→Nat
 | []=>0
 | x :: xs=>max (Tm.deep x) (Tm.Ey xs)
end
theorem Tm.K0 (x:Tm):x.deep=Tm.Ey x.args+1:=by
 obtain ⟨name,args⟩:=x
 rw [Tm.deep]; rfl
theorem Tm.Hi:∀ xs:List Tm,(∀ y∈xs,y.deep≤y.nodes)→Tm.Ey xs≤Tm.nodeS xs
 | [],_=>by simp [Tm.Ey]
 | x :: xs,h=>by
  have h1:=h x (by simp)
  have h2:=Tm.Hi xs fun y hy=>h y (by simp [hy])
  rw [Tm.Ey,Tm.nodeS]; omega
theorem Tm.FO (x:Tm):x.deep≤x.nodes:=by
 rw [Tm.K0,Tm.nodes_eq]
 have:=Tm.Hi x.args fun y hy=>Tm.FO y
 omega
termination_by SizeOf.sizeOf x
decreasing_by exact Tm.lt_of_mem hy
mutual
def Tm.names:Tm→Bool
 | .mk name args=>if CU name then args.length == 0 else D4 name&&decide (args.length≤4)&&Tm.Gp args
def Tm.Gp:List Tm→Bool
 | []=>true
 | x :: xs=>Tm.names x&&Tm.Gp xs
end
theorem Tm.Dq (x:Tm):x.names=if CU x.name then x.args.length == 0 else D4 x.name&&decide (x.args.length≤4)&&Tm.Gp x.args:=by
 obtain ⟨name,args⟩:=x
 rw [Tm.names]; rfl
theorem Tm.EU:∀ xs:List Tm,Tm.Gp xs=xs.all Tm.names
 | []=>rfl
 | x :: xs=>by rw [Tm.Gp,Tm.EU xs]; rfl
theorem Tm.length_le:∀ xs:List Tm,xs.length≤Tm.nodeS xs
 | []=>z6 _
 | x :: xs=>by
  have:=Tm.length_le xs
  have:=Tm.nodes_pos x
  rw [Tm.nodeS]; simp only [zL]; omega
theorem Tm.nodes_mem {xs:List Tm} {y:Tm} (h:y∈xs):y.nodes≤Tm.nodeS xs:=by
 obtain ⟨k,hk,rfl⟩:=yH h
 exact Tm.nodes_le xs k hk
def Tm.small (x:Tm):Bool:=decide (x.nodes≤30)&&decide (x.deep≤8)
def Tm.valid (x:Tm):Bool:=x.small&&x.names
noncomputable def Tm.eqn (x:Tm):Bool:=dec (x.name=⟨#[61]⟩)
noncomputable def Tm.atom (x:Tm):Bool:=if x.eqn then x.args.length == 2&&x.small&&Tm.Gp x.args else D4 x.name&&x.valid
theorem ML {xs:List Tm} (h:xs.length=2):Tm.Gp xs=((xs[0]'(by omega)).names&&(xs[1]'(by omega)).names):=by
 match xs,h with
 | [a,b],_=>simp [Tm.Gp]
mutual
def Tm.cap:Tm→Int
 | .mk _ xs=>Tm.capL xs 1
def Tm.capL:List Tm→Int→Int
 | [],n=>n
 | x :: xs,n=>if 30 < n then n else Tm.capL xs (n+Tm.cap x)
end
theorem Tm.cap_eq (x:Tm):x.cap=Tm.capL x.args 1:=by
 obtain ⟨n,xs⟩:=x
 rw [Tm.cap]; rfl
theorem Tm.capL_spec:∀ (xs:List Tm) (n:Int),(∀ x∈xs,1≤x.cap∧x.cap≤x.nodes∧(x.cap≤30→x.cap=x.nodes))→1≤n→n≤Tm.capL xs n∧Tm.capL xs n≤n+Tm.nodeS xs∧(Tm.capL xs n≤30→Tm.capL xs n=n+Tm.nodeS xs)
 | [],n,_,h=>by simp [Tm.capL,Tm.nodeS]
 | x :: xs,n,hx,h=>by
  rw [Tm.capL,Tm.nodeS]
  have h1:=hx x (by simp)
  split
  ·omega
  ·have:=Tm.capL_spec xs (n+x.cap) (fun y hy=>hx y (by simp [hy])) (by omega)
   omega
theorem Tm.cap_spec (x:Tm):1≤x.cap∧x.cap≤x.nodes∧(x.cap≤30→x.cap=x.nodes):=by
 rw [Tm.cap_eq,Tm.nodes_eq]
 have:=Tm.capL_spec x.args 1 (fun y hy=>Tm.cap_spec y) (by omega)
 omega
termination_by SizeOf.sizeOf x
decreasing_by exact Tm.lt_of_mem hy
mutual
def Tm.many:Tm→Int→Int
 | .mk _ xs,m=>Tm.manyL xs m 1
def Tm.manyL:List Tm→Int→Int→Int
 | [],_,n=>n
 | x :: xs,m,n=>if n≤m then Tm.manyL xs m (n+Tm.many x (m-n)) else n
end
theorem Tm.many_eq (x:Tm) (m:Int):x.many m=Tm.manyL x.args m 1:=by
 obtain ⟨n,xs⟩:=x
 rw [Tm.many]; rfl
theorem Tm.manyL_spec (m:Int):∀ (xs:List Tm) (n:Int),(∀ x∈xs,∀ m,0≤m→1≤x.many m∧x.many m≤x.nodes∧(x.many m≤m→x.many m=x.nodes))→1≤n→n≤Tm.manyL xs m n∧Tm.manyL xs m n≤n+Tm.nodeS xs∧(Tm.manyL xs m n≤m→Tm.manyL xs m n=n+Tm.nodeS xs)
 | [],n,_,h=>by simp [Tm.manyL,Tm.nodeS]
 | x :: xs,n,hx,h=>by
  rw [Tm.manyL,Tm.nodeS]
  split
  ·have h1:=hx x (by simp) (m-n) (by omega)
   have:=Tm.manyL_spec m xs (n+x.many (m-n)) (fun y hy=>hx y (by simp [hy])) (by omega)
   omega
  ·omega
theorem Tm.many_spec (x:Tm) (m:Int):1≤x.many m∧x.many m≤x.nodes∧(x.many m≤m→x.many m=x.nodes):=by
 rw [Tm.many_eq,Tm.nodes_eq]
 have:=Tm.manyL_spec m x.args 1 (fun y hy m _=>Tm.many_spec y m) (by omega)
 omega
termination_by SizeOf.sizeOf x
decreasing_by exact Tm.lt_of_mem hy
theorem Tm.QX {x:Tm} (h:x.names=true) (hv:CU x.name=true):x.args=[]:=by
 rw [Tm.Dq,if_pos hv] at h
 exact zO (by simpa using h)
theorem Tm.Ei {x:Tm} (h:x.names=true) {y:Tm} (hy:y∈x.args):y.names=true:=by
 rw [Tm.Dq] at h
 split at h
 ·have:x.args=[]:=zO (by simpa using h)
  rw [this] at hy; cases hy
 ·rw [zA,Tm.EU,zY] at h
  exact h.2 y hy
def Vl (res:RM) (n0:Nat) (rs:List RX) (Q:SV × List Ob→Prop) (x:X) (st:St):Prop:=∃ out,TT res n0 rs out x st∧Q out
theorem exq {α:Type} {a:α} {Q:α→Prop}:(∃ out,some a=some out∧Q out)=Q a:=propext ⟨fun ⟨o,h,q⟩=>by obtain rfl:=zP h; exact q,fun q=>⟨a,rfl,q⟩⟩
theorem Vm {res:RM} {n0:Nat} {rs:List RX} {Q:SV × List Ob→Prop} {sl:List SV} {ob:List Ob}:Vl res n0 rs Q .ret ⟨sl,ob⟩=∃ out,O8 res n0 ob (LJ ⟨sl,ob⟩ rs)=some out∧Q out:=rfl
theorem Vn {res:RM} {n0:Nat} {rs:List RX} {Q:SV × List Ob→Prop} {sl:List SV} {ob:List Ob}:Vl res n0 rs Q .normal ⟨sl,ob⟩=∃ out,O8 res n0 ob (LJ ⟨sl,ob⟩ rs)=some out∧Q out:=rfl
theorem AE {f:FuncId} {fc:FC} {hand:List Bool} {res:RM} {tr:Bool} {xs:List SV} {ob:List Ob} {Q:SV × List Ob→Prop} (hc:codeOf Try.prog f=some fc) (hr:modes f=⟨hand,res,none,tr⟩) (hn:xs.length≤fc.nt) (h:go ob.length (F3 res fc.sc) ⟨xs++IR (fc.nt-xs.length),entry tr ob⟩ (Vl res ob.length fc.rs Q)):∃ out,E f xs ob=some out∧Q out:=by
 obtain ⟨x,st',h1,out,h2,h3⟩:=h
 exact ⟨out,Aj hc hr hn ⟨x,st',h1,h2⟩,h3⟩
attribute [go_sem] Vm Vn exq
def Tm.osh (x:Tm):List OT:=[.str x.name,.sh (x.args.map Tm.d)]
theorem Tm.Su (x:Tm):x.osh=[.str x.name,.sh (x.args.map Tm.d)]:=rfl
theorem Tm.Gq:∀ xs:List Tm,OT.Br (xs.map Tm.osh)=true
 | []=>rfl
 | x :: xs=>by rw [zC,Tm.Su]; simp [OT.Br,OT.Dn,OT.full,Tm.Gq xs]
theorem Tm.J7:∀ xs:List Tm,OT.erss (xs.map Tm.osh)=xs.map Tm.d
 | []=>rfl
 | x :: xs=>by rw [zC,zC,Tm.Su,Tm.d_eq]; simp [OT.erss,OT.ers,OT.er,Tm.J7 xs]
noncomputable def Bt (c:Int):Bool:=(dec (97≤c)&&dec (c≤122)) || (dec (65≤c)&&dec (c≤90)) || (dec (48≤c)&&dec (c≤57)) || dec (c=95)
noncomputable def A3 (s:ByteArray) (i:Nat):Nat:=if h:i<s.size∧Bt (Ay s i)=true then A3 s (i+1) else i
termination_by s.size-i
theorem Gr {s:ByteArray} {i:Nat} (h:i<s.size) (hw:Bt (Ay s i)=true):A3 s i=A3 s (i+1):=by rw [A3,dif_pos ⟨h,hw⟩]
theorem CM {s:ByteArray} {i:Nat} (h:¬ (i<s.size∧Bt (Ay s i)=true)):A3 s i=i:=by rw [A3,dif_neg h]
theorem En (s:ByteArray) (i:Nat):i≤A3 s i:=by
 rw [A3]
 split
 ·have:=En s (i+1); omega
 ·exact z6 _
termination_by s.size-i
theorem DC (s:ByteArray) (i:Nat) (h:i≤s.size):A3 s i≤s.size:=by
 rw [A3]
 split
 ·exact DC s (i+1) (by omega)
 ·exact h
termination_by s.size-i
noncomputable def Ci (s:ByteArray) (i:Nat) (c:Int):Bool:=dec (i<s.size)&&dec (Ay s i=c)
theorem Bp {s:ByteArray} {i:Nat} {c:Int}:Ci s i c=true ↔ i<s.size∧Ay s i=c:=by
 unfold Ci; rw [zA,At,At]
noncomputable def rdL (r:Nat→Option (Tm × Nat)) (s:ByteArray):Nat→Nat→Option (List Tm × Nat)
 | 0,_=>none
 | m+1,i=>match r i with
  | none=>none
  | some (t,e)=>bif Ci s e 44 then (match rdL r s m (e+1) with
   | none=>none
   | some (ts,e')=>some (t :: ts,e')) else bif Ci s e 41 then some ([t],e+1) else none
noncomputable def rd (s:ByteArray):Nat→Nat→Option (Tm × Nat)
 | 0,_=>none
 | n+1,i=>bif dec (A3 s i=i) then none else bif Ci s (A3 s i) 40 then (match rdL (rd s n) s n (A3 s i+1) with
  | none=>none
  | some (ts,e)=>some (.mk (s.extract i (A3 s i)) ts,e)) else some (.mk (s.extract i (A3 s i)) [],A3 s i)
def seg (s:ByteArray) (a b:Nat):List UInt8:=(s.toList.drop a).take (b-a)
theorem AK (s:ByteArray):s.toList.length=s.size:=by rw [ByteArray.toList_eq]; simp
theorem HG {s:ByteArray} {a b c:Nat} (h:a≤b) (k:b≤c):seg s a c=seg s a b++seg s b c:=by
 unfold seg
 rw [show c-a=(b-a)+(c-b) by omega,List.take_add,List.drop_drop,show a+(b-a)=b by omega]
theorem toList_extract (s:ByteArray) (a b:Nat):(s.extract a b).toList=seg s a b:=by
 unfold seg
 rw [ByteArray.toList_eq,ByteArray.toList_eq,ByteArray.data_extract,Array.toList_extract,List.extract_eq_take_drop]
theorem FP {s:ByteArray} {i:Nat} (h:i<s.size):Ay s i=((s.toList[i]'(by rw [AK]; exact h)).toNat:Int):=by
 unfold Ay
 rw [getElem?_pos s i h]
 simp only [yM,ByteArray.toList_eq]
 rfl
theorem K3 {s:ByteArray} {i:Nat} {c:UInt8} (h:i<s.size) (hc:Ay s i=(c.toNat:Int)):seg s i (i+1)=[c]:=by
 have hl:i<s.toList.length:=by rw [AK]; exact h
 unfold seg
 rw [zF hl,show i+1-i=1 by omega,yD,yI]
 rw [FP h] at hc
 congr 1
 exact UInt8.toNat_inj.1 (by exact_mod_cast hc)
theorem Qt (s:ByteArray):seg s 0 s.size=s.toList:=by
 unfold seg
 rw [zM,Nat.sub_zero,← AK,List.take_length]
def C2 (c:List UInt8):List (List UInt8)→List UInt8
 | []=>[]
 | [x]=>x
 | x :: y :: r=>x++c++C2 c (y :: r)
mutual
def Tm.fmt:Tm→List UInt8
 | .mk name args=>name.toList++(if args.length=0 then [] else [40]++C2 [44] (Tm.FQ args)++[41])
def Tm.FQ:List Tm→List (List UInt8)
 | []=>[]
 | x :: xs=>Tm.fmt x :: Tm.FQ xs
end
theorem Tm.Hj (x:Tm):x.fmt=x.name.toList++(if x.args.length=0 then [] else [40]++C2 [44] (Tm.FQ x.args)++[41]):=by
 obtain ⟨n,a⟩:=x
 rw [Tm.fmt]; rfl
theorem Tm.Sv:∀ xs:List Tm,(Tm.FQ xs).length=xs.length
 | []=>by simp [Tm.FQ]
 | x :: xs=>by rw [Tm.FQ,zL,zL,Tm.Sv xs]
theorem Tm.Lr:∀ xs:List Tm,Tm.FQ xs=xs.map Tm.fmt
 | []=>by simp [Tm.FQ]
 | x :: xs=>by rw [Tm.FQ,Tm.Lr xs]; rfl
theorem Sw {r:Nat→Option (Tm × Nat)} {s:ByteArray} (hr:∀ i t e,i≤s.size→r i=some (t,e)→i<e∧e≤s.size∧seg s i e=t.fmt) :
  ∀ (m i:Nat) (ts:List Tm) (e:Nat),i≤s.size→rdL r s m i=some (ts,e)→i<e∧e≤s.size∧ts.length≠0∧seg s i e=C2 [44] (Tm.FQ ts)++[41]
 | 0,i,ts,e,_,h=>by cases h
 | m+1,i,ts,e,hi,h=>by
  rw [rdL] at h
  cases hq:r i with
  | none=>rw [hq] at h; cases h
  | some p =>
   obtain ⟨t,e0⟩:=p
   rw [hq] at h
   simp only at h
   obtain ⟨h1,h2,h3⟩:=hr i t e0 hi hq
   cases hc:Ci s e0 44 with
   | true =>
    rw [hc,cond_true] at h
    obtain ⟨k1,k2⟩:=Bp.1 hc
    cases hl:rdL r s m (e0+1) with
    | none=>rw [hl] at h; cases h
    | some q =>
     obtain ⟨us,e1⟩:=q
     rw [hl] at h
     simp only [zE,zH] at h
     obtain ⟨rfl,rfl⟩:=h
     obtain ⟨g1,g2,g3,g4⟩:=Sw hr m (e0+1) us e1 (by omega) hl
     refine ⟨by omega,g2,by simp,?_⟩
     rw [HG (show i≤e0 by omega) (show e0≤e1 by omega),h3,HG (show e0≤e0+1 by omega) (show e0+1≤e1 by omega),K3 (c:=44) k1 k2,g4]
     cases us with
     | nil=>simp at g3
     | cons u us=>simp only [Tm.FQ,C2,zN]
   | false =>
    rw [hc,cond_false] at h
    cases hc2:Ci s e0 41 with
    | true =>
     rw [hc2,cond_true] at h
     obtain ⟨k1,k2⟩:=Bp.1 hc2
     simp only [zE,zH] at h
     obtain ⟨rfl,rfl⟩:=h
     refine ⟨by omega,by omega,by simp,?_⟩
     rw [HG (show i≤e0 by omega) (show e0≤e0+1 by omega),h3,K3 (c:=41) k1 k2]
     simp only [Tm.FQ,C2]
    | false=>rw [hc2] at h; cases h
theorem GG {s:ByteArray}:∀ (n i:Nat) (t:Tm) (e:Nat),i≤s.size→rd s n i=some (t,e)→i<e∧e≤s.size∧seg s i e=t.fmt
 | 0,i,t,e,_,h=>by cases h
 | n+1,i,t,e,hi,h=>by
  rw [rd] at h
  have w1:=En s i
  have w2:=DC s i hi
  by_cases h0:A3 s i=i
  ·rw [A1 h0] at h; cases h
  ·rw [An h0,cond_false] at h
   cases hc:Ci s (A3 s i) 40 with
   | true =>
    rw [hc,cond_true] at h
    obtain ⟨k1,k2⟩:=Bp.1 hc
    cases hl:rdL (rd s n) s n (A3 s i+1) with
    | none=>rw [hl] at h; cases h
    | some q =>
     obtain ⟨us,e1⟩:=q
     rw [hl] at h
     simp only [zE,zH] at h
     obtain ⟨rfl,rfl⟩:=h
     obtain ⟨g1,g2,g3,g4⟩:=Sw (fun i t e=>GG n i t e) n _ us e1 (by omega) hl
     refine ⟨by omega,g2,?_⟩
     rw [Tm.Hj]
     show _=(s.extract i (A3 s i)).toList++(if us.length=0 then [] else [40]++C2 [44] (Tm.FQ us)++[41])
     rw [if_neg g3,toList_extract,HG (show i≤A3 s i by omega) (show A3 s i≤e1 by omega),HG (show A3 s i≤A3 s i+1 by omega) (show A3 s i+1≤e1 by omega),K3 (c:=40) k1 k2,g4]
     simp only [zN]
   | false =>
    rw [hc,cond_false] at h
    simp only [zE,zH] at h
    obtain ⟨rfl,rfl⟩:=h
    refine ⟨by omega,w2,?_⟩
    rw [Tm.Hj]
    have e0:(Tm.mk (s.extract i (A3 s i)) []).args.length=0:=rfl
    rw [if_pos e0,yQ]
    exact (toList_extract s i (A3 s i)).symm
def Ke:SC:=(.seq (.reg [⟨some 1,none,.boxv 24 2 (.t 0)⟩,⟨some 2,none,.mv (.c (.int .i64 0))⟩]) (.seq (.reg [⟨some 3,none,.mv (.c (.int .i64 1))⟩]) (.seq (.seq (.reg [⟨some 6,none,.faddr 1 (.t 1)⟩,⟨some 7,none,.load false 1 (.t 6)⟩,⟨some 8,none,.len false (.t 7)⟩,⟨some 9,none,.mv (.c (.int .i64 0))⟩]) (.block 0 (.loop [0,0,0,1,0,0,0,1,1,1,0,0,0,0,0,0,0,0,0,0,0,0] (.seq (.reg [⟨some 10,none,.bin .lss false (.t 9) (.t 8)⟩]) (.seq (.cond (.t 10) .skip (.exit 0)) (.seq (.block 1 (.seq (.reg [⟨some 11,none,.iaddr 2 (.t 7) (.t 9)⟩,⟨some 12,none,.load true 2 (.t 11)⟩,⟨(some 5),none,(.alloc 24 [(.str ⟨#[]⟩),.nil])⟩,⟨none,none,(.store 2 (.t 5) (.t 12))⟩]) (.seq (.seq (.reg [⟨some 13,none,.mv (.t 3)⟩,⟨some 14,none,.bin .gtr false (.t 13) (.c (.int .i64 30))⟩]) (.cond (.t 14) (.seq (.reg [⟨some 15,none,.mv (.t 3)⟩,⟨some 2,none,.mv (.t 15)⟩]) .ret) .skip)) (.reg [⟨some 16,none,.mv (.t 3)⟩,⟨some 17,none,.load true 2 (.t 5)⟩,⟨some 18,none,.call 139 [(.t 17)]⟩,⟨some 19,none,.bin .add false (.t 16) (.t 18)⟩,⟨some 3,none,.mv (.t 19)⟩])))) (.reg [⟨some 20,none,.bin .add false (.t 9) (.c (.int .i64 1))⟩,⟨some 9,none,.mv (.t 20)⟩]))))))) (.seq (.reg [⟨some 21,none,.mv (.t 3)⟩,⟨some 2,none,.mv (.t 21)⟩]) .ret))))
theorem OA:codeOf Try.prog 139=some ⟨22,Ke,[(.tmp 2)]⟩:=by kernel_rfl
theorem Ez:modes 139=⟨[],.asis,none,false⟩:=by unfold modes; rfl
theorem TX (x:Tm) (hn:x.nodes≤1099511627776) (ih:∀ y∈x.args,E 139 [y.sv] []=some (.int .i64 y.cap,[])):E 139 [x.sv] []=some (.int .i64 x.cap,[]):=by
 have hl:=Tm.length_le x.args
 have hx:=Tm.nodes_eq x
 rw [Tm.cap_eq]
 refine Aj OA Ez (of_decide_eq_true rfl) ?_
 simp (disch:=omega) only [Ke,go_sem,Ab]
 refine go_loop (α:=Int × Int) (fun a=>⟨slots 22 0 [(3,.int .i64 a.2),(7,.arr (x.args.map Tm.d)),(8,.int .i64 x.args.length),(9,.int .i64 a.1)],[]⟩) (fun a=>∃ k:Nat,a.1=k∧k≤x.args.length∧1≤a.2∧a.2+Tm.nodeS (x.args.drop k)≤x.nodes∧Tm.capL (x.args.drop k) a.2=Tm.capL x.args 1) (fun a=>x.args.length-a.1.toNat) (0,1) ⟨0,rfl,zU _,by dsimp only; omega,by rw [zM]; dsimp only; omega,rfl⟩ (by simp (disch:=omega) only [go_sem,Ab]) ?_
 rintro ⟨i,n⟩ ⟨k,hi,hk,hn0,hn1,hs⟩
 dsimp only at hi hn0 hn1 hs
 have hni:i.toNat=k:=by omega
 rcases zI k x.args.length with hlt | hge
 ·have hg:=get_at Tm.d hlt
  rw [Tm.d_eq] at hg
  have hd:x.args.drop k=x.args[k] :: x.args.drop (k+1):=zF hlt
  have hc:=ih x.args[k] (zQ hlt)
  have hp:=Tm.cap_spec x.args[k]
  rw [hd,Tm.capL] at hs
  rw [hd,Tm.nodeS] at hn1
  rcases yP 30 n with h30 | h30
  ·rw [if_pos h30] at hs
   simp (disch:=omega) only [go_sem,Ab,hni,hg,hc,Ez]
   exact hs
  ·rw [if_neg (by omega)] at hs
   simp (disch:=omega) only [go_sem,Ab,hni,hg,hc,Ez]
   refine ⟨(i+1,n+x.args[k].cap),⟨k+1,by dsimp only; omega,hlt,by dsimp only; omega,by dsimp only; omega,hs⟩,by dsimp only; omega,?_⟩
   simp only [and_self]
 ·have hd:x.args.drop k=[]:=zJ hge
  rw [hd,Tm.capL] at hs
  simp (disch:=omega) only [go_sem,Ab,hni]
  exact hs
theorem Sx (x:Tm) (hn:x.nodes≤1099511627776):E 139 [x.sv] []=some (.int .i64 x.cap,[]) :=
 TX x hn fun y hy=>Sx y (by have:=Tm.nodes_mem hy; have:=Tm.nodes_eq x; omega)
termination_by SizeOf.sizeOf x
decreasing_by exact Tm.lt_of_mem hy
def HX:SC:=(.seq (.reg [⟨some 2,none,.boxv 24 2 (.t 0)⟩,⟨some 4,none,.mv (.c (.int .i64 0))⟩]) (.seq (.reg [⟨some 5,none,.mv (.c (.int .i64 1))⟩]) (.seq (.seq (.reg [⟨some 6,none,.mv (.c (.int .i64 0))⟩]) (.block 0 (.loop [0,1,1,0,0,1,1,0,0,0,0,0,0,0,0,0,0,0,0,0,0,0,0,0,0,0,0,0,0,0,0] (.seq (.seq (.reg [⟨some 7,none,.mv (.t 6)⟩,⟨some 8,none,.faddr 1 (.t 2)⟩,⟨some 9,none,.load false 1 (.t 8)⟩,⟨some 10,none,.len false (.t 9)⟩,⟨some 11,none,.bin .lss false (.t 7) (.t 10)⟩,⟨some 12,none,.mv (.t 11)⟩,⟨(some 13),(some (12,true)),(.mv (.t 5))⟩,⟨(some 14),(some (12,true)),(.mv (.t 1))⟩,⟨(some 15),(some (12,true)),(.bin .leq false (.t 13) (.t 14))⟩,⟨some 16,none,.pick (.t 12) (.t 15) (.c (.bool false))⟩]) (.cond (.t 16) .skip (.exit 0))) (.seq (.block 1 (.reg [⟨some 19,none,.mv (.t 5)⟩,⟨some 20,none,.faddr 1 (.t 2)⟩,⟨some 21,none,.load false 1 (.t 20)⟩,⟨some 22,none,.mv (.t 6)⟩,⟨some 23,none,.iaddr 2 (.t 21) (.t 22)⟩,⟨some 24,none,.load true 2 (.t 23)⟩,⟨some 25,none,.mv (.t 1)⟩,⟨some 26,none,.mv (.t 5)⟩,⟨some 27,none,.bin .sub false (.t 25) (.t 26)⟩,⟨some 28,none,.call 130 [(.t 24),(.t 27)]⟩,⟨some 29,none,.bin .add false (.t 19) (.t 28)⟩,⟨some 5,none,.mv (.t 29)⟩])) (.reg [⟨some 17,none,.mv (.t 6)⟩,⟨some 18,none,.bin .add false (.t 17) (.c (.int .i64 1))⟩,⟨some 6,none,.mv (.t 18)⟩])))))) (.seq (.reg [⟨some 30,none,.mv (.t 5)⟩,⟨some 4,none,.mv (.t 30)⟩]) .ret))))
theorem LN:codeOf Try.prog 130=some ⟨31,HX,[(.tmp 4)]⟩:=by kernel_rfl
theorem Dr:modes 130=⟨[],.asis,none,false⟩:=by unfold modes; rfl
theorem TY (x:Tm) (m:Int) (hm:0≤m) (hm1:m≤1099511627776) (hn:x.nodes≤1099511627776) (ih:∀ y∈x.args,∀ m:Int,0≤m→m≤1099511627776→E 130 [y.sv,.int .i64 m] []=some (.int .i64 (y.many m),[])):E 130 [x.sv,.int .i64 m] []=some (.int .i64 (x.many m),[]):=by
 have hl:=Tm.length_le x.args
 have hx:=Tm.nodes_eq x
 rw [Tm.many_eq]
 refine Aj LN Dr (of_decide_eq_true rfl) ?_
 simp (disch:=omega) only [HX,go_sem,Ab]
 refine go_loop (α:=Int × Int) (fun a=>⟨slots 31 0 [(1,.int .i64 m),(2,.ptr 0 0),(5,.int .i64 a.2),(6,.int .i64 a.1)],[.box 24 [.str x.name,.arr (x.args.map Tm.d)]]⟩) (fun a=>∃ k:Nat,a.1=k∧k≤x.args.length∧1≤a.2∧a.2+Tm.nodeS (x.args.drop k)≤x.nodes∧Tm.manyL (x.args.drop k) m a.2=Tm.manyL x.args m 1) (fun a=>x.args.length-a.1.toNat) (0,1) ⟨0,rfl,zU _,by dsimp only; omega,by rw [zM]; dsimp only; omega,rfl⟩ (by simp (disch:=omega) only [go_sem,Ab]) ?_
 rintro ⟨i,n⟩ ⟨k,hi,hk,hn0,hn1,hs⟩
 dsimp only at hi hn0 hn1 hs
 have hni:i.toNat=k:=by omega
 rcases zI k x.args.length with hlt | hge
 ·have hg:=get_at Tm.d hlt
  rw [Tm.d_eq] at hg
  have hd:x.args.drop k=x.args[k] :: x.args.drop (k+1):=zF hlt
  rw [hd,Tm.manyL] at hs
  rw [hd,Tm.nodeS] at hn1
  rcases yP m n with h30 | h30
  ·rw [if_neg (by omega)] at hs
   simp (disch:=omega) only [go_sem,Ab,hni,hg,Dr]
   exact hs
  ·rw [if_pos h30] at hs
   have hc:=ih x.args[k] (zQ hlt) (m-n) (by omega) (by omega)
   have hp:=Tm.many_spec x.args[k] (m-n)
   simp (disch:=omega) only [go_sem,Ab,hni,hg,hc,Dr]
   refine ⟨(i+1,n+x.args[k].many (m-n)),⟨k+1,by dsimp only; omega,hlt,by dsimp only; omega,by dsimp only; omega,hs⟩,by dsimp only; omega,?_⟩
   simp only [and_self]
 ·have hd:x.args.drop k=[]:=zJ hge
  rw [hd,Tm.manyL] at hs
  simp (disch:=omega) only [go_sem,Ab,hni]
  exact hs
theorem Sy (x:Tm) (m:Int) (hm:0≤m) (hm1:m≤1099511627776) (hn:x.nodes≤1099511627776):E 130 [x.sv,.int .i64 m] []=some (.int .i64 (x.many m),[]) :=
 TY x m hm hm1 hn fun y hy m hm hm1=>Sy y m hm hm1 (by have:=Tm.nodes_mem hy; have:=Tm.nodes_eq x; omega)
termination_by SizeOf.sizeOf x
decreasing_by exact Tm.lt_of_mem hy
def IW:SC:=(.seq (.reg [⟨some 1,none,.boxv 24 2 (.t 0)⟩,⟨some 2,none,.mv (.c (.int .i64 0))⟩]) (.seq (.reg [⟨some 3,none,.mv (.c (.int .i64 0))⟩]) (.seq (.seq (.reg [⟨some 6,none,.faddr 1 (.t 1)⟩,⟨some 7,none,.load false 1 (.t 6)⟩,⟨some 8,none,.len false (.t 7)⟩,⟨some 9,none,.mv (.c (.int .i64 0))⟩]) (.block 0 (.loop [0,0,0,1,0,0,0,1,1,1,0,0,0,0,0,0,0,0,0,0] (.seq (.reg [⟨some 10,none,.bin .lss false (.t 9) (.t 8)⟩]) (.seq (.cond (.t 10) .skip (.exit 0)) (.seq (.block 1 (.seq (.reg [⟨some 11,none,.iaddr 2 (.t 7) (.t 9)⟩,⟨some 12,none,.load true 2 (.t 11)⟩,⟨(some 5),none,(.alloc 24 [(.str ⟨#[]⟩),.nil])⟩,⟨none,none,(.store 2 (.t 5) (.t 12))⟩]) (.reg [⟨some 13,none,.mv (.t 3)⟩,⟨some 14,none,.load true 2 (.t 5)⟩,⟨some 15,none,.call 140 [(.t 14)]⟩,⟨some 16,none,.minmax true (.t 13) (.t 15)⟩,⟨some 3,none,.mv (.t 16)⟩]))) (.reg [⟨some 17,none,.bin .add false (.t 9) (.c (.int .i64 1))⟩,⟨some 9,none,.mv (.t 17)⟩]))))))) (.seq (.reg [⟨some 18,none,.mv (.t 3)⟩,⟨some 19,none,.bin .add false (.t 18) (.c (.int .i64 1))⟩,⟨some 2,none,.mv (.t 19)⟩]) .ret))))
theorem NB:codeOf Try.prog 140=some ⟨20,IW,[(.tmp 2)]⟩:=by kernel_rfl
theorem EK:modes 140=⟨[],.asis,none,false⟩:=by unfold modes; rfl
def HY:SC:=(.seq (.reg [⟨some 4,none,.mv (.c (.int .i64 0))⟩]) (.seq (.seq (.reg [⟨some 5,none,.mv (.t 0)⟩,⟨some 6,none,.mv (.t 1)⟩,⟨some 7,none,.bin .gtr false (.t 5) (.t 6)⟩]) (.cond (.t 7) (.seq (.reg [⟨some 8,none,.mv (.t 0)⟩,⟨some 4,none,.mv (.t 8)⟩]) .ret) .skip)) (.seq (.reg [⟨some 9,none,.mv (.t 1)⟩,⟨some 4,none,.mv (.t 9)⟩]) .ret)))
theorem LO:codeOf Try.prog 148=some ⟨10,HY,[(.tmp 4)]⟩:=by kernel_rfl
theorem HZ:modes 148=⟨[],.asis,none,false⟩:=by unfold modes; rfl
def Hk:SC:=(.seq (.reg [⟨some 1,none,.boxv 24 2 (.t 0)⟩,⟨some 2,none,.mv (.c (.int .i64 0))⟩]) (.seq (.reg [⟨some 3,none,.mv (.c (.int .i64 0))⟩]) (.seq (.seq (.reg [⟨some 4,none,.mv (.c (.int .i64 0))⟩]) (.block 0 (.loop [0,1,0,1,1,0,0,0,0,0,0,0,0,0,0,0,0,0,0,0,0,0] (.seq (.seq (.reg [⟨some 5,none,.mv (.t 4)⟩,⟨some 6,none,.faddr 1 (.t 1)⟩,⟨some 7,none,.load false 1 (.t 6)⟩,⟨some 8,none,.len false (.t 7)⟩,⟨some 9,none,.bin .lss false (.t 5) (.t 8)⟩]) (.cond (.t 9) .skip (.exit 0))) (.seq (.block 1 (.reg [⟨some 12,none,.mv (.t 3)⟩,⟨some 13,none,.faddr 1 (.t 1)⟩,⟨some 14,none,.load false 1 (.t 13)⟩,⟨some 15,none,.mv (.t 4)⟩,⟨some 16,none,.iaddr 2 (.t 14) (.t 15)⟩,⟨some 17,none,.load true 2 (.t 16)⟩,⟨some 18,none,.call 131 [(.t 17)]⟩,⟨some 19,none,.call 148 [(.t 12),(.t 18)]⟩,⟨some 3,none,.mv (.t 19)⟩])) (.reg [⟨some 10,none,.mv (.t 4)⟩,⟨some 11,none,.bin .add false (.t 10) (.c (.int .i64 1))⟩,⟨some 4,none,.mv (.t 11)⟩])))))) (.seq (.reg [⟨some 20,none,.mv (.t 3)⟩,⟨some 21,none,.bin .add false (.t 20) (.c (.int .i64 1))⟩,⟨some 2,none,.mv (.t 21)⟩]) .ret))))
theorem Ls:codeOf Try.prog 131=some ⟨22,Hk,[(.tmp 2)]⟩:=by kernel_rfl
theorem DF:modes 131=⟨[],.asis,none,false⟩:=by unfold modes; rfl
theorem Sz (a b:Int):E 148 [.int .i64 a,.int .i64 b] []=some (.int .i64 (max a b),[]):=by
 refine Aj LO HZ (of_decide_eq_true rfl) ?_
 simp (disch:=omega) only [HY,go_sem,Ab]
 repeat' (refine O6 (fun hq=>?_) (fun hq=>?_) <;> (first | replace hq:=At.1 hq | replace hq:=Cf.1 hq) <;> (try simp (disch:=omega) only [go_sem,Ab]))
 all_goals omega
theorem S1 (x:Tm) (hn:x.nodes≤1099511627776) (ih:∀ y∈x.args,E 140 [y.sv] []=some (.int .i64 y.deep,[])):E 140 [x.sv] []=some (.int .i64 x.deep,[]):=by
 have hl:=Tm.length_le x.args
 have hx:=Tm.nodes_eq x
 have hd1:=Tm.K0 x
 have hd2:=Tm.FO x
 refine Aj NB EK (of_decide_eq_true rfl) ?_
 simp (disch:=omega) only [IW,go_sem,Ab]
 refine go_loop (α:=Int × (Int)) (fun a=>⟨slots 20 0 [(3,.int .i64 (a.2)),(7,.arr (x.args.map Tm.d)),(8,.int .i64 x.args.length),(9,.int .i64 (a.1))],[]⟩) (fun a=>∃ k:Nat,a.1=k∧k≤(x.args).length∧0≤(a.2)∧max (a.2) (Tm.Ey (x.args.drop k):Nat)=(Tm.Ey x.args:Nat)) (fun a=>(x.args).length-(a.1).toNat) (0,0) ⟨0,rfl,zU _,by dsimp only; omega,by rw [zM]; dsimp only; omega⟩ (by simp (disch:=omega) only [go_sem,Ab]) ?_
 rintro ⟨i,n⟩ ⟨k,hi,hk,hR⟩
 dsimp only at hi hR
 have hni:i.toNat=k:=by omega
 have hni1:(i+1).toNat=k+1:=by omega
 rcases zI k (x.args).length with hlt | hge
 ·have hg:=get_at Tm.d hlt
  rw [Tm.d_eq] at hg
  have hc:=ih x.args[k] (zQ hlt)
  rw [zF hlt,Tm.Ey] at hR
  simp (disch:=omega) only [go_sem,Ab,hni,hg,hc,EK,TW]
  refine ⟨(i+1,max n (x.args[k].deep:Int)),⟨k+1,by dsimp only; omega,hlt,by dsimp only; omega⟩,by dsimp only; omega,?_⟩
  simp only [and_self]
 ·rw [zJ hge,Tm.Ey] at hR
  simp (disch:=omega) only [go_sem,Ab,hni]
  omega
theorem Qu (x:Tm) (hn:x.nodes≤1099511627776):E 140 [x.sv] []=some (.int .i64 x.deep,[]) :=
 S1 x hn fun y hy=>Qu y (by have:=Tm.nodes_mem hy; have:=Tm.nodes_eq x; omega)
termination_by SizeOf.sizeOf x
decreasing_by exact Tm.lt_of_mem hy
theorem P8 (x:Tm) (hn:x.nodes≤1099511627776) (ih:∀ y∈x.args,E 131 [y.sv] []=some (.int .i64 y.deep,[])):E 131 [x.sv] []=some (.int .i64 x.deep,[]):=by
 have hl:=Tm.length_le x.args
 have hx:=Tm.nodes_eq x
 have hd1:=Tm.K0 x
 have hd2:=Tm.FO x
 refine Aj Ls DF (of_decide_eq_true rfl) ?_
 simp (disch:=omega) only [Hk,go_sem,Ab]
 refine go_loop (α:=Int × (Int)) (fun a=>⟨slots 22 0 [(1,.ptr 0 0),(3,.int .i64 (a.2)),(4,.int .i64 (a.1))],[.box 24 [.str x.name,.arr (x.args.map Tm.d)]]⟩) (fun a=>∃ k:Nat,a.1=k∧k≤(x.args).length∧0≤(a.2)∧max (a.2) (Tm.Ey (x.args.drop k):Nat)=(Tm.Ey x.args:Nat)) (fun a=>(x.args).length-(a.1).toNat) (0,0) ⟨0,rfl,zU _,by dsimp only; omega,by rw [zM]; dsimp only; omega⟩ (by simp (disch:=omega) only [go_sem,Ab]) ?_
 rintro ⟨i,n⟩ ⟨k,hi,hk,hR⟩
 dsimp only at hi hR
 have hni:i.toNat=k:=by omega
 have hni1:(i+1).toNat=k+1:=by omega
 rcases zI k (x.args).length with hlt | hge
 ·have hg:=get_at Tm.d hlt
  rw [Tm.d_eq] at hg
  have hc:=ih x.args[k] (zQ hlt)
  rw [zF hlt,Tm.Ey] at hR
  simp (disch:=omega) only [go_sem,Ab,hni,hg,hc,DF,Sz,HZ]
  refine ⟨(i+1,max n (x.args[k].deep:Int)),⟨k+1,by dsimp only; omega,hlt,by dsimp only; omega⟩,by dsimp only; omega,?_⟩
  simp only [and_self]
 ·rw [zJ hge,Tm.Ey] at hR
  simp (disch:=omega) only [go_sem,Ab,hni]
  omega
theorem MM (x:Tm) (hn:x.nodes≤1099511627776):E 131 [x.sv] []=some (.int .i64 x.deep,[]) :=
 P8 x hn fun y hy=>MM y (by have:=Tm.nodes_mem hy; have:=Tm.nodes_eq x; omega)
termination_by SizeOf.sizeOf x
decreasing_by exact Tm.lt_of_mem hy
def BX:SC:=(.seq (.reg [⟨some 4,none,.mv (.c (.int .i64 0))⟩]) (.seq (.seq (.reg [⟨some 6,none,.mv (.t 0)⟩,⟨some 7,none,.len false (.t 6)⟩,⟨some 8,none,.mv (.c (.int .i64 0))⟩]) (.block 0 (.loop [1,1,0,0,0,0,0,1,1,0,0,0,0,0,0,0,0,0,0] (.seq (.reg [⟨some 9,none,.bin .lss false (.t 8) (.t 7)⟩]) (.seq (.cond (.t 9) .skip (.exit 0)) (.seq (.block 1 (.seq (.reg [⟨some 10,none,.mv (.t 8)⟩,⟨some 5,none,.mv (.t 10)⟩]) (.seq (.reg [⟨some 11,none,.mv (.t 1)⟩,⟨some 12,none,.mv (.t 0)⟩,⟨some 13,none,.mv (.t 5)⟩,⟨some 14,none,.iaddr 2 (.t 12) (.t 13)⟩,⟨some 15,none,.load true 2 (.t 14)⟩,⟨some 16,none,.callv (.t 11) [(.t 15)]⟩]) (.cond (.t 16) (.seq (.reg [⟨some 17,none,.mv (.t 5)⟩,⟨some 4,none,.mv (.t 17)⟩]) .ret) .skip)))) (.reg [⟨some 18,none,.bin .add false (.t 8) (.c (.int .i64 1))⟩,⟨some 8,none,.mv (.t 18)⟩]))))))) (.seq (.reg [⟨some 4,none,.mv (.c (.int .i64 (-(0+1))))⟩]) .ret)))
theorem CX:codeOf Try.prog 151=some ⟨19,BX,[(.tmp 4)]⟩:=by kernel_rfl
theorem BY:modes 151=⟨[],.asis,none,false⟩:=by unfold modes; rfl
def BQ:SC:=(.seq (.reg [⟨some 4,none,.mv (.c (.bool false))⟩]) (.seq (.reg [⟨some 5,none,.mv (.t 0)⟩,⟨some 6,none,.mv (.t 1)⟩,⟨some 7,none,.call 151 [(.t 5),(.t 6)]⟩,⟨some 8,none,.bin .geq false (.t 7) (.c (.int .i64 0))⟩,⟨some 4,none,.mv (.t 8)⟩]) .ret))
theorem CI:codeOf Try.prog 141=some ⟨9,BQ,[(.tmp 4)]⟩:=by kernel_rfl
theorem BR:modes 141=⟨[],.asis,none,false⟩:=by unfold modes; rfl
theorem Kn (fid:Nat) (p:Tm→Bool) (xs:List Tm) (hl:xs.length≤1099511627776) (hg:Kl Try.prog fid=true) (hm:(modes fid).hand=[]) (hE:∀ x∈xs,E fid [x.sv] []=some (.bool (p x),[])):E 151 [.arr (xs.map Tm.d),.fn fid []] []=some (.int .i64 (I3 p xs 0),[]):=by
 refine Aj CX BY (of_decide_eq_true rfl) ?_
 simp (disch:=omega) only [BX,go_sem,Ab]
 refine go_loop (α:=Int) (fun a=>⟨slots 19 0 [(0,.arr (xs.map Tm.d)),(1,.fn fid []),(7,.int .i64 xs.length),(8,.int .i64 a)],[]⟩) (fun a=>∃ k:Nat,a=k∧k≤(xs).length∧I3 p (xs.drop k) a=I3 p xs 0) (fun a=>(xs).length-(a).toNat) 0 ⟨0,rfl,zU _,by rw [zM]⟩ (by simp (disch:=omega) only [go_sem,Ab]) ?_
 rintro i ⟨k,hi,hk,hR⟩
 have hni:i.toNat=k:=by omega
 have hni1:(i+1).toNat=k+1:=by omega
 rcases zI k (xs).length with hlt | hge
 ·have hg':=get_at Tm.d hlt
  rw [Tm.d_eq] at hg'
  have hc:=hE xs[k] (zQ hlt)
  rw [zF hlt,I3] at hR
  cases hp:p xs[k] with
  | true =>
   rw [hp] at hc hR
   simp (disch:=omega) only [go_sem,Ab,hni,hg',hc,hg,hm]
   simpa using hR
  | false =>
   rw [hp] at hc hR
   simp (disch:=omega) only [go_sem,Ab,hni,hg',hc,hg,hm]
   exact ⟨i+1,⟨k+1,by omega,hlt,by simpa using hR⟩,by omega,by first | trivial | rfl⟩
 ·rw [zJ hge,I3] at hR
  simp (disch:=omega) only [go_sem,Ab,hni]
  exact hR
theorem I4 (fid:Nat) (p:Tm→Bool) (xs:List Tm) (hl:xs.length≤1099511627776) (hg:Kl Try.prog fid=true) (hm:(modes fid).hand=[]) (hE:∀ x∈xs,E fid [x.sv] []=some (.bool (p x),[])):E 141 [.arr (xs.map Tm.d),.fn fid []] []=some (.bool (xs.any p),[]):=by
 have h:=Kn fid p xs hl hg hm hE
 refine Aj CI BR (of_decide_eq_true rfl) ?_
 simp (disch:=omega) only [BQ,go_sem,Ab,h,BY]
 rw [O9]
def CJ:SC:=(.seq (.reg [⟨some 1,none,.boxv 24 2 (.t 0)⟩,⟨some 2,none,.mv (.c (.bool false))⟩]) (.seq (.seq (.reg [⟨some 3,none,.faddr 0 (.t 1)⟩,⟨some 4,none,.load false 1 (.t 3)⟩,⟨some 5,none,.call 95 [(.t 4)]⟩]) (.cond (.t 5) (.seq (.reg [⟨some 6,none,.faddr 1 (.t 1)⟩,⟨some 7,none,.load false 1 (.t 6)⟩,⟨some 8,none,.len false (.t 7)⟩,⟨some 9,none,.bin .eql false (.t 8) (.c (.int .i64 0))⟩,⟨some 2,none,.mv (.t 9)⟩]) .ret) .skip)) (.seq (.reg [⟨some 10,none,.faddr 0 (.t 1)⟩,⟨some 11,none,.load false 1 (.t 10)⟩,⟨some 12,none,.call 123 [(.t 11)]⟩,⟨some 13,none,.mv (.t 12)⟩,⟨(some 14),(some (13,true)),(.faddr 1 (.t 1))⟩,⟨(some 15),(some (13,true)),(.load false 1 (.t 14))⟩,⟨(some 16),(some (13,true)),(.len false (.t 15))⟩,⟨(some 17),(some (13,true)),(.bin .leq false (.t 16) (.c (.int .i64 4)))⟩,⟨some 18,none,.pick (.t 13) (.t 17) (.c (.bool false))⟩,⟨some 19,none,.mv (.t 18)⟩,⟨(some 20),(some (19,true)),(.faddr 1 (.t 1))⟩,⟨(some 21),(some (19,true)),(.load false 1 (.t 20))⟩,⟨(some 22),(some (19,true)),(.call 141 [(.t 21),(.c (.fn 142 []))])⟩,⟨(some 23),(some (19,true)),(.un .not (.t 22))⟩,⟨some 24,none,.pick (.t 19) (.t 23) (.c (.bool false))⟩,⟨some 2,none,.mv (.t 24)⟩]) .ret)))
theorem Dz:codeOf Try.prog 122=some ⟨25,CJ,[(.tmp 2)]⟩:=by kernel_rfl
theorem Bb:modes 122=⟨[],.asis,none,false⟩:=by unfold modes; rfl
def F5:SC:=(.seq (.reg [⟨some 1,none,.boxv 24 2 (.t 0)⟩,⟨some 2,none,.mv (.c (.bool false))⟩]) (.seq (.reg [⟨some 3,none,.load true 2 (.t 1)⟩,⟨some 4,none,.call 122 [(.t 3)]⟩,⟨some 5,none,.un .not (.t 4)⟩,⟨some 2,none,.mv (.t 5)⟩]) .ret))
theorem IX:codeOf Try.prog 142=some ⟨6,F5,[(.tmp 2)]⟩:=by kernel_rfl
theorem F6:modes 142=⟨[],.asis,none,false⟩:=by unfold modes; rfl
theorem IY:Kl Try.prog 142=true:=by kernel_rfl
theorem Tm.any_not (xs:List Tm):(!xs.any fun y=>!y.names)=Tm.Gp xs:=by
 rw [Tm.EU]
 induction xs with
 | nil=>rfl
 | cons x xs ih=>simp only [yL,yU,Bool.not_or,Bool.not_not,ih]
theorem OB (x:Tm) (hn:x.nodes≤1099511627776) (ih:∀ y∈x.args,E 122 [y.sv] []=some (.bool y.names,[])):E 122 [x.sv] []=some (.bool x.names,[]):=by
 have hl:=Tm.length_le x.args
 have hx:=Tm.nodes_eq x
 have h1:∀ y∈x.args,E 142 [y.sv] []=some (.bool (!y.names),[]):=fun y hy=>by
  have h:=ih y hy
  refine Aj IX F6 (of_decide_eq_true rfl) ?_
  simp (disch:=omega) only [F5,go_sem,Ab,h,Bb]
 have h2:=I4 142 (fun y=>!y.names) x.args (by omega) IY (by rw [F6]) h1
 rw [Tm.Dq,← Tm.any_not]
 cases hv:CU x.name with
 | true =>
  have h3:=CB x.name
  rw [hv] at h3
  refine Aj Dz Bb (of_decide_eq_true rfl) ?_
  simp (disch:=omega) only [CJ,go_sem,Ab,h3,Ae]
  rw [KT]; cases x.args <;> simp <;> omega
 | false =>
  have h3:=CB x.name
  rw [hv] at h3
  have h4:=Lp x.name
  cases hs:D4 x.name with
  | false =>
   rw [hs] at h4
   refine Aj Dz Bb (of_decide_eq_true rfl) ?_
   simp (disch:=omega) only [CJ,go_sem,Ab,h2,h3,h4,Ae,By]
  | true =>
   rw [hs] at h4
   rcases zI 4 x.args.length with h5 | h5
   ·refine Aj Dz Bb (of_decide_eq_true rfl) ?_
    simp (disch:=omega) only [CJ,go_sem,Ab,h2,h3,h4,Ae,By]
    simp; omega
   ·refine Aj Dz Bb (of_decide_eq_true rfl) ?_
    simp (disch:=omega) only [CJ,go_sem,Ab,h2,h3,h4,Ae,By,BR]
    simp [h5]
theorem G8 (x:Tm) (hn:x.nodes≤1099511627776):E 122 [x.sv] []=some (.bool x.names,[]) :=
 OB x hn fun y hy=>G8 y (by have:=Tm.nodes_mem hy; have:=Tm.nodes_eq x; omega)
termination_by SizeOf.sizeOf x
decreasing_by exact Tm.lt_of_mem hy
def CY:SC:=(.seq (.reg [⟨some 1,none,.boxv 24 2 (.t 0)⟩,⟨some 2,none,.mv (.c (.bool false))⟩]) (.seq (.seq (.reg [⟨some 4,none,.faddr 0 (.t 1)⟩,⟨some 5,none,.load false 1 (.t 4)⟩,⟨some 6,none,.call 72 [(.t 5)]⟩]) (.cond (.t 6) (.seq (.reg [⟨some 7,none,.faddr 1 (.t 1)⟩,⟨some 8,none,.load false 1 (.t 7)⟩,⟨some 9,none,.len false (.t 8)⟩,⟨some 10,none,.bin .eql false (.t 9) (.c (.int .i64 0))⟩,⟨some 2,none,.mv (.t 10)⟩]) .ret) .skip)) (.seq (.seq (.reg [⟨some 11,none,.faddr 0 (.t 1)⟩,⟨some 12,none,.load false 1 (.t 11)⟩,⟨some 13,none,.call 104 [(.t 12)]⟩,⟨some 14,none,.un .not (.t 13)⟩,⟨some 15,none,.mv (.t 14)⟩,⟨(some 16),(some (15,false)),(.faddr 1 (.t 1))⟩,⟨(some 17),(some (15,false)),(.load false 1 (.t 16))⟩,⟨(some 18),(some (15,false)),(.len false (.t 17))⟩,⟨(some 19),(some (15,false)),(.bin .gtr false (.t 18) (.c (.int .i64 4)))⟩,⟨some 20,none,.pick (.t 15) (.c (.bool true)) (.t 19)⟩]) (.cond (.t 20) (.seq (.reg [⟨some 2,none,.mv (.c (.bool false))⟩]) .ret) .skip)) (.seq (.seq (.reg [⟨some 3,none,.mv (.c (.int .i64 0))⟩]) (.block 0 (.loop [0,1,0,1,0,0,0,0,0,0,0,0,0,0,0,0,0,0,0,0,0,0,0,0,0,0,0,0,0,0,0,0,0,0,0] (.seq (.seq (.reg [⟨some 21,none,.mv (.t 3)⟩,⟨some 22,none,.faddr 1 (.t 1)⟩,⟨some 23,none,.load false 1 (.t 22)⟩,⟨some 24,none,.len false (.t 23)⟩,⟨some 25,none,.bin .lss false (.t 21) (.t 24)⟩]) (.cond (.t 25) .skip (.exit 0))) (.seq (.block 1 (.seq (.reg [⟨some 28,none,.faddr 1 (.t 1)⟩,⟨some 29,none,.load false 1 (.t 28)⟩,⟨some 30,none,.mv (.t 3)⟩,⟨some 31,none,.iaddr 2 (.t 29) (.t 30)⟩,⟨some 32,none,.load true 2 (.t 31)⟩,⟨some 33,none,.call 103 [(.t 32)]⟩,⟨some 34,none,.un .not (.t 33)⟩]) (.cond (.t 34) (.seq (.reg [⟨some 2,none,.mv (.c (.bool false))⟩]) .ret) .skip))) (.reg [⟨some 26,none,.mv (.t 3)⟩,⟨some 27,none,.bin .add false (.t 26) (.c (.int .i64 1))⟩,⟨some 3,none,.mv (.t 27)⟩])))))) (.seq (.reg [⟨some 2,none,.mv (.c (.bool true))⟩]) .ret)))))
theorem DG:codeOf Try.prog 103=some ⟨35,CY,[(.tmp 2)]⟩:=by kernel_rfl
theorem Be:modes 103=⟨[],.asis,none,false⟩:=by unfold modes; rfl
theorem P9 (x:Tm) (hn:x.nodes≤1099511627776) (ih:∀ y∈x.args,E 103 [y.sv] []=some (.bool y.names,[])):E 103 [x.sv] []=some (.bool x.names,[]):=by
 have hl:=Tm.length_le x.args
 have hx:=Tm.nodes_eq x
 have h3:=HF x.name
 have h4:=Lq x.name
 rw [Tm.Dq]
 cases hv:CU x.name with
 | true =>
  rw [hv] at h3
  refine Aj DG Be (of_decide_eq_true rfl) ?_
  simp (disch:=omega) only [CY,go_sem,Ab,h3,Am]
  rw [KT]; cases x.args <;> simp <;> omega
 | false =>
  rw [hv] at h3
  cases hs:D4 x.name with
  | false =>
   rw [hs] at h4
   refine Aj DG Be (of_decide_eq_true rfl) ?_
   simp (disch:=omega) only [CY,go_sem,Ab,h3,h4,Am,Bz]
  | true =>
   rw [hs] at h4
   rcases zI 4 x.args.length with h5 | h5
   ·refine Aj DG Be (of_decide_eq_true rfl) ?_
    simp (disch:=omega) only [CY,go_sem,Ab,h3,h4,Am,Bz]
    simp; omega
   ·refine Aj DG Be (of_decide_eq_true rfl) ?_
    simp (disch:=omega) only [CY,go_sem,Ab,h3,h4,Am,Bz]
    refine go_loop (α:=Int) (fun a=>⟨slots 35 0 [(1,.ptr 0 0),(3,.int .i64 a)],[.box 24 [.str x.name,.arr (x.args.map Tm.d)]]⟩) (fun a=>∃ k:Nat,a=k∧k≤(x.args).length∧Tm.Gp (x.args.drop k)=Tm.Gp x.args) (fun a=>(x.args).length-(a).toNat) 0 ⟨0,rfl,zU _,by rw [zM]⟩ (by simp (disch:=omega) only [go_sem,Ab]) ?_
    rintro i ⟨k,hi,hk,hR⟩
    have hni:i.toNat=k:=by omega
    have hni1:(i+1).toNat=k+1:=by omega
    rcases zI k (x.args).length with hlt | hge
    ·have hg:=get_at Tm.d hlt
     rw [Tm.d_eq] at hg
     have hc:=ih x.args[k] (zQ hlt)
     rw [zF hlt,Tm.Gp] at hR
     cases hp:x.args[k].names with
     | true =>
      rw [hp] at hc hR
      simp (disch:=omega) only [go_sem,Ab,hni,hg,hc,Be]
      exact ⟨i+1,⟨k+1,by omega,hlt,by simpa using hR⟩,by omega,by first | trivial | rfl⟩
     | false =>
      rw [hp] at hc hR
      simp (disch:=omega) only [go_sem,Ab,hni,hg,hc,Be]
      simp at hR ⊢; exact fun _=>hR
    ·rw [zJ hge,Tm.Gp] at hR
     simp (disch:=omega) only [go_sem,Ab,hni]
     simp [h5,← hR]
theorem HH (x:Tm) (hn:x.nodes≤1099511627776):E 103 [x.sv] []=some (.bool x.names,[]) :=
 P9 x hn fun y hy=>HH y (by have:=Tm.nodes_mem hy; have:=Tm.nodes_eq x; omega)
termination_by SizeOf.sizeOf x
decreasing_by exact Tm.lt_of_mem hy
def Fi:SC:=(.seq (.reg [⟨some 1,none,.boxv 24 2 (.t 0)⟩,⟨some 2,none,.mv (.c (.bool false))⟩]) (.seq (.reg [⟨some 3,none,.load true 2 (.t 1)⟩,⟨some 4,none,.call 139 [(.t 3)]⟩,⟨some 5,none,.bin .leq false (.t 4) (.c (.int .i64 30))⟩,⟨some 6,none,.mv (.t 5)⟩,⟨(some 7),(some (6,true)),(.load true 2 (.t 1))⟩,⟨(some 8),(some (6,true)),(.call 140 [(.t 7)])⟩,⟨(some 9),(some (6,true)),(.bin .leq false (.t 8) (.c (.int .i64 8)))⟩,⟨some 10,none,.pick (.t 6) (.t 9) (.c (.bool false))⟩,⟨some 2,none,.mv (.t 10)⟩]) .ret))
theorem Hm:codeOf Try.prog 121=some ⟨11,Fi,[(.tmp 2)]⟩:=by kernel_rfl
theorem B8:modes 121=⟨[],.asis,none,false⟩:=by unfold modes; rfl
def FR:SC:=(.seq (.reg [⟨some 1,none,.boxv 24 2 (.t 0)⟩,⟨some 2,none,.mv (.c (.bool false))⟩]) (.seq (.reg [⟨some 3,none,.load true 2 (.t 1)⟩,⟨some 4,none,.call 130 [(.t 3),(.c (.int .i64 30))]⟩,⟨some 5,none,.bin .leq false (.t 4) (.c (.int .i64 30))⟩,⟨some 6,none,.mv (.t 5)⟩,⟨(some 7),(some (6,true)),(.load true 2 (.t 1))⟩,⟨(some 8),(some (6,true)),(.call 131 [(.t 7)])⟩,⟨(some 9),(some (6,true)),(.bin .leq false (.t 8) (.c (.int .i64 8)))⟩,⟨some 10,none,.pick (.t 6) (.t 9) (.c (.bool false))⟩,⟨some 2,none,.mv (.t 10)⟩]) .ret))
theorem Ia:codeOf Try.prog 102=some ⟨11,FR,[(.tmp 2)]⟩:=by kernel_rfl
theorem BH:modes 102=⟨[],.asis,none,false⟩:=by unfold modes; rfl
def D5:SC:=(.seq (.reg [⟨some 1,none,.boxv 24 2 (.t 0)⟩,⟨some 2,none,.mv (.c (.bool false))⟩]) (.seq (.reg [⟨some 3,none,.load true 2 (.t 1)⟩,⟨some 4,none,.call 121 [(.t 3)]⟩,⟨some 5,none,.mv (.t 4)⟩,⟨(some 6),(some (5,true)),(.load true 2 (.t 1))⟩,⟨(some 7),(some (5,true)),(.call 122 [(.t 6)])⟩,⟨some 8,none,.pick (.t 5) (.t 7) (.c (.bool false))⟩,⟨some 2,none,.mv (.t 8)⟩]) .ret))
theorem Fj:codeOf Try.prog 124=some ⟨9,D5,[(.tmp 2)]⟩:=by kernel_rfl
theorem Bw:modes 124=⟨[],.asis,none,false⟩:=by unfold modes; rfl
def FS:SC:=(.seq (.reg [⟨some 1,none,.boxv 24 2 (.t 0)⟩,⟨some 2,none,.mv (.c (.bool false))⟩]) (.seq (.reg [⟨some 3,none,.load true 2 (.t 1)⟩,⟨some 4,none,.call 102 [(.t 3)]⟩,⟨some 5,none,.mv (.t 4)⟩,⟨(some 6),(some (5,true)),(.load true 2 (.t 1))⟩,⟨(some 7),(some (5,true)),(.call 103 [(.t 6)])⟩,⟨some 8,none,.pick (.t 5) (.t 7) (.c (.bool false))⟩,⟨some 2,none,.mv (.t 8)⟩]) .ret))
theorem Ib:codeOf Try.prog 105=some ⟨9,FS,[(.tmp 2)]⟩:=by kernel_rfl
theorem Cg:modes 105=⟨[],.asis,none,false⟩:=by unfold modes; rfl
def F7:SC:=(.seq (.reg [⟨some 1,none,.boxv 24 2 (.t 0)⟩,⟨some 2,none,.mv (.c (.bool false))⟩]) (.seq (.reg [⟨some 3,none,.faddr 0 (.t 1)⟩,⟨some 4,none,.load false 1 (.t 3)⟩,⟨(some 5),none,(.bin .eql false (.t 4) (.c (.str ⟨#[61]⟩)))⟩,⟨some 2,none,.mv (.t 5)⟩]) .ret))
theorem IZ:codeOf Try.prog 64=some ⟨6,F7,[(.tmp 2)]⟩:=by kernel_rfl
theorem A6:modes 64=⟨[],.asis,none,false⟩:=by unfold modes; rfl
def BB:SC:=(.seq (.reg [⟨some 1,none,.boxv 24 2 (.t 0)⟩,⟨some 2,none,.mv (.c (.bool false))⟩]) (.seq (.seq (.reg [⟨some 3,none,.load true 2 (.t 1)⟩,⟨some 4,none,.call 64 [(.t 3)]⟩]) (.cond (.t 4) (.seq (.reg [⟨some 5,none,.faddr 1 (.t 1)⟩,⟨some 6,none,.load false 1 (.t 5)⟩,⟨some 7,none,.len false (.t 6)⟩,⟨some 8,none,.bin .eql false (.t 7) (.c (.int .i64 2))⟩,⟨some 9,none,.mv (.t 8)⟩,⟨(some 10),(some (9,true)),(.load true 2 (.t 1))⟩,⟨(some 11),(some (9,true)),(.call 121 [(.t 10)])⟩,⟨some 12,none,.pick (.t 9) (.t 11) (.c (.bool false))⟩,⟨some 13,none,.mv (.t 12)⟩,⟨(some 14),(some (13,true)),(.faddr 1 (.t 1))⟩,⟨(some 15),(some (13,true)),(.load false 1 (.t 14))⟩,⟨(some 16),(some (13,true)),(.iaddr 2 (.t 15) (.c (.int .i64 0)))⟩,⟨(some 17),(some (13,true)),(.load true 2 (.t 16))⟩,⟨(some 18),(some (13,true)),(.call 122 [(.t 17)])⟩,⟨some 19,none,.pick (.t 13) (.t 18) (.c (.bool false))⟩,⟨some 20,none,.mv (.t 19)⟩,⟨(some 21),(some (20,true)),(.faddr 1 (.t 1))⟩,⟨(some 22),(some (20,true)),(.load false 1 (.t 21))⟩,⟨(some 23),(some (20,true)),(.iaddr 2 (.t 22) (.c (.int .i64 1)))⟩,⟨(some 24),(some (20,true)),(.load true 2 (.t 23))⟩,⟨(some 25),(some (20,true)),(.call 122 [(.t 24)])⟩,⟨some 26,none,.pick (.t 20) (.t 25) (.c (.bool false))⟩,⟨some 2,none,.mv (.t 26)⟩]) .ret) .skip)) (.seq (.reg [⟨some 27,none,.faddr 0 (.t 1)⟩,⟨some 28,none,.load false 1 (.t 27)⟩,⟨some 29,none,.call 123 [(.t 28)]⟩,⟨some 30,none,.mv (.t 29)⟩,⟨(some 31),(some (30,true)),(.load true 2 (.t 1))⟩,⟨(some 32),(some (30,true)),(.call 124 [(.t 31)])⟩,⟨some 33,none,.pick (.t 30) (.t 32) (.c (.bool false))⟩,⟨some 2,none,.mv (.t 33)⟩]) .ret)))
theorem BS:codeOf Try.prog 96=some ⟨34,BB,[(.tmp 2)]⟩:=by kernel_rfl
theorem Ad:modes 96=⟨[],.asis,none,false⟩:=by unfold modes; rfl
def Cz:SC:=(.seq (.reg [⟨some 1,none,.boxv 24 2 (.t 0)⟩,⟨some 2,none,.mv (.c (.bool false))⟩]) (.seq (.seq (.reg [⟨some 3,none,.faddr 0 (.t 1)⟩,⟨some 4,none,.load false 1 (.t 3)⟩,⟨(some 5),none,(.bin .eql false (.t 4) (.c (.str ⟨#[61]⟩)))⟩]) (.cond (.t 5) (.seq (.reg [⟨some 6,none,.faddr 1 (.t 1)⟩,⟨some 7,none,.load false 1 (.t 6)⟩,⟨some 8,none,.len false (.t 7)⟩,⟨some 9,none,.bin .eql false (.t 8) (.c (.int .i64 2))⟩,⟨some 10,none,.mv (.t 9)⟩,⟨(some 11),(some (10,true)),(.load true 2 (.t 1))⟩,⟨(some 12),(some (10,true)),(.call 102 [(.t 11)])⟩,⟨some 13,none,.pick (.t 10) (.t 12) (.c (.bool false))⟩,⟨some 14,none,.mv (.t 13)⟩,⟨(some 15),(some (14,true)),(.faddr 1 (.t 1))⟩,⟨(some 16),(some (14,true)),(.load false 1 (.t 15))⟩,⟨(some 17),(some (14,true)),(.iaddr 2 (.t 16) (.c (.int .i64 0)))⟩,⟨(some 18),(some (14,true)),(.load true 2 (.t 17))⟩,⟨(some 19),(some (14,true)),(.call 103 [(.t 18)])⟩,⟨some 20,none,.pick (.t 14) (.t 19) (.c (.bool false))⟩,⟨some 21,none,.mv (.t 20)⟩,⟨(some 22),(some (21,true)),(.faddr 1 (.t 1))⟩,⟨(some 23),(some (21,true)),(.load false 1 (.t 22))⟩,⟨(some 24),(some (21,true)),(.iaddr 2 (.t 23) (.c (.int .i64 1)))⟩,⟨(some 25),(some (21,true)),(.load true 2 (.t 24))⟩,⟨(some 26),(some (21,true)),(.call 103 [(.t 25)])⟩,⟨some 27,none,.pick (.t 21) (.t 26) (.c (.bool false))⟩,⟨some 2,none,.mv (.t 27)⟩]) .ret) .skip)) (.seq (.reg [⟨some 28,none,.faddr 0 (.t 1)⟩,⟨some 29,none,.load false 1 (.t 28)⟩,⟨some 30,none,.call 104 [(.t 29)]⟩,⟨some 31,none,.mv (.t 30)⟩,⟨(some 32),(some (31,true)),(.load true 2 (.t 1))⟩,⟨(some 33),(some (31,true)),(.call 105 [(.t 32)])⟩,⟨some 34,none,.pick (.t 31) (.t 33) (.c (.bool false))⟩,⟨some 2,none,.mv (.t 34)⟩]) .ret)))
theorem CN:codeOf Try.prog 70=some ⟨35,Cz,[(.tmp 2)]⟩:=by kernel_rfl
theorem Ai:modes 70=⟨[],.asis,none,false⟩:=by unfold modes; rfl
theorem MN (x:Tm) (hn:x.nodes≤1099511627776):E 121 [x.sv] []=some (.bool x.small,[]):=by
 have h1:=Sx x hn
 have h2:=Qu x hn
 have h3:=Tm.cap_spec x
 have h4:=Tm.many_spec x 30
 unfold Tm.small
 rcases zI 30 x.nodes with h5 | h5
 ·rw [decide_eq_false (by omega),zB]
  refine Aj Hm B8 (of_decide_eq_true rfl) ?_
  simp (disch:=omega) only [Fi,go_sem,Ab,h1,h2,Ez,EK]
 ·rw [decide_eq_true h5,zD]
  refine Aj Hm B8 (of_decide_eq_true rfl) ?_
  simp (disch:=omega) only [Fi,go_sem,Ab,h1,h2,Ez,EK]
  rcases zI 8 x.deep with h6 | h6
  ·rw [decide_eq_false (by omega),An (by omega)]
  ·rw [decide_eq_true h6,A1 (by omega)]
theorem OC (x:Tm) (hn:x.nodes≤1099511627776):E 102 [x.sv] []=some (.bool x.small,[]):=by
 have h1:=Sy x 30 (by omega) (by omega) hn
 have h2:=MM x hn
 have h3:=Tm.cap_spec x
 have h4:=Tm.many_spec x 30
 unfold Tm.small
 rcases zI 30 x.nodes with h5 | h5
 ·rw [decide_eq_false (by omega),zB]
  refine Aj Ia BH (of_decide_eq_true rfl) ?_
  simp (disch:=omega) only [FR,go_sem,Ab,h1,h2,Dr,DF]
 ·rw [decide_eq_true h5,zD]
  refine Aj Ia BH (of_decide_eq_true rfl) ?_
  simp (disch:=omega) only [FR,go_sem,Ab,h1,h2,Dr,DF]
  rcases zI 8 x.deep with h6 | h6
  ·rw [decide_eq_false (by omega),An (by omega)]
  ·rw [decide_eq_true h6,A1 (by omega)]
theorem LP (x:Tm) (hn:x.nodes≤1099511627776):E 124 [x.sv] []=some (.bool x.valid,[]):=by
 have h1:=MN x hn
 have h2:=G8 x hn
 unfold Tm.valid
 cases h3:x.small <;> rw [h3] at h1
 ·refine Aj Fj Bw (of_decide_eq_true rfl) ?_
  simp (disch:=omega) only [D5,go_sem,Ab,h1,h2,B8,Bb]
 ·refine Aj Fj Bw (of_decide_eq_true rfl) ?_
  simp (disch:=omega) only [D5,go_sem,Ab,h1,h2,B8,Bb]
theorem S2 (x:Tm) (hn:x.nodes≤1099511627776):E 105 [x.sv] []=some (.bool x.valid,[]):=by
 have h1:=OC x hn
 have h2:=HH x hn
 unfold Tm.valid
 cases h3:x.small <;> rw [h3] at h1
 ·refine Aj Ib Cg (of_decide_eq_true rfl) ?_
  simp (disch:=omega) only [FS,go_sem,Ab,h1,h2,BH,Be]
 ·refine Aj Ib Cg (of_decide_eq_true rfl) ?_
  simp (disch:=omega) only [FS,go_sem,Ab,h1,h2,BH,Be]
theorem DH (x:Tm):E 64 [x.sv] []=some (.bool x.eqn,[]):=by
 unfold Tm.eqn
 refine Aj IZ A6 (of_decide_eq_true rfl) ?_
 simp (disch:=omega) only [F7,go_sem,Ab]
theorem LQ (x:Tm) (hn:x.nodes≤1099511627776):E 96 [x.sv] []=some (.bool x.atom,[]):=by
 have hl:=Tm.length_le x.args
 have hx:=Tm.nodes_eq x
 have h0:=DH x
 have h1:=MN x hn
 have h2:=Lp x.name
 have h3:=LP x hn
 have hE:dec (x.name=⟨#[61]⟩)=x.eqn:=rfl
 unfold Tm.atom
 cases he:x.eqn <;> rw [he] at h0 hE
 ·rw [if_neg (by simp)]
  cases hs:D4 x.name <;> rw [hs] at h2
  ·refine Aj BS Ad (of_decide_eq_true rfl) ?_
   simp (disch:=omega) only [BB,go_sem,Ab,h0,h1,h2,h3,hE,B8,Bb,By,Bw,A6]
  ·refine Aj BS Ad (of_decide_eq_true rfl) ?_
   simp (disch:=omega) only [BB,go_sem,Ab,h0,h1,h2,h3,hE,B8,Bb,By,Bw,A6]
 ·rw [if_pos rfl]
  by_cases hc:x.args.length=2
  ·have hlt0:0<x.args.length:=by omega
   have hlt1:1<x.args.length:=by omega
   have hg0:=get_at Tm.d hlt0
   have hg1:=get_at Tm.d hlt1
   rw [Tm.d_eq] at hg0 hg1
   have hb0:=Tm.nodes_le x.args 0 hlt0
   have hb1:=Tm.nodes_le x.args 1 hlt1
   have hn0:=G8 x.args[0] (by omega)
   have hn1:=G8 x.args[1] (by omega)
   rw [ML hc,show (x.args.length == 2)=true by simpa using hc]
   cases hs:x.small <;> rw [hs] at h1
   ·refine Aj BS Ad (of_decide_eq_true rfl) ?_
    simp (disch:=omega) only [BB,go_sem,Ab,h0,h1,h2,h3,hE,hg0,hg1,hn0,hn1,hc,B8,Bb,By,Bw,A6]
    try simp
   ·cases hq:(x.args[0]'hlt0).names <;> rw [hq] at hn0
    ·refine Aj BS Ad (of_decide_eq_true rfl) ?_
     simp (disch:=omega) only [BB,go_sem,Ab,h0,h1,h2,h3,hE,hg0,hg1,hn0,hn1,hc,B8,Bb,By,Bw,A6]
     try simp
    ·refine Aj BS Ad (of_decide_eq_true rfl) ?_
     simp (disch:=omega) only [BB,go_sem,Ab,h0,h1,h2,h3,hE,hg0,hg1,hn0,hn1,hc,B8,Bb,By,Bw,A6]
     try simp
  ·refine Aj BS Ad (of_decide_eq_true rfl) ?_
   simp (disch:=omega) only [BB,go_sem,Ab,h0,h1,h2,h3,hE,B8,Bb,By,Bw,A6]
   rw [show (x.args.length == 2)=false by simpa using hc]
   try simp
theorem S3 (x:Tm) (hn:x.nodes≤1099511627776):E 70 [x.sv] []=some (.bool x.atom,[]):=by
 have hl:=Tm.length_le x.args
 have hx:=Tm.nodes_eq x
 have h0:=DH x
 have h1:=OC x hn
 have h2:=Lq x.name
 have h3:=S2 x hn
 have hE:dec (x.name=⟨#[61]⟩)=x.eqn:=rfl
 unfold Tm.atom
 cases he:x.eqn <;> rw [he] at h0 hE
 ·rw [if_neg (by simp)]
  cases hs:D4 x.name <;> rw [hs] at h2
  ·refine Aj CN Ai (of_decide_eq_true rfl) ?_
   simp (disch:=omega) only [Cz,go_sem,Ab,h0,h1,h2,h3,hE,BH,Be,Bz,Cg]
  ·refine Aj CN Ai (of_decide_eq_true rfl) ?_
   simp (disch:=omega) only [Cz,go_sem,Ab,h0,h1,h2,h3,hE,BH,Be,Bz,Cg]
 ·rw [if_pos rfl]
  by_cases hc:x.args.length=2
  ·have hlt0:0<x.args.length:=by omega
   have hlt1:1<x.args.length:=by omega
   have hg0:=get_at Tm.d hlt0
   have hg1:=get_at Tm.d hlt1
   rw [Tm.d_eq] at hg0 hg1
   have hb0:=Tm.nodes_le x.args 0 hlt0
   have hb1:=Tm.nodes_le x.args 1 hlt1
   have hn0:=HH x.args[0] (by omega)
   have hn1:=HH x.args[1] (by omega)
   rw [ML hc,show (x.args.length == 2)=true by simpa using hc]
   cases hs:x.small <;> rw [hs] at h1
   ·refine Aj CN Ai (of_decide_eq_true rfl) ?_
    simp (disch:=omega) only [Cz,go_sem,Ab,h0,h1,h2,h3,hE,hg0,hg1,hn0,hn1,hc,BH,Be,Bz,Cg]
    try simp
   ·cases hq:(x.args[0]'hlt0).names <;> rw [hq] at hn0
    ·refine Aj CN Ai (of_decide_eq_true rfl) ?_
     simp (disch:=omega) only [Cz,go_sem,Ab,h0,h1,h2,h3,hE,hg0,hg1,hn0,hn1,hc,BH,Be,Bz,Cg]
     try simp
    ·refine Aj CN Ai (of_decide_eq_true rfl) ?_
     simp (disch:=omega) only [Cz,go_sem,Ab,h0,h1,h2,h3,hE,hg0,hg1,hn0,hn1,hc,BH,Be,Bz,Cg]
     try simp
  ·refine Aj CN Ai (of_decide_eq_true rfl) ?_
   simp (disch:=omega) only [Cz,go_sem,Ab,h0,h1,h2,h3,hE,BH,Be,Bz,Cg]
   rw [show (x.args.length == 2)=false by simpa using hc]
   try simp
noncomputable def Tm.expr (x:Tm):Bool:=x.valid || x.atom
theorem Tm.PA {x:Tm} (h:x.expr=true):x.small=true:=by
 unfold Tm.expr Tm.atom Tm.valid at h
 cases hs:x.small with
 | true=>rfl
 | false =>
  rw [hs] at h
  split at h <;> simp at h
theorem Tm.Lu {x:Tm} (h:x.expr=true):x.nodes≤30:=by
 have:=Tm.PA h
 unfold Tm.small at this
 rw [zA,decide_eq_true_eq] at this
 exact this.1
theorem Tm.TZ {x:Tm} (h:x.eqn=true):CU x.name=false:=by
 unfold Tm.eqn at h
 rw [At.1 h]
 kernel_rfl
theorem CO {s:ByteArray} (h:CU s=true):s.size≤6:=by
 unfold CU inB at h
 simp at h
 omega
theorem HI {s:ByteArray} (h:D4 s=true):s.size≤6:=by
 unfold D4 inB at h
 simp at h
 omega
theorem Tm.I5:∀ xs:List Tm,(∀ x∈xs,x.bulk+1≤8*x.nodes)→xs.length+Tm.sumB xs≤8*Tm.nodeS xs
 | [],_=>by simp [Tm.nodeS,Tm.sumB]
 | x :: xs,h=>by
  have h1:=h x (by simp)
  have h2:=Tm.I5 xs fun y hy=>h y (by simp [hy])
  rw [Tm.nodeS,Tm.sumB]; simp only [zL]; omega
theorem Tm.Lv (x:Tm) (h:x.names=true):x.bulk+1≤8*x.nodes:=by
 have h1:=Tm.I5 x.args fun y hy=>Tm.Lv y (Tm.Ei h hy)
 have h2:x.name.size≤6:=by
  rw [Tm.Dq] at h
  split at h
  ·rename_i hv; exact CO hv
  ·rw [zA,zA] at h; exact HI h.1.1
 rw [Tm.nodes_eq,Tm.bulk_eq]
 omega
termination_by SizeOf.sizeOf x
decreasing_by exact Tm.lt_of_mem hy
theorem MO (c:List UInt8):∀ xs:List (List UInt8),Lib.join xs c=C2 c xs
 | []=>rfl
 | [x]=>by rw [Lib.join_one]; rfl
 | x :: y :: r=>by
  have h:=MO c (y :: r)
  rw [C2,← h,Lib.join_cons,Lib.join_cons]
  simp only [Lib.joinTail,zC,List.flatten_cons,zN]
def OD:List (List UInt8)→Nat
 | []=>0
 | x :: r=>x.length+1+OD r
theorem MP (c:UInt8):∀ xs:List (List UInt8),(C2 [c] xs).length≤OD xs
 | []=>by simp [C2,OD]
 | [x]=>by simp [C2,OD]
 | x :: y :: r=>by
  have h:=MP c (y :: r)
  rw [C2,OD]
  simp only [zR,zL,zV]
  omega
theorem Tm.MQ:∀ xs:List Tm,(∀ x∈xs,x.fmt.length+1≤10*x.nodes)→OD (Tm.FQ xs)≤10*Tm.nodeS xs
 | [],_=>by simp [Tm.FQ,OD]
 | x :: xs,h=>by
  have h1:=h x (by simp)
  have h2:=Tm.MQ xs fun y hy=>h y (by simp [hy])
  rw [Tm.FQ,OD,Tm.nodeS]; omega
theorem Tm.fmt_len (x:Tm) (hx:x.names=true):x.fmt.length+1≤10*x.nodes:=by
 have h:=Tm.MQ x.args fun y hy=>Tm.fmt_len y (Tm.Ei hx hy)
 have h2:x.name.size≤6:=by
  rw [Tm.Dq] at hx
  split at hx
  ·rename_i hv; exact CO hv
  ·rw [zA,zA] at hx; exact HI hx.1.1
 have h3:=MP 44 (Tm.FQ x.args)
 rw [Tm.Hj,Tm.nodes_eq,zR,AK]
 split
 ·simp only [zV]; omega
 ·simp only [zR,zL,zV]; omega
termination_by SizeOf.sizeOf x
decreasing_by exact Tm.lt_of_mem hy
def Tm.txt (x:Tm):ByteArray:=⟨x.fmt.toArray⟩
theorem Tm.txt_toList (x:Tm):x.txt.toList=x.fmt:=by
 rw [ByteArray.toList_eq]; unfold Tm.txt; simp
theorem Tm.txt_size (x:Tm):x.txt.size=x.fmt.length:=by rw [←AK,Tm.txt_toList]
theorem AR (a b:ByteArray):(a++b).toList=a.toList++b.toList:=by
 rw [ByteArray.toList_eq,ByteArray.toList_eq,ByteArray.toList_eq]
 simp
theorem Tm.S4 {x:Tm} (h:x.args=[]):x.txt=x.name:=by
 refine AU ?_
 rw [Tm.txt_toList,Tm.Hj,h]
 simp
theorem Tm.S5 (xs:List Tm):GF (xs.map Tm.txt) ⟨#[44]⟩=⟨(C2 [44] (Tm.FQ xs)).toArray⟩:=by
 unfold GF
 rw [MO,yE,Tm.Lr]
 have e:((fun x:ByteArray=>x.data.toList) ∘ Tm.txt)=Tm.fmt:=by
  funext x
  show x.txt.data.toList=x.fmt
  rw [←ByteArray.toList_eq,Tm.txt_toList]
 rw [e]
theorem Bi (l:List UInt8):(⟨l.toArray⟩:ByteArray).toList=l:=by rw [ByteArray.toList_eq]
theorem Tm.S6 {x:Tm} (h:x.args.length≠0):x.name++⟨#[40]⟩++GF (x.args.map Tm.txt) ⟨#[44]⟩++⟨#[41]⟩=x.txt:=by
 refine AU ?_
 rw [Tm.txt_toList,Tm.Hj,if_neg h,AR,AR,AR,Tm.S5,Bi (C2 [44] (Tm.FQ x.args))]
 have e1:(⟨#[40]⟩:ByteArray).toList=[40]:=by rw [ByteArray.toList_eq]
 have e2:(⟨#[41]⟩:ByteArray).toList=[41]:=by rw [ByteArray.toList_eq]
 rw [e1,e2]
 simp only [zN]
theorem Tm.MR {x:Tm} (h:x.names=true):x.eqn=false:=by
 cases he:x.eqn with
 | false=>rfl
 | true =>
  have hv:=Tm.TZ he
  rw [Tm.Dq,if_neg (by rw [hv]; simp),zA,zA] at h
  unfold Tm.eqn at he
  rw [At.1 he] at h
  have:D4 ⟨#[61]⟩=false:=by kernel_rfl
  rw [this] at h
  simp at h
def wdN (n:ByteArray):Prop:=n.toList≠[]∧∀ c∈n.toList,Bt (c.toNat:Int)=true
theorem Cs {c:Int} (h:N2 c=true):Bt c=true:=by
 unfold N2 at h
 rw [zA,decide_eq_true_eq,decide_eq_true_eq] at h
 unfold Bt
 rw [A1 h.1,A1 h.2]; rfl
theorem QY {c:Int} (h:Pz c=true):Bt c=true:=by
 unfold Pz at h
 rw [zA,decide_eq_true_eq,decide_eq_true_eq] at h
 unfold Bt
 rw [A1 h.1,A1 h.2]; simp
theorem MS {c:Int} (h:QI c=true):Bt c=true:=by
 unfold QI at h
 rw [zA,decide_eq_true_eq,decide_eq_true_eq] at h
 unfold Bt
 rw [A1 h.1,A1 h.2]; simp
theorem S7:Bt 95=true:=by unfold Bt; rw [A1 (rfl:(95:Int)=95)]; simp
theorem S8 {n:ByteArray} {p:Nat→Int→Bool} (h1:DU p n n.size=true) (h2:1≤n.size) (h3:∀ j c,p j c=true→Bt c=true):wdN n:=by
 refine ⟨fun e=>?_,fun c hc=>?_⟩
 ·have:=AK n
  rw [e] at this
  simp at this; omega
 ·obtain ⟨j,hj,rfl⟩:=yH hc
  have hj':j<n.size:=by rw [←AK]; exact hj
  unfold DU at h1
  rw [zY] at h1
  have h:=h3 j _ (h1 j (List.mem_range.2 hj'))
  unfold Ll at h
  rw [List.getD_eq_getElem?_getD,yK hj,yM] at h
  exact h
theorem Ja {n:ByteArray} (h:CU n=true):wdN n:=by
 unfold CU inB at h
 rw [zA,zA,decide_eq_true_eq,decide_eq_true_eq] at h
 refine S8 h.1 (by omega) fun j c hc=>?_
 unfold HW Fg at hc
 rw [zA,zS,zS,zS] at hc
 rcases hc.2 with h2 | h2 | h2
 ·have hj:j=0:=by simpa using h2
  subst hj
  rcases hc.1 with h1 | h1
  ·simp at h1
  ·exact QY h1
 ·exact Cs h2
 ·exact MS h2
theorem Ua {n:ByteArray} (h:D4 n=true):wdN n:=by
 unfold D4 inB at h
 rw [zA,zA,zA,decide_eq_true_eq,decide_eq_true_eq] at h
 refine S8 h.1.1 (by omega) fun j c hc=>?_
 unfold HV Fg at hc
 rw [zA,zS,zS,zS] at hc
 rcases hc.2 with (h2 | h2) | h2
 ·exact Cs h2
 ·exact MS h2
 ·have:c=95:=by simpa using h2
  subst this
  exact S7
theorem Tm.wd {x:Tm} (h:x.names=true):wdN x.name:=by
 rw [Tm.Dq] at h
 split at h
 ·rename_i hv; exact Ja hv
 ·rw [zA,zA] at h; exact Ua h.1.1
theorem BT {s:ByteArray} {a b:Nat} (k:b≤s.size):(seg s a b).length=b-a:=by
 unfold seg
 rw [yF,yN,AK]; omega
theorem AV {s:ByteArray} {i e:Nat} {A B:List UInt8} (h:seg s i e=A++B) (he:e≤s.size) (hi:i≤e):i+A.length≤e∧seg s i (i+A.length)=A∧seg s (i+A.length) e=B:=by
 have hl:=congrArg yJ h
 rw [BT he,zR] at hl
 have hk:i+A.length≤e:=by omega
 refine ⟨hk,?_⟩
 rw [HG (show i≤i+A.length by omega) hk] at h
 have:=List.append_inj h (by rw [BT (by omega)]; omega)
 exact this
theorem Ax {s:ByteArray} {i e:Nat} {c:UInt8} {B:List UInt8} (h:seg s i e=c :: B) (he:e≤s.size):i<e∧Ay s i=(c.toNat:Int)∧seg s (i+1) e=B:=by
 have hl:=congrArg yJ h
 rw [BT he,zL] at hl
 have hi:i<e:=by omega
 obtain ⟨h1,h2,h3⟩:=AV (A:=[c]) (B:=B) h he (by omega)
 refine ⟨hi,?_,h3⟩
 have hlt:i<s.size:=by omega
 have hl2:i<s.toList.length:=by rw [AK]; exact hlt
 have h2:seg s i (i+1)=[c]:=h2
 unfold seg at h2
 rw [zF hl2,show i+1-i=1 by omega,yD,yI] at h2
 rw [FP hlt]
 simp only [yR,and_true] at h2
 rw [h2]
def PB (s:ByteArray) (e:Nat):Prop:=e=s.size∨(e<s.size∧Bt (Ay s e)=false∧¬ Ay s e=40)
theorem E0 {s:ByteArray}:∀ (l:List UInt8) (i w:Nat),seg s i w=l→i≤w→w≤s.size→(∀ c∈l,Bt (c.toNat:Int)=true)→¬ (w<s.size∧Bt (Ay s w)=true)→A3 s i=w
 | [],i,w,h,hi,hw,_,hs=>by
  have hl:=congrArg yJ h
  rw [BT hw] at hl
  obtain rfl:i=w:=by simp at hl; omega
  exact CM hs
 | c :: l,i,w,h,hi,hw,ha,hs=>by
  obtain ⟨h1,h2,h3⟩:=Ax h hw
  rw [Gr (by omega) (by rw [h2]; exact ha c (by simp))]
  exact E0 l (i+1) w h3 (by omega) hw (fun c hc=>ha c (by simp [hc])) hs
theorem CK {c:Int} (h:c=40∨c=41∨c=44∨c=32):Bt c=false:=by
 unfold Bt
 have a1:¬ 97≤c:=by omega
 have a2:¬ 65≤c:=by omega
 have a3:¬ 48≤c:=by omega
 have a4:¬ c=95:=by omega
 rw [An a1,An a2,An a3,An a4]; rfl
theorem OE {s:ByteArray} {n:Nat}:∀ (ts:List Tm) (m i e:Nat),ts≠[]→(∀ t∈ts,∀ i e,e≤s.size→i≤e→seg s i e=t.fmt→PB s e→s.size-i<n→rd s n i=some (t,e))→e≤s.size→i≤e→seg s i e=C2 [44] (Tm.FQ ts)++[41]→s.size-i<m→s.size-i<n→rdL (rd s n) s m i=some (ts,e)
 | [],_,_,_,h,_,_,_,_,_,_=>absurd rfl h
 | [t],m,i,e,_,ih,he,hi,h,hm,hn=>by
  obtain ⟨m,rfl⟩:∃ m',m=m'+1:=⟨m-1,by omega⟩
  have h:seg s i e=t.fmt++[41]:=h
  obtain ⟨h1,h2,h3⟩:=AV h he hi
  obtain ⟨g1,g2,g3⟩:=Ax h3 he
  have hl:=congrArg yJ g3
  rw [BT he] at hl
  have hl:e-(i+t.fmt.length+1)=0:=hl
  have ht:=ih t (by simp) i (i+t.fmt.length) (by omega) (by omega) h2 (.inr ⟨by omega,CK (.inr (.inl g2)),by rw [g2]; decide⟩) hn
  rw [rdL,ht]
  have a1:Ci s (i+t.fmt.length) 44=false:=by
   cases hq:Ci s (i+t.fmt.length) 44 with
   | false=>rfl
   | true=>have:=(Bp.1 hq).2; rw [g2] at this; exact absurd this (by decide)
  have a2:Ci s (i+t.fmt.length) 41=true:=Bp.2 ⟨by omega,g2⟩
  simp only [a1,a2,cond_false,cond_true]
  have:i+t.fmt.length+1=e:=by omega
  rw [this]
 | t :: t2 :: r,m,i,e,_,ih,he,hi,h,hm,hn=>by
  obtain ⟨m,rfl⟩:∃ m',m=m'+1:=⟨m-1,by omega⟩
  have h:seg s i e=t.fmt++[44]++C2 [44] (Tm.FQ (t2 :: r))++[41]:=h
  rw [zN,zN] at h
  obtain ⟨h1,h2,h3⟩:=AV h he hi
  obtain ⟨g1,g2,g3⟩:=Ax h3 he
  have ht:=ih t (by simp) i (i+t.fmt.length) (by omega) (by omega) h2 (.inr ⟨by omega,CK (.inr (.inr (.inl g2))),by rw [g2]; decide⟩) hn
  have hr:=OE (t2 :: r) m (i+t.fmt.length+1) e (by simp) (fun t ht=>ih t (by simp [ht])) he (by omega) g3 (by omega) (by omega)
  rw [rdL,ht]
  have a1:Ci s (i+t.fmt.length) 44=true:=Bp.2 ⟨by omega,g2⟩
  simp only [a1,cond_true,hr]
theorem K4 {s:ByteArray} (t:Tm) (ht:t.names=true) (n i e:Nat) (he:e≤s.size) (hi:i≤e) (h:seg s i e=t.fmt) (hs:PB s e) (hn:s.size-i<n):rd s n i=some (t,e):=by
 obtain ⟨n,rfl⟩:∃ n',n=n'+1:=⟨n-1,by omega⟩
 obtain ⟨w1,w2⟩:=Tm.wd ht
 rw [Tm.Hj] at h
 obtain ⟨h1,h2,h3⟩:=AV h he hi
 have hex:s.extract i (i+t.name.toList.length)=t.name:=AU (by rw [toList_extract,h2])
 have hpos:0<t.name.toList.length:=List.length_pos_iff.2 w1
 rcases Nat.eq_zero_or_pos t.args.length with h0 | h0
 ·rw [if_pos h0] at h3
  have hl:=congrArg yJ h3
  rw [BT he] at hl
  have hl:e-(i+t.name.toList.length)=0:=hl
  have hw:A3 s i=i+t.name.toList.length:=E0 t.name.toList i _ h2 (by omega) (by omega) w2 fun ⟨k1,k2⟩=>by
   have e1:i+t.name.toList.length=e:=by omega
   rw [e1] at k1 k2
   rcases hs with hs | ⟨_,hs,_⟩
   ·omega
   ·rw [hs] at k2; cases k2
  have e1:i+t.name.toList.length=e:=by omega
  have hc:Ci s (i+t.name.toList.length) 40=false:=by
   cases hq:Ci s (i+t.name.toList.length) 40 with
   | false=>rfl
   | true =>
    obtain ⟨k1,k2⟩:=Bp.1 hq
    rw [e1] at k1 k2
    rcases hs with hs | ⟨_,_,hs⟩
    ·omega
    ·exact absurd k2 hs
  have hargs:t.args=[]:=zO h0
  rw [rd,hw,An (by omega),cond_false,hc,cond_false,hex,e1]
  obtain ⟨nm,us⟩:=t
  have hargs:us=[]:=hargs
  subst hargs
  rfl
 ·rw [if_neg (by omega),zN] at h3
  obtain ⟨g1,g2,g3⟩:=Ax h3 he
  have hw:A3 s i=i+t.name.toList.length:=E0 t.name.toList i _ h2 (by omega) (by omega) w2 fun ⟨_,k2⟩=>by
   rw [CK (.inl g2)] at k2; cases k2
  have hc:Ci s (i+t.name.toList.length) 40=true:=Bp.2 ⟨by omega,g2⟩
  have hne:t.args≠[]:=fun h=>by rw [h] at h0; simp at h0
  have hr:=OE (s:=s) (n:=n) t.args n (i+t.name.toList.length+1) e hne (fun y hy i e a b c d f=>K4 y (Tm.Ei ht hy) n i e a b c d f) he (by omega) g3 (by omega) (by omega)
  rw [rd,hw,An (by omega),cond_false,hc,cond_true,hr,hex]
  obtain ⟨nm,us⟩:=t
  rfl
termination_by SizeOf.sizeOf t
decreasing_by exact Tm.lt_of_mem hy
def Fk:SC:=(.seq (.reg [⟨some 2,none,.mv (.c (.bool false))⟩]) (.seq (.reg [⟨some 3,none,.mv (.t 0)⟩,⟨some 4,none,.bin .geq false (.t 3) (.c (.int .u8 97))⟩,⟨some 5,none,.mv (.t 4)⟩,⟨(some 6),(some (5,true)),(.mv (.t 0))⟩,⟨(some 7),(some (5,true)),(.bin .leq false (.t 6) (.c (.int .u8 122)))⟩,⟨some 8,none,.pick (.t 5) (.t 7) (.c (.bool false))⟩,⟨some 2,none,.mv (.t 8)⟩]) .ret))
theorem Hn:codeOf Try.prog 88=some ⟨9,Fk,[(.tmp 2)]⟩:=by kernel_rfl
theorem Cj:modes 88=⟨[],.asis,none,false⟩:=by unfold modes; rfl
def Fl:SC:=(.seq (.reg [⟨some 2,none,.mv (.c (.bool false))⟩]) (.seq (.reg [⟨some 3,none,.mv (.t 0)⟩,⟨some 4,none,.bin .geq false (.t 3) (.c (.int .u8 65))⟩,⟨some 5,none,.mv (.t 4)⟩,⟨(some 6),(some (5,true)),(.mv (.t 0))⟩,⟨(some 7),(some (5,true)),(.bin .leq false (.t 6) (.c (.int .u8 90)))⟩,⟨some 8,none,.pick (.t 5) (.t 7) (.c (.bool false))⟩,⟨some 2,none,.mv (.t 8)⟩]) .ret))
theorem Ho:codeOf Try.prog 89=some ⟨9,Fl,[(.tmp 2)]⟩:=by kernel_rfl
theorem Ck:modes 89=⟨[],.asis,none,false⟩:=by unfold modes; rfl
def Fn:SC:=(.seq (.reg [⟨some 2,none,.mv (.c (.bool false))⟩]) (.seq (.reg [⟨some 3,none,.mv (.t 0)⟩,⟨some 4,none,.bin .geq false (.t 3) (.c (.int .u8 48))⟩,⟨some 5,none,.mv (.t 4)⟩,⟨(some 6),(some (5,true)),(.mv (.t 0))⟩,⟨(some 7),(some (5,true)),(.bin .leq false (.t 6) (.c (.int .u8 57)))⟩,⟨some 8,none,.pick (.t 5) (.t 7) (.c (.bool false))⟩,⟨some 2,none,.mv (.t 8)⟩]) .ret))
theorem Hp:codeOf Try.prog 90=some ⟨9,Fn,[(.tmp 2)]⟩:=by kernel_rfl
theorem Cm:modes 90=⟨[],.asis,none,false⟩:=by unfold modes; rfl
def Ic:SC:=(.seq (.reg [⟨some 2,none,.mv (.c (.bool false))⟩]) (.seq (.reg [⟨some 3,none,.mv (.t 0)⟩,⟨some 4,none,.call 108 [(.t 3)]⟩,⟨some 5,none,.mv (.t 4)⟩,⟨(some 6),(some (5,false)),(.mv (.t 0))⟩,⟨(some 7),(some (5,false)),(.bin .geq false (.t 6) (.c (.int .u8 65)))⟩,⟨(some 8),(some (5,false)),(.mv (.t 7))⟩,⟨(some 9),(some (8,true)),(.mv (.t 0))⟩,⟨(some 10),(some (8,true)),(.bin .leq false (.t 9) (.c (.int .u8 90)))⟩,⟨(some 11),(some (5,false)),(.pick (.t 8) (.t 10) (.c (.bool false)))⟩,⟨some 12,none,.pick (.t 5) (.c (.bool true)) (.t 11)⟩,⟨some 13,none,.mv (.t 12)⟩,⟨(some 14),(some (13,false)),(.mv (.t 0))⟩,⟨(some 15),(some (13,false)),(.bin .eql false (.t 14) (.c (.int .u8 95)))⟩,⟨some 16,none,.pick (.t 13) (.c (.bool true)) (.t 15)⟩,⟨some 2,none,.mv (.t 16)⟩]) .ret))
theorem LR:codeOf Try.prog 84=some ⟨17,Ic,[(.tmp 2)]⟩:=by kernel_rfl
theorem BI:modes 84=⟨[],.asis,none,false⟩:=by unfold modes; rfl
def Hq:SC:=(.seq (.reg [⟨some 2,none,.mv (.c (.bool false))⟩]) (.seq (.reg [⟨some 3,none,.mv (.t 0)⟩,⟨some 4,none,.bin .geq false (.t 3) (.c (.int .u8 97))⟩,⟨some 5,none,.mv (.t 4)⟩,⟨(some 6),(some (5,true)),(.mv (.t 0))⟩,⟨(some 7),(some (5,true)),(.bin .leq false (.t 6) (.c (.int .u8 122)))⟩,⟨some 8,none,.pick (.t 5) (.t 7) (.c (.bool false))⟩,⟨some 9,none,.mv (.t 8)⟩,⟨(some 10),(some (9,false)),(.mv (.t 0))⟩,⟨(some 11),(some (9,false)),(.bin .geq false (.t 10) (.c (.int .u8 48)))⟩,⟨(some 12),(some (9,false)),(.mv (.t 11))⟩,⟨(some 13),(some (12,true)),(.mv (.t 0))⟩,⟨(some 14),(some (12,true)),(.bin .leq false (.t 13) (.c (.int .u8 57)))⟩,⟨(some 15),(some (9,false)),(.pick (.t 12) (.t 14) (.c (.bool false)))⟩,⟨some 16,none,.pick (.t 9) (.c (.bool true)) (.t 15)⟩,⟨some 2,none,.mv (.t 16)⟩]) .ret))
theorem Lw:codeOf Try.prog 108=some ⟨17,Hq,[(.tmp 2)]⟩:=by kernel_rfl
theorem Hr:modes 108=⟨[],.asis,none,false⟩:=by unfold modes; rfl
def E8:SC:=(.seq (.reg [⟨some 4,none,.mv (.c (.bool false))⟩]) (.seq (.reg [⟨some 5,none,.mv (.t 0)⟩,⟨some 6,none,.mv (.t 1)⟩,⟨some 7,none,.call 138 [(.t 5),(.t 6)]⟩,⟨some 4,none,.mv (.t 7)⟩]) .ret))
theorem HL:codeOf Try.prog 119=some ⟨8,E8,[(.tmp 4)]⟩:=by kernel_rfl
theorem E9:modes 119=⟨[],.asis,none,false⟩:=by unfold modes; rfl
def BK:SC:=(.seq (.reg [⟨some 4,none,.mv (.c (.bool false))⟩]) (.seq (.reg [⟨some 5,none,.mv (.t 0)⟩,⟨some 6,none,.len true (.t 5)⟩,⟨some 7,none,.mv (.t 1)⟩,⟨some 8,none,.len true (.t 7)⟩,⟨some 9,none,.bin .geq false (.t 6) (.t 8)⟩,⟨some 10,none,.mv (.t 9)⟩,⟨(some 11),(some (10,true)),(.mv (.t 0))⟩,⟨(some 12),(some (10,true)),(.mv (.t 1))⟩,⟨(some 13),(some (10,true)),(.len true (.t 12))⟩,⟨(some 14),(some (10,true)),(.slice true 0 (.t 11) none (some (.t 13)))⟩,⟨(some 15),(some (10,true)),(.mv (.t 1))⟩,⟨(some 16),(some (10,true)),(.bin .eql false (.t 14) (.t 15))⟩,⟨some 17,none,.pick (.t 10) (.t 16) (.c (.bool false))⟩,⟨some 4,none,.mv (.t 17)⟩]) .ret))
theorem Cv:codeOf Try.prog 138=some ⟨18,BK,[(.tmp 4)]⟩:=by kernel_rfl
theorem BL:modes 138=⟨[],.asis,none,false⟩:=by unfold modes; rfl
def DI:SC:=(.seq (.reg [⟨some 4,none,.mv (.c (.bool false))⟩]) (.seq (.dreg [[],[0],[1,0],[2,1,0],[3,2,1,0],[4,3,2,1,0],[5,4,3,2,1,0],[6,5,4,3,2,1,0],[7,6,5,4,3,2,1,0],[8,7,6,5,4,3,2,1,0],[5,4,3,2,1,0],[10,5,4,3,2,1,0],[11,10,5,4,3,2,1,0],[12,11,10,5,4,3,2,1,0],[9,8,7,6,5,4,3,2,1,0,13,12,11,10],[5,4,3,2,1,0],[14,9,8,7,6,5,4,3,2,1,0,13,12,11,10,15],[5,4,3,2,1,0,16,14,9,8,7,6,13,12,11,10,15],[17,5,4,3,2,1,0,16,14,9,8,7,6,13,12,11,10,15]] [⟨some 5,none,.mv (.t 0)⟩,⟨some 6,none,.nilchk (.t 5)⟩,⟨some 7,none,.faddr 2 (.t 6)⟩,⟨some 8,none,.load false 1 (.t 7)⟩,⟨some 9,none,.un .not (.t 8)⟩,⟨some 10,none,.mv (.t 9)⟩,⟨(some 11),(some (10,true)),(.mv (.t 0))⟩,⟨(some 12),(some (10,true)),(.nilchk (.t 11))⟩,⟨(some 13),(some (10,true)),(.faddr 0 (.t 12))⟩,⟨(some 14),(some (10,true)),(.load false 1 (.t 13))⟩,⟨(some 15),(some (10,true)),(.mv (.t 0))⟩,⟨(some 16),(some (10,true)),(.nilchk (.t 15))⟩,⟨(some 17),(some (10,true)),(.faddr 1 (.t 16))⟩,⟨(some 18),(some (10,true)),(.load false 1 (.t 17))⟩,⟨(some 19),(some (10,true)),(.slice true 0 (.t 14) (some (.t 18)) none)⟩,⟨(some 20),(some (10,true)),(.mv (.t 1))⟩,⟨(some 21),(some (10,true)),(.call 119 [(.t 19),(.t 20)])⟩,⟨some 22,none,.pick (.t 10) (.t 21) (.c (.bool false))⟩,⟨some 4,none,.mv (.t 22)⟩]) .ret))
theorem F8:codeOf Try.prog 87=some ⟨23,DI,[(.tmp 4)]⟩:=by kernel_rfl
theorem Cw:modes 87=⟨[],.asis,none,false⟩:=by unfold modes; rfl
def CC:SC:=(.seq (.reg [⟨some 4,none,.mv (.c (.bool false))⟩]) (.seq (.reg [⟨some 6,none,.mv (.t 0)⟩,⟨some 7,none,.mv (.t 1)⟩,⟨some 8,none,.call 87 [(.t 6),(.t 7)]⟩,⟨some 5,none,.mv (.t 8)⟩]) (.seq (.seq (.reg [⟨some 9,none,.mv (.t 5)⟩]) (.cond (.t 9) (.reg [⟨some 10,none,.mv (.t 0)⟩,⟨some 11,none,.nilchk (.t 10)⟩,⟨some 12,none,.faddr 1 (.t 11)⟩,⟨some 13,none,.load false 1 (.t 12)⟩,⟨some 14,none,.mv (.t 1)⟩,⟨some 15,none,.len true (.t 14)⟩,⟨some 16,none,.bin .add false (.t 13) (.t 15)⟩,⟨some 17,none,.nilchk (.t 10)⟩,⟨some 18,none,.faddr 1 (.t 17)⟩,⟨none,none,(.store 1 (.t 18) (.t 16))⟩]) .skip)) (.seq (.reg [⟨some 19,none,.mv (.t 5)⟩,⟨some 4,none,.mv (.t 19)⟩]) .ret))))
theorem D6:codeOf Try.prog 53=some ⟨20,CC,[(.tmp 4)]⟩:=by kernel_rfl
theorem Ao:modes 53=⟨[],.asis,none,false⟩:=by unfold modes; rfl
def CD:SC:=(.seq (.reg [⟨some 4,none,.mv (.t 0)⟩,⟨some 5,none,.mv (.t 1)⟩,⟨some 6,none,.call 53 [(.t 4),(.t 5)]⟩,⟨some 7,none,.un .not (.t 6)⟩]) (.cond (.t 7) (.reg [⟨some 8,none,.mv (.t 0)⟩,⟨some 9,none,.nilchk (.t 8)⟩,⟨some 10,none,.faddr 2 (.t 9)⟩,⟨none,none,(.store 1 (.t 10) (.c (.bool true)))⟩]) .skip))
theorem D7:codeOf Try.prog 55=some ⟨11,CD,[]⟩:=by kernel_rfl
theorem Ap:modes 55=⟨[],.asis,none,false⟩:=by unfold modes; rfl
def Di:SC:=(.seq (.reg [⟨some 2,none,.mv (.c (.bool false))⟩]) (.seq (.dreg [[],[0],[1,0],[2,1,0],[3,2,1,0],[4,3,2,1,0],[5,4,3,2,1,0],[6,5,4,3,2,1,0],[7,6,5,4,3,2,1,0],[8,7,6,5,4,3,2,1,0],[5,4,3,2,1,0],[10,5,4,3,2,1,0],[11,10,5,4,3,2,1,0],[12,11,10,5,4,3,2,1,0],[13,12,11,10,5,4,3,2,1,0],[9,8,7,6,5,4,3,2,1,0,14,13,12,11,10],[5,4,3,2,1,0,15,9,8,7,6,14,13,12,11,10],[16,5,4,3,2,1,0,15,9,8,7,6,14,13,12,11,10]] [⟨some 3,none,.mv (.t 0)⟩,⟨some 4,none,.nilchk (.t 3)⟩,⟨some 5,none,.faddr 2 (.t 4)⟩,⟨some 6,none,.load false 1 (.t 5)⟩,⟨some 7,none,.un .not (.t 6)⟩,⟨some 8,none,.mv (.t 7)⟩,⟨(some 9),(some (8,true)),(.mv (.t 0))⟩,⟨(some 10),(some (8,true)),(.nilchk (.t 9))⟩,⟨(some 11),(some (8,true)),(.faddr 1 (.t 10))⟩,⟨(some 12),(some (8,true)),(.load false 1 (.t 11))⟩,⟨(some 13),(some (8,true)),(.mv (.t 0))⟩,⟨(some 14),(some (8,true)),(.nilchk (.t 13))⟩,⟨(some 15),(some (8,true)),(.faddr 0 (.t 14))⟩,⟨(some 16),(some (8,true)),(.load false 1 (.t 15))⟩,⟨(some 17),(some (8,true)),(.len true (.t 16))⟩,⟨(some 18),(some (8,true)),(.bin .eql false (.t 12) (.t 17))⟩,⟨some 19,none,.pick (.t 8) (.t 18) (.c (.bool false))⟩,⟨some 2,none,.mv (.t 19)⟩]) .ret))
theorem EA:codeOf Try.prog 23=some ⟨20,Di,[(.tmp 2)]⟩:=by kernel_rfl
theorem B4:modes 23=⟨[],.asis,none,false⟩:=by unfold modes; rfl
def D8:SC:=(.seq (.reg [⟨(some 2),none,(.mv (.c (.str ⟨#[]⟩)))⟩]) (.seq (.reg [⟨some 4,none,.mv (.t 0)⟩,⟨some 5,none,.nilchk (.t 4)⟩,⟨some 6,none,.faddr 1 (.t 5)⟩,⟨some 7,none,.load false 1 (.t 6)⟩,⟨some 3,none,.mv (.t 7)⟩]) (.seq (.block 0 (.loop [1,0,0,1,0,0,0,0,0,0,0,0,0,0,0,0,0,0,0,0,0,0,0,0,0,0,0,0,0,0,0,0,0,0,0,0,0,0,0,0,0,0,0,0,0,0,0,0,0,0,0,0,0,0,0,0,0,0,0,0,0,0,0,0,0,0,0,0,0,0,0,0,0,0,0,0,0,0,0,0,0,0,0,0,0,0,0,0,0,0,0,0,0,0,0,0,0,0] (.seq (.seq (.dreg [[],[0],[1,0],[2,1,0],[],[4],[5,4],[6,5,4],[7,6,5,4],[3,2,1,0,8,7,6,5,4],[9,3,2,1,0,8,7,6,5,4],[10,9,3,2,1,0,8,7,6,5,4],[11,10,9,3,2,1,0,8,7,6,5,4],[12,11,10,9,3,2,1,0,8,7,6,5,4],[13,12,11,10,9,3,2,1,0,8,7,6,5,4],[10,9,3,2,1,0,8,7,6,5,4],[15,10,9,3,2,1,0,8,7,6,5,4],[16,15,10,9,3,2,1,0,8,7,6,5,4],[17,16,15,10,9,3,2,1,0,8,7,6,5,4],[14,13,12,11,10,9,3,2,1,0,8,7,6,5,4,18,17,16,15],[19,14,13,12,11,10,9,3,2,1,0,8,7,6,5,4,18,17,16,15],[20,19,14,13,12,11,10,9,3,2,1,0,8,7,6,5,4,18,17,16,15],[21,20,19,14,13,12,11,10,9,3,2,1,0,8,7,6,5,4,18,17,16,15],[22,21,20,19,14,13,12,11,10,9,3,2,1,0,8,7,6,5,4,18,17,16,15],[23,22,21,20,19,14,13,12,11,10,9,3,2,1,0,8,7,6,5,4,18,17,16,15],[24,23,22,21,20,19,14,13,12,11,10,9,3,2,1,0,8,7,6,5,4,18,17,16,15],[21,20,19,14,13,12,11,10,9,3,2,1,0,8,7,6,5,4,18,17,16,15],[26,21,20,19,14,13,12,11,10,9,3,2,1,0,8,7,6,5,4,18,17,16,15],[27,26,21,20,19,14,13,12,11,10,9,3,2,1,0,8,7,6,5,4,18,17,16,15],[28,27,26,21,20,19,14,13,12,11,10,9,3,2,1,0,8,7,6,5,4,18,17,16,15],[25,24,23,22,21,20,19,14,13,12,11,10,9,3,2,1,0,8,7,6,5,4,18,17,16,15,29,28,27,26],[30,25,24,23,22,21,20,19,14,13,12,11,10,9,3,2,1,0,8,7,6,5,4,18,17,16,15,29,28,27,26],[21,20,19,14,13,12,11,10,9,3,2,1,0,8,7,6,5,4,18,17,16,15,31,30,25,24,23,22,29,28,27,26],[32,21,20,19,14,13,12,11,10,9,3,2,1,0,8,7,6,5,4,18,17,16,15,31,30,25,24,23,22,29,28,27,26],[33,32,21,20,19,14,13,12,11,10,9,3,2,1,0,8,7,6,5,4,18,17,16,15,31,30,25,24,23,22,29,28,27,26],[34,33,32,21,20,19,14,13,12,11,10,9,3,2,1,0,8,7,6,5,4,18,17,16,15,31,30,25,24,23,22,29,28,27,26],[35,34,33,32,21,20,19,14,13,12,11,10,9,3,2,1,0,8,7,6,5,4,18,17,16,15,31,30,25,24,23,22,29,28,27,26],[36,35,34,33,32,21,20,19,14,13,12,11,10,9,3,2,1,0,8,7,6,5,4,18,17,16,15,31,30,25,24,23,22,29,28,27,26],[33,32,21,20,19,14,13,12,11,10,9,3,2,1,0,8,7,6,5,4,18,17,16,15,31,30,25,24,23,22,29,28,27,26],[38,33,32,21,20,19,14,13,12,11,10,9,3,2,1,0,8,7,6,5,4,18,17,16,15,31,30,25,24,23,22,29,28,27,26],[39,38,33,32,21,20,19,14,13,12,11,10,9,3,2,1,0,8,7,6,5,4,18,17,16,15,31,30,25,24,23,22,29,28,27,26],[40,39,38,33,32,21,20,19,14,13,12,11,10,9,3,2,1,0,8,7,6,5,4,18,17,16,15,31,30,25,24,23,22,29,28,27,26],[37,36,35,34,33,32,21,20,19,14,13,12,11,10,9,3,2,1,0,8,7,6,5,4,18,17,16,15,31,30,25,24,23,22,29,28,27,26,41,40,39,38],[42,37,36,35,34,33,32,21,20,19,14,13,12,11,10,9,3,2,1,0,8,7,6,5,4,18,17,16,15,31,30,25,24,23,22,29,28,27,26,41,40,39,38],[33,32,21,20,19,14,13,12,11,10,9,3,2,1,0,8,7,6,5,4,18,17,16,15,31,30,25,24,23,22,29,28,27,26,43,42,37,36,35,34,41,40,39,38],[44,33,32,21,20,19,14,13,12,11,10,9,3,2,1,0,8,7,6,5,4,18,17,16,15,31,30,25,24,23,22,29,28,27,26,43,42,37,36,35,34,41,40,39,38],[45,44,33,32,21,20,19,14,13,12,11,10,9,3,2,1,0,8,7,6,5,4,18,17,16,15,31,30,25,24,23,22,29,28,27,26,43,42,37,36,35,34,41,40,39,38],[46,45,44,33,32,21,20,19,14,13,12,11,10,9,3,2,1,0,8,7,6,5,4,18,17,16,15,31,30,25,24,23,22,29,28,27,26,43,42,37,36,35,34,41,40,39,38],[47,46,45,44,33,32,21,20,19,14,13,12,11,10,9,3,2,1,0,8,7,6,5,4,18,17,16,15,31,30,25,24,23,22,29,28,27,26,43,42,37,36,35,34,41,40,39,38],[48,47,46,45,44,33,32,21,20,19,14,13,12,11,10,9,3,2,1,0,8,7,6,5,4,18,17,16,15,31,30,25,24,23,22,29,28,27,26,43,42,37,36,35,34,41,40,39,38],[45,44,33,32,21,20,19,14,13,12,11,10,9,3,2,1,0,8,7,6,5,4,18,17,16,15,31,30,25,24,23,22,29,28,27,26,43,42,37,36,35,34,41,40,39,38],[50,45,44,33,32,21,20,19,14,13,12,11,10,9,3,2,1,0,8,7,6,5,4,18,17,16,15,31,30,25,24,23,22,29,28,27,26,43,42,37,36,35,34,41,40,39,38],[51,50,45,44,33,32,21,20,19,14,13,12,11,10,9,3,2,1,0,8,7,6,5,4,18,17,16,15,31,30,25,24,23,22,29,28,27,26,43,42,37,36,35,34,41,40,39,38],[52,51,50,45,44,33,32,21,20,19,14,13,12,11,10,9,3,2,1,0,8,7,6,5,4,18,17,16,15,31,30,25,24,23,22,29,28,27,26,43,42,37,36,35,34,41,40,39,38],[49,48,47,46,45,44,33,32,21,20,19,14,13,12,11,10,9,3,2,1,0,8,7,6,5,4,18,17,16,15,31,30,25,24,23,22,29,28,27,26,43,42,37,36,35,34,41,40,39,38,53,52,51,50],[54,49,48,47,46,45,44,33,32,21,20,19,14,13,12,11,10,9,3,2,1,0,8,7,6,5,4,18,17,16,15,31,30,25,24,23,22,29,28,27,26,43,42,37,36,35,34,41,40,39,38,53,52,51,50],[45,44,33,32,21,20,19,14,13,12,11,10,9,3,2,1,0,8,7,6,5,4,18,17,16,15,31,30,25,24,23,22,29,28,27,26,43,42,37,36,35,34,41,40,39,38,55,54,49,48,47,46,53,52,51,50],[10,9,3,2,1,0,8,7,6,5,4,56,45,44,33,32,21,20,19,14,13,12,11,18,17,16,15,31,30,25,24,23,22,29,28,27,26,43,42,37,36,35,34,41,40,39,38,55,54,49,48,47,46,53,52,51,50]] [⟨some 8,none,.mv (.t 0)⟩,⟨some 9,none,.nilchk (.t 8)⟩,⟨some 10,none,.faddr 1 (.t 9)⟩,⟨some 11,none,.load false 1 (.t 10)⟩,⟨some 12,none,.mv (.t 0)⟩,⟨some 13,none,.nilchk (.t 12)⟩,⟨some 14,none,.faddr 0 (.t 13)⟩,⟨some 15,none,.load false 1 (.t 14)⟩,⟨some 16,none,.len true (.t 15)⟩,⟨some 17,none,.bin .lss false (.t 11) (.t 16)⟩,⟨some 18,none,.mv (.t 17)⟩,⟨(some 19),(some (18,true)),(.mv (.t 0))⟩,⟨(some 20),(some (18,true)),(.nilchk (.t 19))⟩,⟨(some 21),(some (18,true)),(.faddr 0 (.t 20))⟩,⟨(some 22),(some (18,true)),(.load false 1 (.t 21))⟩,⟨(some 23),(some (18,true)),(.mv (.t 0))⟩,⟨(some 24),(some (18,true)),(.nilchk (.t 23))⟩,⟨(some 25),(some (18,true)),(.faddr 1 (.t 24))⟩,⟨(some 26),(some (18,true)),(.load false 1 (.t 25))⟩,⟨(some 27),(some (18,true)),(.idx (.t 22) (.t 26))⟩,⟨(some 28),(some (18,true)),(.call 88 [(.t 27)])⟩,⟨(some 29),(some (18,true)),(.mv (.t 28))⟩,⟨(some 30),(some (29,false)),(.mv (.t 0))⟩,⟨(some 31),(some (29,false)),(.nilchk (.t 30))⟩,⟨(some 32),(some (29,false)),(.faddr 0 (.t 31))⟩,⟨(some 33),(some (29,false)),(.load false 1 (.t 32))⟩,⟨(some 34),(some (29,false)),(.mv (.t 0))⟩,⟨(some 35),(some (29,false)),(.nilchk (.t 34))⟩,⟨(some 36),(some (29,false)),(.faddr 1 (.t 35))⟩,⟨(some 37),(some (29,false)),(.load false 1 (.t 36))⟩,⟨(some 38),(some (29,false)),(.idx (.t 33) (.t 37))⟩,⟨(some 39),(some (29,false)),(.call 89 [(.t 38)])⟩,⟨(some 40),(some (18,true)),(.pick (.t 29) (.c (.bool true)) (.t 39))⟩,⟨(some 41),(some (18,true)),(.mv (.t 40))⟩,⟨(some 42),(some (41,false)),(.mv (.t 0))⟩,⟨(some 43),(some (41,false)),(.nilchk (.t 42))⟩,⟨(some 44),(some (41,false)),(.faddr 0 (.t 43))⟩,⟨(some 45),(some (41,false)),(.load false 1 (.t 44))⟩,⟨(some 46),(some (41,false)),(.mv (.t 0))⟩,⟨(some 47),(some (41,false)),(.nilchk (.t 46))⟩,⟨(some 48),(some (41,false)),(.faddr 1 (.t 47))⟩,⟨(some 49),(some (41,false)),(.load false 1 (.t 48))⟩,⟨(some 50),(some (41,false)),(.idx (.t 45) (.t 49))⟩,⟨(some 51),(some (41,false)),(.call 90 [(.t 50)])⟩,⟨(some 52),(some (18,true)),(.pick (.t 41) (.c (.bool true)) (.t 51))⟩,⟨(some 53),(some (18,true)),(.mv (.t 52))⟩,⟨(some 54),(some (53,false)),(.mv (.t 0))⟩,⟨(some 55),(some (53,false)),(.nilchk (.t 54))⟩,⟨(some 56),(some (53,false)),(.faddr 0 (.t 55))⟩,⟨(some 57),(some (53,false)),(.load false 1 (.t 56))⟩,⟨(some 58),(some (53,false)),(.mv (.t 0))⟩,⟨(some 59),(some (53,false)),(.nilchk (.t 58))⟩,⟨(some 60),(some (53,false)),(.faddr 1 (.t 59))⟩,⟨(some 61),(some (53,false)),(.load false 1 (.t 60))⟩,⟨(some 62),(some (53,false)),(.idx (.t 57) (.t 61))⟩,⟨(some 63),(some (53,false)),(.bin .eql false (.t 62) (.c (.int .u8 95)))⟩,⟨(some 64),(some (18,true)),(.pick (.t 53) (.c (.bool true)) (.t 63))⟩,⟨some 65,none,.pick (.t 18) (.t 64) (.c (.bool false))⟩]) (.cond (.t 65) .skip (.exit 0))) (.block 1 (.reg [⟨some 66,none,.mv (.t 0)⟩,⟨some 67,none,.nilchk (.t 66)⟩,⟨some 68,none,.faddr 1 (.t 67)⟩,⟨some 69,none,.load false 1 (.t 68)⟩,⟨some 70,none,.bin .add false (.t 69) (.c (.int .i64 1))⟩,⟨some 71,none,.nilchk (.t 66)⟩,⟨some 72,none,.faddr 1 (.t 71)⟩,⟨none,none,(.store 1 (.t 72) (.t 70))⟩]))))) (.seq (.seq (.reg [⟨some 73,none,.mv (.t 0)⟩,⟨some 74,none,.nilchk (.t 73)⟩,⟨some 75,none,.faddr 2 (.t 74)⟩,⟨some 76,none,.load false 1 (.t 75)⟩,⟨some 77,none,.mv (.t 76)⟩,⟨(some 78),(some (77,false)),(.mv (.t 3))⟩,⟨(some 79),(some (77,false)),(.mv (.t 0))⟩,⟨(some 80),(some (77,false)),(.nilchk (.t 79))⟩,⟨(some 81),(some (77,false)),(.faddr 1 (.t 80))⟩,⟨(some 82),(some (77,false)),(.load false 1 (.t 81))⟩,⟨(some 83),(some (77,false)),(.bin .eql false (.t 78) (.t 82))⟩,⟨some 84,none,.pick (.t 77) (.c (.bool true)) (.t 83)⟩]) (.cond (.t 84) (.seq (.reg [⟨some 85,none,.mv (.t 0)⟩,⟨some 86,none,.nilchk (.t 85)⟩,⟨some 87,none,.faddr 2 (.t 86)⟩,⟨none,none,(.store 1 (.t 87) (.c (.bool true)))⟩]) (.seq (.reg [⟨(some 2),none,(.mv (.c (.str ⟨#[]⟩)))⟩]) .ret)) .skip)) (.seq (.dreg [[],[0],[1,0],[2,1,0],[],[],[5],[6,5],[7,6,5],[3,2,1,0,4,8,7,6,5],[9,3,2,1,0,4,8,7,6,5]] [⟨some 88,none,.mv (.t 0)⟩,⟨some 89,none,.nilchk (.t 88)⟩,⟨some 90,none,.faddr 0 (.t 89)⟩,⟨some 91,none,.load false 1 (.t 90)⟩,⟨some 92,none,.mv (.t 3)⟩,⟨some 93,none,.mv (.t 0)⟩,⟨some 94,none,.nilchk (.t 93)⟩,⟨some 95,none,.faddr 1 (.t 94)⟩,⟨some 96,none,.load false 1 (.t 95)⟩,⟨some 97,none,.slice true 0 (.t 91) (some (.t 92)) (some (.t 96))⟩,⟨some 2,none,.mv (.t 97)⟩]) .ret)))))
theorem Fo:codeOf Try.prog 54=some ⟨98,D8,[(.tmp 2)]⟩:=by kernel_rfl
theorem Av:modes 54=⟨[],.asis,none,false⟩:=by unfold modes; rfl
theorem OF (n:Int):E 88 [.int .u8 n] []=some (.bool (dec (97≤n)&&dec (n≤122)),[]):=by
 cases h1:dec (97≤n)
 ·refine Aj Hn Cj (of_decide_eq_true rfl) ?_
  simp (disch:=omega) only [Fk,go_sem,Ab,h1]
 ·refine Aj Hn Cj (of_decide_eq_true rfl) ?_
  simp (disch:=omega) only [Fk,go_sem,Ab,h1]
theorem OG (n:Int):E 89 [.int .u8 n] []=some (.bool (dec (65≤n)&&dec (n≤90)),[]):=by
 cases h1:dec (65≤n)
 ·refine Aj Ho Ck (of_decide_eq_true rfl) ?_
  simp (disch:=omega) only [Fl,go_sem,Ab,h1]
 ·refine Aj Ho Ck (of_decide_eq_true rfl) ?_
  simp (disch:=omega) only [Fl,go_sem,Ab,h1]
theorem OH (n:Int):E 90 [.int .u8 n] []=some (.bool (dec (48≤n)&&dec (n≤57)),[]):=by
 cases h1:dec (48≤n)
 ·refine Aj Hp Cm (of_decide_eq_true rfl) ?_
  simp (disch:=omega) only [Fn,go_sem,Ab,h1]
 ·refine Aj Hp Cm (of_decide_eq_true rfl) ?_
  simp (disch:=omega) only [Fn,go_sem,Ab,h1]
noncomputable def preB (a b:ByteArray):Bool:=dec (b.size≤a.size)&&dec (a.extract 0 b.size=b)
theorem NC (a b:ByteArray):E 138 [.str a,.str b] []=some (.bool (preB a b),[]):=by
 unfold preB
 by_cases h:b.size≤a.size
 ·have h1:((b.size:Int)≤(a.size:Int))=True:=eq_true (by omega)
  rw [A1 h,zD]
  refine Aj Cv BL (of_decide_eq_true rfl) ?_
  simp (disch:=omega) only [BK,go_sem,Ab,h1,yT]
 ·have h1:((b.size:Int)≤(a.size:Int))=False:=eq_false (by omega)
  rw [An h,zB]
  refine Aj Cv BL (of_decide_eq_true rfl) ?_
  simp (disch:=omega) only [BK,go_sem,Ab,h1]
theorem OI (a b:ByteArray):E 119 [.str a,.str b] []=some (.bool (preB a b),[]):=by
 have h:=NC a b
 refine Aj HL E9 (of_decide_eq_true rfl) ?_
 simp (disch:=omega) only [E8,go_sem,Ab,h,BL]
noncomputable def hasB (s:ByteArray) (i:Nat) (x:ByteArray):Bool:=preB (s.extract i s.size) x
theorem Ub {s:ByteArray} {a b:Nat} (h:a≤b) (k:b≤s.size):(seg s a b).length=b-a:=by
 unfold seg
 rw [yF,yN,AK]; omega
theorem LS {s:ByteArray} {a b:Nat} (h:a≤b) (k:b≤s.size):(s.extract a b).size=b-a:=by
 rw [←AK,toList_extract,Ub h k]
theorem S9 {a b:ByteArray}:preB a b=true ↔ b.toList=a.toList.take b.size∧b.size≤a.size:=by
 unfold preB
 rw [zA,At,At]
 constructor
 ·rintro ⟨h1,h2⟩
  refine ⟨?_,h1⟩
  rw [←h2,toList_extract]
  unfold seg
  rw [zM,Nat.sub_zero,h2]
 ·rintro ⟨h1,h2⟩
  refine ⟨h2,AU ?_⟩
  rw [toList_extract,h1]
  unfold seg
  rw [zM,Nat.sub_zero]
theorem AO {s:ByteArray} {i:Nat} {x:ByteArray} (hi:i≤s.size):hasB s i x=true ↔ i+x.size≤s.size∧seg s i (i+x.size)=x.toList:=by
 unfold hasB
 rw [S9,toList_extract,LS hi (z6 _)]
 have hs:seg s i s.size=s.toList.drop i:=by
  unfold seg
  rw [List.take_of_length_le (by rw [yN,AK]; exact z6 _)]
 rw [hs]
 unfold seg
 rw [show i+x.size-i=x.size by omega]
 constructor
 ·rintro ⟨h1,h2⟩; exact ⟨by omega,h1.symm⟩
 ·rintro ⟨h1,h2⟩; exact ⟨h2.symm,by omega⟩
theorem E1 {s:ByteArray} {i:Nat} (hi:i≤s.size) (c:UInt8):hasB s i ⟨#[c]⟩=Ci s i c.toNat:=by
 cases h:Ci s i c.toNat with
 | true =>
  obtain ⟨h1,h2⟩:=Bp.1 h
  refine (AO hi).2 ⟨h1,?_⟩
  show seg s i (i+1)=_
  rw [K3 h1 h2,ByteArray.toList_eq]
 | false =>
  cases k:hasB s i ⟨#[c]⟩ with
  | false=>rfl
  | true =>
   obtain ⟨k1,k2⟩:=(AO hi).1 k
   have k1:i+1≤s.size:=k1
   have k2:seg s i (i+1)=[c]:=by rw [ByteArray.toList_eq] at k2; exact k2
   have hl:i<s.toList.length:=by rw [AK]; exact k1
   unfold seg at k2
   rw [zF hl,show i+1-i=1 by omega,yD,yI] at k2
   have:Ci s i c.toNat=true:=Bp.2 ⟨k1,by rw [FP k1]; simp only [yR,and_true] at k2; rw [k2]⟩
   rw [this] at h; cases h
abbrev psr (s:ByteArray) (i:Nat) (f:Bool):Ob:=.box 51 [.str s,.int .i64 (i:Int),.bool f]
theorem VF (s:ByteArray) (i:Nat) (x:ByteArray):E 87 [.ptr 0 0,.str x] [psr s i true]=some (.bool false,[psr s i true]):=by
 refine Aj F8 Cw (of_decide_eq_true rfl) ?_
 simp (disch:=omega) only [DI,go_sem,Ab]
theorem Uo (s:ByteArray) (i:Nat) (x:ByteArray) (hi:i≤s.size):E 87 [.ptr 0 0,.str x] [psr s i false]=some (.bool (hasB s i x),[psr s i false]):=by
 have h:=OI (s.extract i s.size) x
 unfold hasB
 refine Aj F8 Cw (of_decide_eq_true rfl) ?_
 simp (disch:=omega) only [DI,go_sem,Ab,h,E9]
theorem Fp (s:ByteArray) (i:Nat) (x:ByteArray):E 53 [.ptr 0 0,.str x] [psr s i true]=some (.bool false,[psr s i true]):=by
 have h:=VF s i x
 refine Aj D6 Ao (of_decide_eq_true rfl) ?_
 simp (disch:=omega) only [CC,go_sem,Ab,h,Cw]
theorem EM (s:ByteArray) (i:Nat) (x:ByteArray) (hi:i≤s.size) (hh:hasB s i x=false):E 53 [.ptr 0 0,.str x] [psr s i false]=some (.bool false,[psr s i false]):=by
 have h:=Uo s i x hi
 rw [hh] at h
 refine Aj D6 Ao (of_decide_eq_true rfl) ?_
 simp (disch:=omega) only [CC,go_sem,Ab,h,Cw]
theorem E2 (s:ByteArray) (i:Nat) (x:ByteArray) (hi:i+x.size≤1099511627776) (hi2:i≤s.size) (hh:hasB s i x=true):E 53 [.ptr 0 0,.str x] [psr s i false]=some (.bool true,[psr s (i+x.size) false]):=by
 have h:=Uo s i x hi2
 rw [hh] at h
 refine Aj D6 Ao (of_decide_eq_true rfl) ?_
 simp (disch:=omega) only [CC,go_sem,Ab,h,Cw]
 simp only [psr,yS]
theorem SA (s:ByteArray) (i:Nat) (x:ByteArray):E 55 [.ptr 0 0,.str x] [psr s i true]=some (.tup [],[psr s i true]):=by
 have h:=Fp s i x
 refine Aj D7 Ap (of_decide_eq_true rfl) ?_
 simp (disch:=omega) only [CD,go_sem,Ab,h,Ao]
theorem Qv (s:ByteArray) (i:Nat) (x:ByteArray) (hi:i≤s.size) (hh:hasB s i x=false):E 55 [.ptr 0 0,.str x] [psr s i false]=some (.tup [],[psr s i true]):=by
 have h:=EM s i x hi hh
 refine Aj D7 Ap (of_decide_eq_true rfl) ?_
 simp (disch:=omega) only [CD,go_sem,Ab,h,Ao]
theorem OJ (s:ByteArray) (i:Nat) (x:ByteArray) (hi:i+x.size≤1099511627776) (hi2:i≤s.size) (hh:hasB s i x=true):E 55 [.ptr 0 0,.str x] [psr s i false]=some (.tup [],[psr s (i+x.size) false]):=by
 have h:=E2 s i x hi hi2 hh
 refine Aj D7 Ap (of_decide_eq_true rfl) ?_
 simp (disch:=omega) only [CD,go_sem,Ab,h,Ao]
theorem Uc (s:ByteArray) (i:Nat):E 23 [.ptr 0 0] [psr s i true]=some (.bool false,[psr s i true]):=by
 refine Aj EA B4 (of_decide_eq_true rfl) ?_
 simp (disch:=omega) only [Di,go_sem,Ab]
theorem Ud (s:ByteArray) (i:Nat):E 23 [.ptr 0 0] [psr s i false]=some (.bool (dec (i=s.size)),[psr s i false]):=by
 have e:dec (i=s.size)=dec ((i:Int)=(s.size:Int)):=by
  by_cases h:i=s.size
  ·rw [A1 h,A1 (by omega)]
  ·rw [An h,An (by omega)]
 rw [e]
 refine Aj EA B4 (of_decide_eq_true rfl) ?_
 simp (disch:=omega) only [Di,go_sem,Ab]
theorem PC (s:ByteArray) (i:Nat) (hi:i≤s.size) (hs:s.size≤1048576):E 54 [.ptr 0 0] [psr s i false]=some (.str (bif dec (A3 s i=i) then ⟨#[]⟩ else s.extract i (A3 s i)),[psr s (A3 s i) (dec (A3 s i=i))]):=by
 refine Aj Fo Av (of_decide_eq_true rfl) ?_
 simp (disch:=omega) only [D8,go_sem,Ab]
 refine go_loop (α:=Nat) (fun j=>⟨slots 98 0 [(0,.ptr 0 0),(3,.int .i64 (i:Int))],[psr s j false]⟩) (fun j=>i≤j∧j≤s.size∧A3 s j=A3 s i) (fun j=>s.size-j) i ⟨z6 _,hi,rfl⟩ (by simp (disch:=omega) only [go_sem,Ab]) ?_
 rintro j ⟨h1,h2,h3⟩
 have hj:((j:Nat):Int).toNat=j:=yA j
 rcases zI j s.size with hlt | hge
 ·have hw:=@Gr s j hlt
  have hx:Bt (Ay s j)=false→A3 s j=j:=fun h=>CM (fun k=>by rw [h] at k; exact absurd k.2 (by simp))
  have a1:=OF (Ay s j)
  have a2:=OG (Ay s j)
  have a3:=OH (Ay s j)
  unfold Bt at hw hx
  generalize hg1:(dec (97≤Ay s j)&&dec (Ay s j≤122))=q1 at *
  generalize hg2:(dec (65≤Ay s j)&&dec (Ay s j≤90))=q2 at *
  generalize hg3:(dec (48≤Ay s j)&&dec (Ay s j≤57))=q3 at *
  generalize hg4:dec (Ay s j=95)=q4 at *
  cases q1 <;> cases q2 <;> cases q3 <;> cases q4
  all_goals
   simp only [yO,yV,Bool.true_or,yW,true_implies,Bool.true_eq_false,Bool.false_eq_true,false_implies] at hw hx
  case false.false.false.false =>
   have e:A3 s i=j:=by rw [←h3,hx]
   rw [e]
   by_cases h0:j=i
   ·subst h0
    simp (disch:=omega) only [go_sem,Ab,hj,a1,a2,a3,hg4,Cj,Ck,Cm,DE]
   ·have h0':((i:Int)=(j:Int))=False:=eq_false (by omega)
    rw [An h0]
    simp (disch:=omega) only [go_sem,Ab,hj,a1,a2,a3,hg4,h0',Cj,Ck,Cm]
  all_goals
   simp (disch:=omega) only [go_sem,Ab,hj,a1,a2,a3,hg4,Cj,Ck,Cm]
   exact ⟨j+1,⟨by omega,by omega,by omega⟩,by omega,by first | trivial | (simp only [psr,yS,Int.natCast_one]) | rfl⟩
 ·have e:A3 s i=j:=by rw [←h3]; exact CM (by omega)
  rw [e]
  by_cases h0:j=i
  ·subst h0
   simp (disch:=omega) only [go_sem,Ab,hj,DE]
  ·have h0':((i:Int)=(j:Int))=False:=eq_false (by omega)
   rw [An h0]
   simp (disch:=omega) only [go_sem,Ab,hj,h0']
def Cn:SC:=(.seq (.reg [⟨(some 2),none,(.alloc 24 [(.str ⟨#[]⟩),.nil])⟩]) (.seq (.reg [⟨some 4,none,.mv (.t 0)⟩,⟨some 5,none,.call 54 [(.t 4)]⟩,⟨(some 6),none,(.build [(.str ⟨#[]⟩),.nil] [(0,(1,(.t 5)))])⟩,⟨(some 3),none,(.alloc 24 [(.str ⟨#[]⟩),.nil])⟩,⟨none,none,(.store 2 (.t 3) (.t 6))⟩]) (.seq (.seq (.reg [⟨some 7,none,.mv (.t 0)⟩,⟨(some 8),none,(.call 53 [(.t 7),(.c (.str ⟨#[40]⟩))])⟩]) (.cond (.t 8) (.seq (.dreg [[],[0],[],[2],[3,2],[1,0,4,3,2],[0,1,2,3,4,5],[6,0,1,2,3,4,5]] [⟨some 9,none,.faddr 1 (.t 3)⟩,⟨some 10,none,.load false 1 (.t 9)⟩,⟨some 11,none,.mv (.t 0)⟩,⟨some 12,none,.call 92 [(.t 11)]⟩,⟨(some 13),none,(.mkrow 24 2 [(.str ⟨#[]⟩),.nil] 1 [(0,(.t 12))])⟩,⟨(some 14),none,(.append 24 2 40 [(.str ⟨#[]⟩),.nil] (.t 10) (.t 13))⟩,⟨some 15,none,.faddr 1 (.t 3)⟩,⟨none,none,(.store 1 (.t 15) (.t 14))⟩]) (.seq (.block 0 (.loop [1,0,1,1,0,0,0,0,0,0,0,0,0,0,0,0,0,0,0,0,0,0,0,0,0,0,0,0] (.seq (.seq (.reg [⟨some 16,none,.mv (.t 0)⟩,⟨(some 17),none,(.call 53 [(.t 16),(.c (.str ⟨#[44]⟩))])⟩]) (.cond (.t 17) .skip (.exit 0))) (.block 1 (.dreg [[],[0],[],[2],[3,2],[1,0,4,3,2],[0,1,2,3,4,5],[6,0,1,2,3,4,5]] [⟨some 18,none,.faddr 1 (.t 3)⟩,⟨some 19,none,.load false 1 (.t 18)⟩,⟨some 20,none,.mv (.t 0)⟩,⟨some 21,none,.call 92 [(.t 20)]⟩,⟨(some 22),none,(.mkrow 24 2 [(.str ⟨#[]⟩),.nil] 1 [(0,(.t 21))])⟩,⟨(some 23),none,(.append 24 2 40 [(.str ⟨#[]⟩),.nil] (.t 19) (.t 22))⟩,⟨some 24,none,.faddr 1 (.t 3)⟩,⟨none,none,(.store 1 (.t 24) (.t 23))⟩]))))) (.reg [⟨some 25,none,.mv (.t 0)⟩,⟨(some 26),none,(.call 55 [(.t 25),(.c (.str ⟨#[41]⟩))])⟩]))) .skip)) (.seq (.reg [⟨some 27,none,.load true 2 (.t 3)⟩,⟨none,none,(.store 2 (.t 2) (.t 27))⟩]) .ret))))
theorem Fq:codeOf Try.prog 92=some ⟨28,Cn,[(.cell 2 true 2)]⟩:=by kernel_rfl
theorem Bx:modes 92=⟨[],.own [none,some (24,2)],none,false⟩:=by unfold modes; rfl
theorem OK (s:ByteArray) (i:Nat) (c:UInt8) (hi:i≤s.size) (hh:Ci s i c.toNat=false):E 53 [.ptr 0 0,.str ⟨#[c]⟩] [psr s i false]=some (.bool false,[psr s i false]) :=
 EM s i _ hi (by rw [E1 hi]; exact hh)
theorem MT (s:ByteArray) (i:Nat) (c:UInt8) (hs:s.size≤1048576) (hi:i≤s.size) (hh:Ci s i c.toNat=true):E 53 [.ptr 0 0,.str ⟨#[c]⟩] [psr s i false]=some (.bool true,[psr s (i+1) false]) :=
 E2 s i ⟨#[c]⟩ (by show i+1≤_; omega) hi (by rw [E1 hi]; exact hh)
theorem SB (s:ByteArray) (i:Nat) (c:UInt8) (hi:i≤s.size) (hh:Ci s i c.toNat=false):E 55 [.ptr 0 0,.str ⟨#[c]⟩] [psr s i false]=some (.tup [],[psr s i true]) :=
 Qv s i _ hi (by rw [E1 hi]; exact hh)
theorem QZ (s:ByteArray) (i:Nat) (c:UInt8) (hs:s.size≤1048576) (hi:i≤s.size) (hh:Ci s i c.toNat=true):E 55 [.ptr 0 0,.str ⟨#[c]⟩] [psr s i false]=some (.tup [],[psr s (i+1) false]) :=
 OJ s i ⟨#[c]⟩ (by show i+1≤_; omega) hi (by rw [E1 hi]; exact hh)
noncomputable def Jb (r:Nat→Option (Tm × Nat)) (s:ByteArray) (m:Nat) (acc:List Tm) (e:Nat):Option (List Tm × Nat) :=
 bif Ci s e 44 then (match rdL r s m (e+1) with
  | none=>none
  | some (ts,e')=>some (acc++ts,e')) else bif Ci s e 41 then some (acc,e+1) else none
theorem MU (r:Nat→Option (Tm × Nat)) (s:ByteArray) (m i:Nat):rdL r s (m+1) i=match r i with
  | none=>none
  | some (t,e)=>Jb r s m [t] e:=by
 rw [rdL]
 cases r i with
 | none=>rfl
 | some p=>rfl
theorem PD {r:Nat→Option (Tm × Nat)} {s:ByteArray} {m:Nat} {acc:List Tm} {e:Nat} (h:Ci s e 44=true):Jb r s (m+1) acc e=match r (e+1) with
  | none=>none
  | some (t,e2)=>Jb r s m (acc++[t]) e2:=by
 unfold Jb
 rw [h,cond_true,MU]
 cases r (e+1) with
 | none=>rfl
 | some p =>
  obtain ⟨t,e2⟩:=p
  simp only
  unfold Jb
  cases Ci s e2 44 with
  | true =>
   simp only [cond_true]
   cases rdL r s m (e2+1) with
   | none=>rfl
   | some q=>simp only [zN]
  | false =>
   simp only [cond_false]
   cases Ci s e2 41 with
   | true=>rfl
   | false=>rfl
theorem Ra {r:Nat→Option (Tm × Nat)} {s:ByteArray} {m:Nat} {acc:List Tm} {e:Nat} (h:Ci s e 44=false):Jb r s m acc e=bif Ci s e 41 then some (acc,e+1) else none:=by
 unfold Jb
 rw [h,cond_false]
def Qw (s:ByteArray) (i:Nat) (r:Option (Tm × Nat)) (out:SV × List Ob):Prop :=
 ∃ (t:Tm) (j:Nat) (f:Bool),out=(.agg [.str t.name,.ref 1],[psr s j f,.row 24 2 (t.args.map Tm.o)])∧i≤j∧j≤s.size∧(match r with
  | some (t0,e)=>t=t0∧j=e∧f=false
  | none=>f=true)
theorem Ue (s:ByteArray) (hs:s.size≤1048576) (n:Nat) (ih:∀ i,i≤s.size→s.size-i<n→∃ out,E 92 [.ptr 0 0] [psr s i false]=some out∧Qw s i (rd s n i) out) (i:Nat) (hi:i≤s.size) (hn:s.size-i<n+1):∃ out,E 92 [.ptr 0 0] [psr s i false]=some out∧Qw s i (rd s (n+1) i) out:=by
 have hw:=PC s i hi hs
 have w1:=En s i
 have w2:=DC s i hi
 rw [rd]
 refine AE Fq Bx (of_decide_eq_true rfl) ?_
 by_cases h0:A3 s i=i
 ·rw [A1 h0] at hw ⊢
  rw [cond_true] at hw ⊢
  have ht:=Fp s (A3 s i) ⟨#[40]⟩
  simp (disch:=omega) only [Cn,go_sem,Ab,hw,ht,Av,Ao,Ap]
  exact ⟨_,rfl,.mk ⟨#[]⟩ [],A3 s i,true,rfl,w1,w2,rfl⟩
 ·rw [An h0] at hw ⊢
  rw [cond_false] at hw ⊢
  cases hc:Ci s (A3 s i) 40 with
  | false =>
   have ht:=OK s (A3 s i) 40 w2 hc
   simp only [cond_false]
   simp (disch:=omega) only [Cn,go_sem,Ab,hw,ht,Av,Ao,Ap]
   exact ⟨_,rfl,.mk (s.extract i (A3 s i)) [],A3 s i,false,rfl,w1,w2,rfl,rfl,rfl⟩
  | true =>
   obtain ⟨c1,c2⟩:=Bp.1 hc
   have ht:=MT s (A3 s i) 40 hs w2 hc
   obtain ⟨m,rfl⟩:∃ m,n=m+1:=⟨n-1,by omega⟩
   obtain ⟨total,htot⟩:∃ total,total=rdL (rd s (m+1)) s (m+1) (A3 s i+1):=⟨_,rfl⟩
   rw [←htot]
   simp only [cond_true]
   rw [MU] at htot
   obtain ⟨out1,hc1,t1,j1,f1,rfl,g1,g2,g3⟩:=ih (A3 s i+1) (by omega) (by omega)
   have start:i≤j1∧j1≤s.size∧[t1].length≤j1∧(f1=true→total=none)∧(f1=false→∃ q,s.size-j1≤q∧total=Jb (rd s (m+1)) s q [t1] j1):=by
    refine ⟨by omega,g2,by simp only [zL,zV]; omega,?_,?_⟩
    ·rintro rfl
     cases hr:rd s (m+1) (A3 s i+1) with
     | none=>rw [hr] at htot; exact htot
     | some p=>rw [hr] at g3; exact absurd g3.2.2 (by simp)
    ·rintro rfl
     cases hr:rd s (m+1) (A3 s i+1) with
     | none=>rw [hr] at g3; cases g3
     | some p =>
      obtain ⟨t0,e0⟩:=p
      rw [hr] at g3 htot
      obtain ⟨rfl,rfl,_⟩:=g3
      exact ⟨m,by omega,htot⟩
   simp (disch:=omega) only [Cn,go_sem,Ab,hw,ht,hc1,Av,Ao,Ap,Bx]
   refine go_loop (α:=List Tm × Nat × Bool) (fun a=>⟨slots 28 0 [(0,.ptr 0 0),(2,.ptr 1 0),(3,.ptr 2 0)],[psr s a.2.1 a.2.2,.box 24 [.str ⟨#[]⟩,.nil],.box 24 [.str (s.extract i (A3 s i)),.ref 3],.row 24 2 (a.1.map Tm.o)]⟩) (fun a=>i≤a.2.1∧a.2.1≤s.size∧a.1.length≤a.2.1∧(a.2.2=true→total=none)∧(a.2.2=false→∃ q,s.size-a.2.1≤q∧total=Jb (rd s (m+1)) s q a.1 a.2.1)) (fun a=>if a.2.2 then 0 else s.size-a.2.1+1) ([t1],j1,f1) start (by simp (disch:=omega) only [go_sem,Ab,zC,yB,Tm.o_eq]) ?_
   rintro ⟨acc,j,fl⟩ ⟨hij,hj,hal,hR1,hR2⟩
   dsimp only at hij hj hal hR1 hR2
   cases fl with
   | true =>
    have htk:=Fp s j ⟨#[44]⟩
    have hmu:=SA s j ⟨#[41]⟩
    rw [hR1 rfl]
    simp (disch:=omega) only [go_sem,Ab,htk,hmu,Av,Ao,Ap]
    exact ⟨_,rfl,.mk (s.extract i (A3 s i)) acc,j,true,rfl,by omega,hj,rfl⟩
   | false =>
    obtain ⟨q,hq,hR⟩:=hR2 rfl
    cases hcm:Ci s j 44 with
    | false =>
     rw [Ra hcm] at hR
     have htk:=OK s j 44 hj hcm
     cases hcl:Ci s j 41 with
     | false =>
      have hmu:=SB s j 41 hj hcl
      rw [hcl,cond_false] at hR
      rw [hR]
      simp (disch:=omega) only [go_sem,Ab,htk,hmu,Av,Ao,Ap]
      exact ⟨_,rfl,.mk (s.extract i (A3 s i)) acc,j,true,rfl,by omega,hj,rfl⟩
     | true =>
      obtain ⟨d1,d2⟩:=Bp.1 hcl
      have hmu:=QZ s j 41 hs hj hcl
      rw [hcl,cond_true] at hR
      rw [hR]
      simp (disch:=omega) only [go_sem,Ab,htk,hmu,Av,Ao,Ap]
      exact ⟨_,rfl,.mk (s.extract i (A3 s i)) acc,j+1,false,rfl,by omega,by omega,rfl,rfl,rfl⟩
    | true =>
     obtain ⟨d1,d2⟩:=Bp.1 hcm
     have htk:=MT s j 44 hs hj hcm
     obtain ⟨q,rfl⟩:∃ q',q=q'+1:=⟨q-1,by omega⟩
     rw [PD hcm] at hR
     obtain ⟨out2,hc2,t2,j2,f2,rfl,k1,k2,k3⟩:=ih (j+1) (by omega) (by omega)
     simp (disch:=omega) only [go_sem,Ab,htk,hc2,Av,Ao,Ap,Bx,z8]
     refine ⟨(acc++[t2],j2,f2),⟨by dsimp only; omega,k2,by simp only [zR,zL,zV]; omega,?_,?_⟩,?_,?_⟩
     ·intro hf
      dsimp only at hf
      subst hf
      cases hr:rd s (m+1) (j+1) with
      | none=>rw [hr] at hR; exact hR
      | some p=>rw [hr] at k3; exact absurd k3.2.2 (by simp)
     ·intro hf
      dsimp only at hf
      subst hf
      cases hr:rd s (m+1) (j+1) with
      | none=>rw [hr] at k3; cases k3
      | some p =>
       obtain ⟨t0,e0⟩:=p
       rw [hr] at k3 hR
       obtain ⟨rfl,rfl,_⟩:=k3
       exact ⟨q,by dsimp only; omega,hR⟩
     ·show (if f2=true then 0 else s.size-j2+1)<s.size-j+1
      split
      ·omega
      ·cases hr:rd s (m+1) (j+1) with
       | none=>rw [hr] at k3; simp only at k3; rename_i h; exact absurd k3 h
       | some p=>omega
     ·exact ⟨rfl,by simp only [z7,zC,yB,Tm.o_eq]⟩
theorem PE (s:ByteArray) (hs:s.size≤1048576):∀ (n i:Nat),i≤s.size→s.size-i<n→∃ out,E 92 [.ptr 0 0] [psr s i false]=some out∧Qw s i (rd s n i) out
 | 0,i,_,h=>absurd h (by omega)
 | n+1,i,hi,hn=>Ue s hs n (fun i hi hn=>PE s hs n i hi hn) i hi hn
def Id:SC:=(.seq (.reg [⟨(some 4),none,(.alloc 24 [(.str ⟨#[]⟩),.nil])⟩,⟨some 5,none,.mv (.c (.int .i64 0))⟩]) (.seq (.reg [⟨some 10,none,.mv (.t 1)⟩,⟨some 6,none,.mv (.t 10)⟩]) (.seq (.block 0 (.loop [1,1,0,0,1,0,1,0,0,0,0,0,0,0,0,0,0,0,0,0,0,0,0,0,0,0,0,0,0,0,0,0,0,0,0,0,0,0,0,0,0,0,0,0,0,0,0,0,0,0,0,0,0,0,0,0,0,0,0,0,0,0,0,0,0,0,0,0,0,0,0,0,0,0,0,0,0,0,0,0,0,0,0,0,0,0] (.seq (.seq (.reg [⟨some 11,none,.mv (.t 6)⟩,⟨some 12,none,.mv (.t 0)⟩,⟨some 13,none,.len true (.t 12)⟩,⟨some 14,none,.bin .lss false (.t 11) (.t 13)⟩,⟨some 15,none,.mv (.t 14)⟩,⟨(some 16),(some (15,true)),(.mv (.t 0))⟩,⟨(some 17),(some (15,true)),(.mv (.t 6))⟩,⟨(some 18),(some (15,true)),(.idx (.t 16) (.t 17))⟩,⟨(some 19),(some (15,true)),(.call 84 [(.t 18)])⟩,⟨some 20,none,.pick (.t 15) (.t 19) (.c (.bool false))⟩]) (.cond (.t 20) .skip (.exit 0))) (.block 1 (.reg [⟨some 21,none,.mv (.t 6)⟩,⟨some 22,none,.bin .add false (.t 21) (.c (.int .i64 1))⟩,⟨some 6,none,.mv (.t 22)⟩]))))) (.seq (.reg [⟨some 23,none,.mv (.t 0)⟩,⟨some 24,none,.mv (.t 1)⟩,⟨some 25,none,.mv (.t 6)⟩,⟨some 26,none,.slice true 0 (.t 23) (some (.t 24)) (some (.t 25))⟩,⟨(some 27),none,(.build [(.str ⟨#[]⟩),.nil] [(0,(1,(.t 26)))])⟩,⟨(some 7),none,(.alloc 24 [(.str ⟨#[]⟩),.nil])⟩,⟨none,none,(.store 2 (.t 7) (.t 27))⟩]) (.seq (.seq (.reg [⟨some 28,none,.mv (.t 6)⟩,⟨some 29,none,.mv (.t 1)⟩,⟨some 30,none,.bin .eql false (.t 28) (.t 29)⟩]) (.cond (.t 30) (.seq (.reg [⟨some 31,none,.load true 2 (.t 7)⟩,⟨none,none,(.store 2 (.t 4) (.t 31))⟩,⟨some 5,none,.mv (.c (.int .i64 (-(0+1))))⟩]) .ret) .skip)) (.seq (.seq (.reg [⟨some 32,none,.mv (.t 6)⟩,⟨some 33,none,.mv (.t 0)⟩,⟨some 34,none,.len true (.t 33)⟩,⟨some 35,none,.bin .eql false (.t 32) (.t 34)⟩,⟨some 36,none,.mv (.t 35)⟩,⟨(some 37),(some (36,false)),(.mv (.t 0))⟩,⟨(some 38),(some (36,false)),(.mv (.t 6))⟩,⟨(some 39),(some (36,false)),(.idx (.t 37) (.t 38))⟩,⟨(some 40),(some (36,false)),(.bin .neq false (.t 39) (.c (.int .u8 40)))⟩,⟨some 41,none,.pick (.t 36) (.c (.bool true)) (.t 40)⟩]) (.cond (.t 41) (.seq (.reg [⟨some 42,none,.load true 2 (.t 7)⟩,⟨some 43,none,.mv (.t 6)⟩,⟨none,none,(.store 2 (.t 4) (.t 42))⟩,⟨some 5,none,.mv (.t 43)⟩]) .ret) .skip)) (.block 2 (.loop [1,0,0,0,1,0,1,1,0,0,0,0,0,0,0,0,0,0,0,0,0,0,0,0,0,0,0,0,0,0,0,0,0,0,0,0,0,0,0,0,0,0,0,0,0,0,0,0,0,0,0,0,0,0,0,0,0,0,0,0,0,0,0,0,0,0,0,0,0,0,0,0,0,0,0,0,0,0,0,0,0,0,0,0,0,0] (.block 3 (.seq (.reg [⟨some 45,none,.mv (.t 0)⟩,⟨some 46,none,.mv (.t 6)⟩,⟨some 47,none,.bin .add false (.t 46) (.c (.int .i64 1))⟩,⟨some 48,none,.call 85 [(.t 45),(.t 47)]⟩,⟨some 44,none,.mv (.t 48)⟩,⟨some 49,none,.ext (.t 44) 0⟩,⟨some 50,none,.ext (.t 44) 1⟩,⟨(some 8),none,(.alloc 24 [(.str ⟨#[]⟩),.nil])⟩,⟨none,none,(.store 2 (.t 8) (.t 49))⟩,⟨some 9,none,.mv (.t 50)⟩]) (.seq (.seq (.reg [⟨some 51,none,.mv (.t 9)⟩,⟨some 52,none,.bin .lss false (.t 51) (.c (.int .i64 0))⟩,⟨some 53,none,.mv (.t 52)⟩,⟨(some 54),(some (53,false)),(.mv (.t 9))⟩,⟨(some 55),(some (53,false)),(.mv (.t 0))⟩,⟨(some 56),(some (53,false)),(.len true (.t 55))⟩,⟨(some 57),(some (53,false)),(.bin .eql false (.t 54) (.t 56))⟩,⟨some 58,none,.pick (.t 53) (.c (.bool true)) (.t 57)⟩,⟨some 59,none,.mv (.t 58)⟩,⟨(some 60),(some (59,false)),(.mv (.t 0))⟩,⟨(some 61),(some (59,false)),(.mv (.t 9))⟩,⟨(some 62),(some (59,false)),(.idx (.t 60) (.t 61))⟩,⟨(some 63),(some (59,false)),(.bin .neq false (.t 62) (.c (.int .u8 44)))⟩,⟨(some 64),(some (59,false)),(.mv (.t 63))⟩,⟨(some 65),(some (64,true)),(.mv (.t 0))⟩,⟨(some 66),(some (64,true)),(.mv (.t 9))⟩,⟨(some 67),(some (64,true)),(.idx (.t 65) (.t 66))⟩,⟨(some 68),(some (64,true)),(.bin .neq false (.t 67) (.c (.int .u8 41)))⟩,⟨(some 69),(some (59,false)),(.pick (.t 64) (.t 68) (.c (.bool false)))⟩,⟨some 70,none,.pick (.t 59) (.c (.bool true)) (.t 69)⟩]) (.cond (.t 70) (.seq (.reg [⟨some 71,none,.load true 2 (.t 7)⟩,⟨none,none,(.store 2 (.t 4) (.t 71))⟩,⟨some 5,none,.mv (.c (.int .i64 (-(0+1))))⟩]) .ret) .skip)) (.seq (.reg [⟨some 72,none,.faddr 1 (.t 7)⟩,⟨some 73,none,.load false 1 (.t 72)⟩,⟨some 74,none,.load true 2 (.t 8)⟩,⟨(some 75),none,(.mkrow 24 2 [(.str ⟨#[]⟩),.nil] 1 [(0,(.t 74))])⟩,⟨(some 76),none,(.append 24 2 40 [(.str ⟨#[]⟩),.nil] (.t 73) (.t 75))⟩,⟨some 77,none,.faddr 1 (.t 7)⟩,⟨none,none,(.store 1 (.t 77) (.t 76))⟩]) (.seq (.reg [⟨some 78,none,.mv (.t 9)⟩,⟨some 6,none,.mv (.t 78)⟩]) (.seq (.reg [⟨some 79,none,.mv (.t 0)⟩,⟨some 80,none,.mv (.t 9)⟩,⟨some 81,none,.idx (.t 79) (.t 80)⟩,⟨some 82,none,.bin .eql false (.t 81) (.c (.int .u8 41))⟩]) (.cond (.t 82) (.seq (.reg [⟨some 83,none,.load true 2 (.t 7)⟩,⟨some 84,none,.mv (.t 9)⟩,⟨some 85,none,.bin .add false (.t 84) (.c (.int .i64 1))⟩,⟨none,none,(.store 2 (.t 4) (.t 83))⟩,⟨some 5,none,.mv (.t 85)⟩]) .ret) .skip)))))))))))))))
theorem LT:codeOf Try.prog 85=some ⟨86,Id,[(.cell 4 true 2),(.tmp 5)]⟩:=by kernel_rfl
theorem AW:modes 85=⟨[],.frz,none,false⟩:=by unfold modes; rfl
theorem Rb (n:Int):E 108 [.int .u8 n] []=some (.bool ((dec (97≤n)&&dec (n≤122)) || (dec (48≤n)&&dec (n≤57))),[]):=by
 cases h1:dec (97≤n) <;> cases h2:dec (n≤122) <;> cases h3:dec (48≤n)
 all_goals
  refine Aj Lw Hr (of_decide_eq_true rfl) ?_
  simp (disch:=omega) only [Hq,go_sem,Ab,h1,h2,h3]
theorem OL (n:Int):E 84 [.int .u8 n] []=some (.bool (Bt n),[]):=by
 have h:=Rb n
 unfold Bt
 generalize (dec (97≤n)&&dec (n≤122))=q1 at *
 generalize (dec (48≤n)&&dec (n≤57))=q3 at *
 cases q1 <;> cases q3 <;> cases h1:dec (65≤n) <;> cases h2:dec (n≤90)
 all_goals
  simp only [yO,yV,Bool.true_or,yW,zK,zZ,zD,zB] at h ⊢
  refine Aj LR BI (of_decide_eq_true rfl) ?_
  simp (disch:=omega) only [Ic,go_sem,Ab,h,h1,h2,Hr]
def SD (r:Option (Tm × Nat)) (out:SV × List Ob):Prop :=
 ∃ (t:Tm) (k:Int),out=(.tup [t.sv,.int .i64 k],[])∧(match r with
  | some (t0,e)=>t=t0∧k=(e:Int)
  | none=>k=-1)
theorem Rc (s:ByteArray) (hs:s.size≤1048576) (n:Nat) (ih:∀ i,i≤s.size→s.size-i<n→∃ out,E 85 [.str s,.int .i64 (i:Int)] []=some out∧SD (rd s n i) out) (i:Nat) (hi:i≤s.size) (hn:s.size-i<n+1):∃ out,E 85 [.str s,.int .i64 (i:Int)] []=some out∧SD (rd s (n+1) i) out:=by
 have w1:=En s i
 have w2:=DC s i hi
 rw [rd]
 refine AE LT AW (of_decide_eq_true rfl) ?_
 simp (disch:=omega) only [Id,go_sem,Ab]
 refine go_loop (α:=Nat) (fun j=>⟨slots 86 0 [(0,.str s),(1,.int .i64 (i:Int)),(4,.ptr 0 0),(6,.int .i64 (j:Int))],[.box 24 [.str ⟨#[]⟩,.nil]]⟩) (fun j=>i≤j∧j≤s.size∧A3 s j=A3 s i) (fun j=>s.size-j) i ⟨z6 _,hi,rfl⟩ (by simp (disch:=omega) only [go_sem,Ab]) ?_
 rintro j ⟨h1,h2,h3⟩
 have hj:((j:Nat):Int).toNat=j:=yA j
 have hw:=OL (Ay s j)
 by_cases hgo:j<s.size∧Bt (Ay s j)=true
 ·have hlt:=hgo.1
  rw [hgo.2] at hw
  have:=Gr hgo.1 hgo.2
  simp (disch:=omega) only [go_sem,Ab,hj,hw,BI]
  exact ⟨j+1,⟨by omega,by omega,by omega⟩,by omega,by first | trivial | (simp only [yS,Int.natCast_one]) | rfl⟩
 have hst:=CM hgo
 obtain rfl:j=A3 s i:=by omega
 have hstop:∀ K1 K2:Unit→Prop,(IV (.bool (dec ((A3 s i:Int)<(s.size:Int)))) K1 K2)=(IV (.bool (dec ((A3 s i:Int)<(s.size:Int)))) K1 K2):=fun _ _=>rfl
 rcases zI (A3 s i) s.size with hlt | hge
 ·have hwf:Bt (Ay s (A3 s i))=false:=by
   cases h:Bt (Ay s (A3 s i)) with
   | false=>rfl
   | true=>exact absurd ⟨hlt,h⟩ hgo
  rw [hwf] at hw
  by_cases h0:A3 s i=i
  ·have h0':((A3 s i:Int)=(i:Int))=True:=eq_true (by omega)
   rw [A1 h0,cond_true]
   simp (disch:=omega) only [go_sem,Ab,hj,hw,h0',BI]
   exact ⟨_,rfl,.mk (s.extract i (A3 s i)) [],-1,rfl,rfl⟩
  ·have h0':((A3 s i:Int)=(i:Int))=False:=eq_false (by omega)
   have h0s:((A3 s i:Int)=(s.size:Int))=False:=eq_false (by omega)
   rw [An h0,cond_false]
   cases hc:Ci s (A3 s i) 40 with
   | false =>
    have hb:(Ay s (A3 s i)=40)=False:=eq_false fun e=>by rw [Bp.2 ⟨hlt,e⟩] at hc; cases hc
    rw [cond_false]
    simp (disch:=omega) only [go_sem,Ab,hj,hw,h0',h0s,hb,BI]
    exact ⟨_,rfl,.mk (s.extract i (A3 s i)) [],(A3 s i:Int),rfl,rfl,rfl⟩
   | true =>
    obtain ⟨c1,c2⟩:=Bp.1 hc
    have hb:(Ay s (A3 s i)=40)=True:=eq_true c2
    rw [cond_true]
    obtain ⟨total,htot⟩:∃ total,total=rdL (rd s n) s n (A3 s i+1):=⟨_,rfl⟩
    rw [←htot]
    have h10:(([]:List Tm)=[])=True:=eq_self _
    simp (disch:=omega) only [go_sem,Ab,hj,hw,h0',h0s,hb,BI]
    refine go_loop (α:=List Tm × Nat) (fun a=>⟨slots 86 0 [(0,.str s),(4,.ptr 0 0),(6,.int .i64 (a.2:Int)),(7,.ptr 1 0)],(if a.1=[] then [.box 24 [.str ⟨#[]⟩,.nil],.box 24 [.str (s.extract i (A3 s i)),.nil]] else [.box 24 [.str ⟨#[]⟩,.nil],.box 24 [.str (s.extract i (A3 s i)),.ref 2],.row 24 2 (a.1.map Tm.osh)])⟩) (fun a=>i≤a.2∧a.2<s.size∧a.1.length≤a.2∧∃ q,s.size-(a.2+1)<q∧total=(match rdL (rd s n) s q (a.2+1) with | none=>none | some (ts,e)=>some (a.1++ts,e))) (fun a=>s.size-a.2) ([],A3 s i) ⟨w1,hlt,by simp,n,by dsimp only; omega,by rw [htot]; dsimp only; split <;> simp_all⟩ (by simp (disch:=omega) only [go_sem,Ab,h10,if_true]) ?_
    rintro ⟨acc,j⟩ ⟨hij,hj2,hal,q,hq,hR⟩
    dsimp only at hij hj2 hal hq hR
    have hjn:((j:Nat):Int).toNat=j:=yA j
    have hj1:((j:Int)+1)=((j+1:Nat):Int):=by simp
    obtain ⟨q,rfl⟩:∃ q',q=q'+1:=⟨q-1,by omega⟩
    rw [rdL] at hR
    obtain ⟨out1,hc1,t1,k1,rfl,g1⟩:=ih (j+1) (by omega) (by omega)
    cases hr:rd s n (j+1) with
    | none =>
     rw [hr] at g1 hR
     have hR:total=none:=hR
     have g1:k1=-1:=g1
     subst g1
     rw [hR]
     rcases zX acc with ha | ⟨ys,y,ha⟩
     ·subst ha
      simp (disch:=omega) only [go_sem,Ab,hj1,hjn,hc1,if_true,eq_self,AW]
      exact ⟨_,rfl,.mk (s.extract i (A3 s i)) [],-1,rfl,rfl⟩
     ·have hne:(acc=[])=False:=eq_false (by rw [ha]; simp)
      have hfu:=Tm.Gq acc
      have her:=Tm.J7 acc
      simp (disch:=omega) only [go_sem,Ab,hj1,hjn,hc1,hne,if_false,hfu,her,AW]
      exact ⟨_,rfl,.mk (s.extract i (A3 s i)) acc,-1,rfl,rfl⟩
    | some p =>
     obtain ⟨t0,e0⟩:=p
     rw [hr] at g1 hR
     obtain ⟨rfl,rfl⟩:=g1
     obtain ⟨z1,z2,_⟩:=GG n (j+1) t1 e0 (by omega) hr
     have hen:((e0:Nat):Int).toNat=e0:=yA e0
     simp only at hR
     have xn:((e0:Int)<0)=False:=eq_false (by omega)
     by_cases he:e0=s.size
     ·have x1:((e0:Int)=(s.size:Int))=True:=eq_true (by omega)
      have b1:∀ c,Ci s e0 c=false:=fun c=>by
       cases h:Ci s e0 c with
       | false=>rfl
       | true=>have:=(Bp.1 h).1; omega
      rw [b1,b1,cond_false,cond_false] at hR
      have hR:total=none:=hR
      rw [hR]
      rcases zX acc with ha | ⟨ys,y,ha⟩
      ·subst ha
       simp (disch:=omega) only [go_sem,Ab,hj1,hjn,hc1,hen,xn,x1,if_true,eq_self,AW]
       exact ⟨_,rfl,.mk (s.extract i (A3 s i)) [],-1,rfl,rfl⟩
      ·have hne:(acc=[])=False:=eq_false (by rw [ha]; simp)
       have hfu:=Tm.Gq acc
       have her:=Tm.J7 acc
       simp (disch:=omega) only [go_sem,Ab,hj1,hjn,hc1,hen,xn,x1,hne,if_false,hfu,her,AW]
       exact ⟨_,rfl,.mk (s.extract i (A3 s i)) acc,-1,rfl,rfl⟩
     ·have hel:e0<s.size:=by omega
      have x1:((e0:Int)=(s.size:Int))=False:=eq_false (by omega)
      have hfa:=Tm.Gq (acc++[t1])
      have hera:=Tm.J7 (acc++[t1])
      have hma:acc.map Tm.osh++[[OT.str t1.name,.sh (t1.args.map Tm.d)]]=(acc++[t1]).map Tm.osh:=by rw [z7]; rfl
      have hm1:[[OT.str t1.name,.sh (t1.args.map Tm.d)]]=[t1].map Tm.osh:=rfl
      have hnea:(acc++[t1]=[])=False:=eq_false (by simp)
      have hne1:([t1]=[])=False:=eq_false (by simp)
      have hf1:=Tm.Gq [t1]
      have he1:=Tm.J7 [t1]
      by_cases b44:Ay s e0=44
      ·have x44:(Ay s e0=44)=True:=eq_true b44
       have x41:(Ay s e0=41)=False:=eq_false (by omega)
       rw [Bp.2 ⟨hel,b44⟩,cond_true] at hR
       have next:i≤e0∧e0<s.size∧(acc++[t1]).length≤e0∧∃ q,s.size-(e0+1)<q∧total=(match rdL (rd s n) s q (e0+1) with | none=>none | some (ts,e)=>some ((acc++[t1])++ts,e)):=by
        refine ⟨by omega,hel,by rw [zR]; simp only [zL,zV]; omega,q,by omega,?_⟩
        rw [hR]
        cases rdL (rd s n) s q (e0+1) with
        | none=>rfl
        | some p=>simp only [zN,yC,List.nil_append]
       rcases zX acc with ha | ⟨ys,y,ha⟩
       ·subst ha
        simp (disch:=omega) only [go_sem,Ab,hj1,hjn,hc1,hen,xn,x1,x44,x41,if_true,eq_self,AW]
        refine ⟨([t1],e0),next,by dsimp only; omega,?_⟩
        first | trivial | rfl | (simp (disch:=omega) only [go_sem,Ab,hnea,hne1,if_false,hma,hm1])
       ·have hne:(acc=[])=False:=eq_false (by rw [ha]; simp)
        simp (disch:=omega) only [go_sem,Ab,hj1,hjn,hc1,hen,xn,x1,x44,x41,hne,if_false,hfa,hera,hma,AW,z8]
        refine ⟨(acc++[t1],e0),next,by dsimp only; omega,?_⟩
        first | trivial | rfl | (simp (disch:=omega) only [go_sem,Ab,hnea,hne1,if_false,hma,hm1])
      ·have x44:(Ay s e0=44)=False:=eq_false b44
       have b44':Ci s e0 44=false:=by
        cases h:Ci s e0 44 with
        | false=>rfl
        | true=>exact absurd (Bp.1 h).2 b44
       rw [b44',cond_false] at hR
       by_cases b41:Ay s e0=41
       ·have x41:(Ay s e0=41)=True:=eq_true b41
        rw [Bp.2 ⟨hel,b41⟩,cond_true] at hR
        have hR:total=some (acc++[t1],e0+1):=hR
        rw [hR]
        rcases zX acc with ha | ⟨ys,y,ha⟩
        ·subst ha
         simp (disch:=omega) only [go_sem,Ab,hj1,hjn,hc1,hen,xn,x1,x44,x41,if_true,eq_self,AW]
         exact ⟨_,rfl,.mk (s.extract i (A3 s i)) [t1],((e0+1:Nat):Int),by first | rfl | (simp only [Tm.sv,Tm.args,Tm.name,zC,yB,Tm.d_eq]; rfl),rfl,rfl⟩
        ·have hne:(acc=[])=False:=eq_false (by rw [ha]; simp)
         simp (disch:=omega) only [go_sem,Ab,hj1,hjn,hc1,hen,xn,x1,x44,x41,hne,if_false,hfa,hera,hma,AW,z8]
         exact ⟨_,rfl,.mk (s.extract i (A3 s i)) (acc++[t1]),((e0+1:Nat):Int),rfl,rfl,rfl⟩
       ·have x41:(Ay s e0=41)=False:=eq_false b41
        have b41':Ci s e0 41=false:=by
         cases h:Ci s e0 41 with
         | false=>rfl
         | true=>exact absurd (Bp.1 h).2 b41
        rw [b41',cond_false] at hR
        have hR:total=none:=hR
        rw [hR]
        rcases zX acc with ha | ⟨ys,y,ha⟩
        ·subst ha
         simp (disch:=omega) only [go_sem,Ab,hj1,hjn,hc1,hen,xn,x1,x44,x41,if_true,eq_self,AW]
         exact ⟨_,rfl,.mk (s.extract i (A3 s i)) [],-1,rfl,rfl⟩
        ·have hne:(acc=[])=False:=eq_false (by rw [ha]; simp)
         have hfu:=Tm.Gq acc
         have her:=Tm.J7 acc
         simp (disch:=omega) only [go_sem,Ab,hj1,hjn,hc1,hen,xn,x1,x44,x41,hne,if_false,hfu,her,AW,z8]
         exact ⟨_,rfl,.mk (s.extract i (A3 s i)) acc,-1,rfl,rfl⟩
 ·have hge':((A3 s i:Int)=(s.size:Int))=True:=eq_true (by omega)
  by_cases h0:A3 s i=i
  ·have h0':((A3 s i:Int)=(i:Int))=True:=eq_true (by omega)
   rw [A1 h0,cond_true]
   simp (disch:=omega) only [go_sem,Ab,hj,hw,h0',hge',BI]
   exact ⟨_,rfl,.mk (s.extract i (A3 s i)) [],-1,rfl,rfl⟩
  ·have h0':((A3 s i:Int)=(i:Int))=False:=eq_false (by omega)
   have hc:Ci s (A3 s i) 40=false:=by
    cases h:Ci s (A3 s i) 40 with
    | false=>rfl
    | true=>have:=(Bp.1 h).1; omega
   rw [An h0,cond_false,hc,cond_false]
   simp (disch:=omega) only [go_sem,Ab,hj,hw,h0',hge',BI]
   exact ⟨_,rfl,.mk (s.extract i (A3 s i)) [],(A3 s i:Int),rfl,rfl,rfl⟩
theorem Hs:modes 100=⟨[],.asis,some (HK MD),false⟩:=by unfold modes; rfl
theorem Vo (xs:List ByteArray) (sep:ByteArray) (h1:xs.length≤1099511627776) (h2:(GF xs sep).size≤1099511627776):E 100 [.arr (xs.map fun s=>[D.str s]),.str sep] []=some (.str (GF xs sep),[]):=by
 refine MJ (g:=MD) (congrArg FM.ext Hs) ?_
 have e:(xs.map fun s=>[D.str s]).map Ln=xs:=by
  rw [yE]
  have:(Ln ∘ fun s=>[D.str s])=id:=rfl
  rw [this,List.map_id]
 simp only [MD,e]
 rw [A1 ⟨fun e he=>by obtain ⟨s,_,rfl⟩:=List.mem_map.1 he; exact ⟨s,rfl⟩,by simpa using h1,h2⟩,cond_true]
def CT:SC:=(.seq (.reg [⟨some 1,none,.boxv 24 2 (.t 0)⟩,⟨(some 2),none,(.mv (.c (.str ⟨#[]⟩)))⟩]) (.seq (.seq (.reg [⟨some 6,none,.load true 2 (.t 1)⟩,⟨some 7,none,.call 64 [(.t 6)]⟩]) (.cond (.t 7) (.seq (.dreg [[],[0],[1,0],[2,1,0],[3,2,1,0],[4,3,2,1,0],[],[6],[7,6],[8,7,6],[9,8,7,6,4,3,2,1,0],[5,4,3,2,1,0,10,9,8,7,6],[11,5,4,3,2,1,0,10,9,8,7,6]] [⟨some 8,none,.faddr 1 (.t 1)⟩,⟨some 9,none,.load false 1 (.t 8)⟩,⟨some 10,none,.iaddr 2 (.t 9) (.c (.int .i64 0))⟩,⟨some 11,none,.load true 2 (.t 10)⟩,⟨some 12,none,.call 63 [(.t 11)]⟩,⟨(some 13),none,(.bin .add false (.t 12) (.c (.str ⟨#[32,61,32]⟩)))⟩,⟨some 14,none,.faddr 1 (.t 1)⟩,⟨some 15,none,.load false 1 (.t 14)⟩,⟨some 16,none,.iaddr 2 (.t 15) (.c (.int .i64 1))⟩,⟨some 17,none,.load true 2 (.t 16)⟩,⟨some 18,none,.call 63 [(.t 17)]⟩,⟨some 19,none,.bin .add false (.t 13) (.t 18)⟩,⟨some 2,none,.mv (.t 19)⟩]) .ret) .skip)) (.seq (.seq (.reg [⟨some 20,none,.faddr 1 (.t 1)⟩,⟨some 21,none,.load false 1 (.t 20)⟩,⟨some 22,none,.len false (.t 21)⟩,⟨some 23,none,.bin .eql false (.t 22) (.c (.int .i64 0))⟩]) (.cond (.t 23) (.seq (.reg [⟨some 24,none,.faddr 0 (.t 1)⟩,⟨some 25,none,.load false 1 (.t 24)⟩,⟨some 2,none,.mv (.t 25)⟩]) .ret) .skip)) (.seq (.reg [⟨(some 26),none,(.mkrow 9 1 [(.str ⟨#[]⟩)] 0 [])⟩,⟨some 3,none,.mv (.t 26)⟩]) (.seq (.seq (.reg [⟨some 27,none,.faddr 1 (.t 1)⟩,⟨some 28,none,.load false 1 (.t 27)⟩,⟨some 29,none,.len false (.t 28)⟩,⟨some 30,none,.mv (.c (.int .i64 0))⟩]) (.block 0 (.loop [0,1,0,1,0,0,0,0,0,0,0,0,0,0,0,0,0,0,0,0,0,0,0,0,0,0,0,0,1,1,1,0,0,0,0,0,0,0,0,0,0,0,0,0,0,0,0] (.seq (.reg [⟨some 31,none,.bin .lss false (.t 30) (.t 29)⟩]) (.seq (.cond (.t 31) .skip (.exit 0)) (.seq (.block 1 (.seq (.reg [⟨some 32,none,.iaddr 2 (.t 28) (.t 30)⟩,⟨some 33,none,.load true 2 (.t 32)⟩,⟨(some 5),none,(.alloc 24 [(.str ⟨#[]⟩),.nil])⟩,⟨none,none,(.store 2 (.t 5) (.t 33))⟩]) (.reg [⟨some 34,none,.mv (.t 3)⟩,⟨some 35,none,.load true 2 (.t 5)⟩,⟨some 36,none,.call 63 [(.t 35)]⟩,⟨(some 37),none,(.mkrow 9 1 [(.str ⟨#[]⟩)] 1 [(0,(.t 36))])⟩,⟨(some 38),none,(.append 9 1 16 [(.str ⟨#[]⟩)] (.t 34) (.t 37))⟩,⟨some 3,none,.mv (.t 38)⟩]))) (.reg [⟨some 39,none,.bin .add false (.t 30) (.c (.int .i64 1))⟩,⟨some 30,none,.mv (.t 39)⟩]))))))) (.seq (.dreg [[],[0],[1,0],[],[3],[2,1,0,4,3],[5,2,1,0,4,3],[6,5,2,1,0,4,3]] [⟨some 40,none,.faddr 0 (.t 1)⟩,⟨some 41,none,.load false 1 (.t 40)⟩,⟨(some 42),none,(.bin .add false (.t 41) (.c (.str ⟨#[40]⟩)))⟩,⟨some 43,none,.mv (.t 3)⟩,⟨(some 44),none,(.call 100 [(.t 43),(.c (.str ⟨#[44]⟩))])⟩,⟨some 45,none,.bin .add false (.t 42) (.t 44)⟩,⟨(some 46),none,(.bin .add false (.t 45) (.c (.str ⟨#[41]⟩)))⟩,⟨some 2,none,.mv (.t 46)⟩]) .ret))))))
theorem DJ:codeOf Try.prog 63=some ⟨47,CT,[(.tmp 2)]⟩:=by kernel_rfl
theorem AP:modes 63=⟨[],.asis,none,false⟩:=by unfold modes; rfl
theorem Rd {α β:Type} (f:α→β) {xs:List α} {k:Nat} (h:k<xs.length):(xs.take k).map f++[f xs[k]]=(xs.take (k+1)).map f:=by
 rw [List.take_succ_eq_append_getElem h,z7]; rfl
theorem LU (x:Tm) (hx:x.names=true) (hn:x.nodes≤1048576) (ih:∀ y∈x.args,E 63 [y.sv] []=some (.str y.txt,[])):E 63 [x.sv] []=some (.str x.txt,[]):=by
 have hl:=Tm.length_le x.args
 have hne:=Tm.nodes_eq x
 have he:=DH x
 rw [Tm.MR hx] at he
 have hsz:=Tm.fmt_len x hx
 rw [←Tm.txt_size] at hsz
 rcases Nat.eq_zero_or_pos x.args.length with h0 | h0
 ·have hx0:x.args=[]:=zO h0
  have hz:((x.args.length:Int)=0)=True:=by rw [hx0]; simp
  rw [Tm.S4 hx0]
  refine Aj DJ AP (of_decide_eq_true rfl) ?_
  simp (disch:=omega) only [CT,go_sem,Ab,hz,he,A6]
 ·have hz:((x.args.length:Int)=0)=False:=eq_false (by omega)
  have hnode:=Tm.S6 (x:=x) (by omega)
  have hs1:(x.name++(⟨#[40]⟩:ByteArray)).size=x.name.size+1:=by rw [zT]; rfl
  have hs2:x.name.size+1+(GF (x.args.map Tm.txt) ⟨#[44]⟩).size+1=x.txt.size:=by
   rw [←hnode,zT,zT,zT]; rfl
  have hs3:(x.name++(⟨#[40]⟩:ByteArray)++GF (x.args.map Tm.txt) ⟨#[44]⟩).size=x.name.size+1+(GF (x.args.map Tm.txt) ⟨#[44]⟩).size:=by rw [zT,hs1]
  have hs4:(⟨#[40]⟩:ByteArray).size=1:=rfl
  have hs5:(⟨#[41]⟩:ByteArray).size=1:=rfl
  have hj:=Vo (x.args.map Tm.txt) ⟨#[44]⟩ (by simp; omega) (by omega)
  rw [yE] at hj
  have hf:∀ k,OT.Br ((x.args.take k).map fun y=>[OT.str y.txt])=true:=fun k=>by
   have:=N9 ((x.args.take k).map Tm.txt)
   rwa [yE] at this
  have her:∀ k,OT.erss ((x.args.take k).map fun y=>[OT.str y.txt])=(x.args.take k).map fun y=>[D.str y.txt]:=fun k=>by
   have:=Qn ((x.args.take k).map Tm.txt)
   rwa [yE,yE] at this
  have htl:x.args.take x.args.length=x.args:=List.take_length
  have hfx:=hf x.args.length
  have herx:=her x.args.length
  rw [htl] at hfx herx
  have hjm:(x.args.map ((fun s=>[D.str s]) ∘ Tm.txt))=x.args.map fun y=>[D.str y.txt]:=rfl
  rw [hjm] at hj
  refine Aj DJ AP (of_decide_eq_true rfl) ?_
  simp (disch:=omega) only [CT,go_sem,Ab,hz,he,A6]
  refine go_loop (α:=Int) (fun a=>⟨slots 47 0 [(1,.ptr 0 0),(3,.ref 1),(28,.arr (x.args.map Tm.d)),(29,.int .i64 x.args.length),(30,.int .i64 a)],[.box 24 [.str x.name,.arr (x.args.map Tm.d)],.row 9 1 ((x.args.take a.toNat).map fun y=>[OT.str y.txt])]⟩) (fun a=>∃ k:Nat,a=k∧k≤(x.args).length) (fun a=>(x.args).length-(a).toNat) 0 ⟨0,rfl,zU _⟩ (by simp (disch:=omega) only [go_sem,Ab,yT]) ?_
  rintro i ⟨k,hi,hk⟩
  have hni:i.toNat=k:=by omega
  have hni1:(i+1).toNat=k+1:=by omega
  rcases zI k (x.args).length with hlt | hge
  ·have hg:=get_at Tm.d hlt
   rw [Tm.d_eq] at hg
   have hc:=ih x.args[k] (zQ hlt)
   have hse:=Rd (fun y:Tm=>[OT.str y.txt]) hlt
   have hkl:((x.args.take k).map fun y=>[OT.str y.txt]).length=k:=by rw [z8,yF]; omega
   have hkl2:(x.args.take k).length=k:=by rw [yF]; omega
   simp (disch:=omega) only [go_sem,Ab,hni,hg,hc,hkl,hkl2,hse,AP]
   refine ⟨i+1,⟨k+1,by omega,hlt⟩,by omega,?_⟩
   simp (disch:=omega) only [go_sem,Ab,hni1,hse]
  ·obtain rfl:k=x.args.length:=by omega
   simp (disch:=omega) only [go_sem,Ab,hni,htl,hfx,herx,hj,hs1,hs2,hs3,hs4,hs5,hnode,Hs]
theorem EN (x:Tm) (hx:x.names=true) (hn:x.nodes≤1048576):E 63 [x.sv] []=some (.str x.txt,[]) :=
 LU x hx hn fun y hy=>EN y (Tm.Ei hx hy) (by have:=Tm.nodes_mem hy; have:=Tm.nodes_eq x; omega)
termination_by SizeOf.sizeOf x
decreasing_by exact Tm.lt_of_mem hy
theorem Lx (s:ByteArray) (hs:s.size≤1048576):∀ (n i:Nat),i≤s.size→s.size-i<n→∃ out,E 85 [.str s,.int .i64 (i:Int)] []=some out∧SD (rd s n i) out
 | 0,i,_,h=>absurd h (by omega)
 | n+1,i,hi,hn=>Rc s hs n (fun i hi hn=>Lx s hs n i hi hn) i hi hn
theorem MW {r:Nat→Option (Tm × Nat)} {s:ByteArray} (hr:∀ i t e,r i=some (t,e)→i+t.nodes≤e) :
  ∀ (m i:Nat) (ts:List Tm) (e:Nat),rdL r s m i=some (ts,e)→i+Tm.nodeS ts≤e
 | 0,i,ts,e,h=>by cases h
 | m+1,i,ts,e,h=>by
  rw [rdL] at h
  cases hq:r i with
  | none=>rw [hq] at h; cases h
  | some p =>
   obtain ⟨t,e0⟩:=p
   rw [hq] at h
   simp only at h
   have h1:=hr i t e0 hq
   cases hc:Ci s e0 44 with
   | true =>
    rw [hc,cond_true] at h
    cases hl:rdL r s m (e0+1) with
    | none=>rw [hl] at h; cases h
    | some q =>
     obtain ⟨us,e1⟩:=q
     rw [hl] at h
     simp only [zE,zH] at h
     obtain ⟨rfl,rfl⟩:=h
     have:=MW hr m (e0+1) us e1 hl
     rw [Tm.nodeS]; omega
   | false =>
    rw [hc,cond_false] at h
    cases hc2:Ci s e0 41 with
    | true =>
     rw [hc2,cond_true] at h
     simp only [zE,zH] at h
     obtain ⟨rfl,rfl⟩:=h
     rw [Tm.nodeS,Tm.nodeS]; omega
    | false=>rw [hc2] at h; cases h
theorem Ly {s:ByteArray}:∀ (n i:Nat) (t:Tm) (e:Nat),rd s n i=some (t,e)→i+t.nodes≤e
 | 0,i,t,e,h=>by cases h
 | n+1,i,t,e,h=>by
  rw [rd] at h
  have w1:=En s i
  by_cases h0:A3 s i=i
  ·rw [A1 h0] at h; cases h
  ·rw [An h0,cond_false] at h
   cases hc:Ci s (A3 s i) 40 with
   | true =>
    rw [hc,cond_true] at h
    cases hl:rdL (rd s n) s n (A3 s i+1) with
    | none=>rw [hl] at h; cases h
    | some q =>
     obtain ⟨us,e1⟩:=q
     rw [hl] at h
     simp only [zE,zH] at h
     obtain ⟨rfl,rfl⟩:=h
     have:=MW (Ly n) n _ us e1 hl
     rw [Tm.nodes_eq]
     show i+(1+Tm.nodeS us)≤_
     omega
   | false =>
    rw [hc,cond_false] at h
    simp only [zE,zH] at h
    obtain ⟨rfl,rfl⟩:=h
    rw [Tm.nodes_eq]
    show i+(1+Tm.nodeS [])≤_
    rw [Tm.nodeS]; omega
theorem CE {t:Tm} (h:t.valid=true):t.names=true:=by
 unfold Tm.valid at h; rw [zA] at h; exact h.2
theorem BU {t:Tm} (h:t.valid=true):t.nodes≤30:=Tm.Lu (by unfold Tm.expr; rw [h]; rfl)
theorem F9 {t:Tm} (h:t.valid=true):t.txt.size≤4000:=by
 have h1:=Tm.fmt_len t (CE h)
 have h2:=BU h
 rw [Tm.txt_size]; omega
def eqSign:List UInt8:=[32,61,32]
def Tm.VG (g:List UInt8):List Tm→List UInt8
 | [a,b]=>a.fmt++g++b.fmt
 | _=>[]
noncomputable def Tm.fmtA (x:Tm):List UInt8:=bif x.eqn then Tm.VG eqSign x.args else x.fmt
noncomputable def Tm.txtA (x:Tm):ByteArray:=⟨x.fmtA.toArray⟩
theorem Tm.Ch (x:Tm):x.txtA.toList=x.fmtA:=Bi _
theorem Tm.G9 {x:Tm} (h:x.atom=true):(x.eqn=false∧x.valid=true)∨(∃ a b,x=.mk ⟨#[61]⟩ [a,b]∧x.eqn=true∧a.names=true∧b.names=true∧x.small=true):=by
 have h0:=h
 unfold Tm.atom at h
 split at h
 ·rename_i he
  rw [zA,zA] at h
  right
  have hl:x.args.length=2:=by simpa using h.1.1
  obtain ⟨nm,us⟩:=x
  have hnm:nm=⟨#[61]⟩:=by unfold Tm.eqn at he; exact At.1 he
  match us,hl with
  | [a,b],_ =>
   refine ⟨a,b,by rw [hnm],he,?_,?_,h.1.2⟩
   ·have:=h.2
    rw [Tm.EU,zY] at this
    exact this a (by simp [Tm.args])
   ·have:=h.2
    rw [Tm.EU,zY] at this
    exact this b (by simp [Tm.args])
 ·rename_i he
  rw [zA] at h
  exact .inl ⟨by simpa using he,h.2⟩
theorem I6 {a b:Tm} {n:ByteArray} (h:(Tm.mk n [a,b]).small=true):a.small=true∧b.small=true:=by
 unfold Tm.small at h ⊢
 rw [zA,decide_eq_true_eq,decide_eq_true_eq,Tm.nodes_eq,Tm.K0] at h
 have e1:(Tm.mk n [a,b]).args=[a,b]:=rfl
 rw [e1,Tm.nodeS,Tm.nodeS,Tm.nodeS,Tm.Ey,Tm.Ey,Tm.Ey] at h
 rw [zA,decide_eq_true_eq,decide_eq_true_eq,zA,decide_eq_true_eq,decide_eq_true_eq]
 omega
def VN (g:List UInt8) (s:ByteArray) (t:Tm):Prop:=∃ a b:Tm,t=.mk ⟨#[61]⟩ [a,b]∧a.valid=true∧b.valid=true∧t.atom=true∧s.toList=a.fmt++g++b.fmt
def VO (s:ByteArray) (t:Tm):Prop:=t.atom=true∧t.txtA=s
theorem SE {s:ByteArray} {t:Tm}:VO s t ↔ VN eqSign s t∨(t.eqn=false∧t.atom=true∧t.valid=true∧s.toList=t.fmt):=by
 constructor
 ·rintro ⟨h1,rfl⟩
  rw [Tm.Ch]
  unfold Tm.fmtA
  rcases Tm.G9 h1 with ⟨h2,h3⟩ | ⟨a,b,rfl,h2,h3,h4,h5⟩
  ·right
   refine ⟨h2,h1,h3,by rw [h2]; rfl⟩
  ·left
   obtain ⟨g1,g2⟩:=I6 h5
   refine ⟨a,b,rfl,by unfold Tm.valid; rw [g1,h3]; rfl,by unfold Tm.valid; rw [g2,h4]; rfl,h1,?_⟩
   rw [Tm.Ch]
   unfold Tm.fmtA
   rw [h2]; rfl
 ·rintro (⟨a,b,rfl,h1,h2,h3,h4⟩ | ⟨h1,h2,h3,h4⟩)
  ·refine ⟨h3,AU ?_⟩
   rw [Tm.Ch,h4]
   have he:(Tm.mk ⟨#[61]⟩ [a,b]).eqn=true:=by unfold Tm.eqn; exact A1 rfl
   unfold Tm.fmtA
   rw [he]; rfl
  ·refine ⟨h2,AU ?_⟩
   rw [Tm.Ch,h4]
   unfold Tm.fmtA
   rw [h1]; rfl
open Classical in
theorem SF {t:Tm} (h:t.atom=true):t.txtA.size≤4000:=by
 obtain hq:=SE.1 ⟨h,rfl⟩
 rcases hq with ⟨a,b,rfl,h1,h2,h3,h4⟩ | ⟨_,_,h1,h2⟩
 ·have l1:=Tm.fmt_len a (CE h1)
  have l2:=Tm.fmt_len b (CE h2)
  have n1:=BU h1
  have n2:=BU h2
  rw [←AK,h4]
  simp only [zR,eqSign,zL,zV]
  omega
 ·have l1:=Tm.fmt_len t (CE h1)
  have n1:=BU h1
  rw [←AK,h2]; omega
noncomputable def Ds (g s:ByteArray) (n i:Nat):Option (Tm × Nat):=match rd s n i with
 | none=>none
 | some (a,e)=>bif hasB s e g then (match rd s n (e+g.size) with
  | none=>none
  | some (b,e2)=>some (.mk ⟨#[61]⟩ [a,b],e2)) else some (a,e)
theorem SG {s g:ByteArray} (hg:0<g.size):hasB s s.size g=false:=by
 cases h:hasB s s.size g with
 | false=>rfl
 | true=>have:=((AO (z6 _)).1 h).1; omega
theorem Ht {gb s:ByteArray} {n i:Nat} {t:Tm} {e:Nat} (h:Ds gb s n i=some (t,e)) (hs:∀ i t e,rd s n i=some (t,e)→e≤s.size):t.nodes≤2*s.size+1:=by
 unfold Ds at h
 cases h1:rd s n i with
 | none=>rw [h1] at h; cases h
 | some p =>
  obtain ⟨a,e0⟩:=p
  rw [h1] at h
  simp only at h
  have n1:=Ly _ _ _ _ h1
  have z1:=hs _ _ _ h1
  cases hh:hasB s e0 gb with
  | false=>rw [hh] at h; simp only [cond_false,zE,zH] at h; obtain ⟨rfl,rfl⟩:=h; omega
  | true =>
   rw [hh] at h
   simp only [cond_true] at h
   cases h2:rd s n (e0+gb.size) with
   | none=>rw [h2] at h; cases h
   | some p =>
    obtain ⟨b,e2⟩:=p
    rw [h2] at h
    simp only [zE,zH] at h
    obtain ⟨rfl,rfl⟩:=h
    have n2:=Ly _ _ _ _ h2
    have z2:=hs _ _ _ h2
    rw [Tm.nodes_eq]
    show 1+Tm.nodeS [a,b]≤_
    rw [Tm.nodeS,Tm.nodeS,Tm.nodeS]
    omega
theorem PF {s:ByteArray} (i:Nat) (t:Tm) (e:Nat) (h:rd s (s.size+1) i=some (t,e)):e≤s.size:=by
 rcases zI s.size i with hi | hi
 ·exfalso
  rw [rd] at h
  have hw:A3 s i=i:=CM (by omega)
  rw [hw,DE] at h; cases h
 ·exact (GG _ i t e hi h).2.1
noncomputable def qB (op:Int):Bool:=dec (op=8) || dec (op=9)
mutual
def Fm.nodes:Fm→Nat
 | .mk _ _ _ args=>1+Fm.nodeS args
def Fm.nodeS:List Fm→Nat
 | []=>0
 | x :: xs=>Fm.nodes x+Fm.nodeS xs
end
theorem Fm.nodes_eq (x:Fm):x.nodes=1+Fm.nodeS x.parts:=by
 obtain ⟨op,atom,var,parts⟩:=x
 rw [Fm.nodes]; rfl
theorem Fm.nodes_pos (x:Fm):1≤x.nodes:=by rw [Fm.nodes_eq]; omega
theorem Fm.nodes_le:∀ (xs:List Fm) (k:Nat) (h:k<xs.length),xs[k].nodes≤Fm.nodeS xs
 | [],k,h=>absurd h (by simp)
 | x :: xs,0,_=>by rw [Fm.nodeS]; simp
 | x :: xs,k+1,h=>by
  have:=Fm.nodes_le xs k (by simpa using h)
  rw [Fm.nodeS]; simp only [List.getElem_cons_succ]; omega
theorem Fm.nodes_mem {xs:List Fm} {y:Fm} (h:y∈xs):y.nodes≤Fm.nodeS xs:=by
 obtain ⟨k,hk,rfl⟩:=yH h
 exact Fm.nodes_le xs k hk
mutual
def Fm.cap:Fm→Int
 | .mk _ _ _ xs=>Fm.capL xs 1
def Fm.capL:List Fm→Int→Int
 | [],n=>n
 | x :: xs,n=>if 40 < n then n else Fm.capL xs (n+Fm.cap x)
end
theorem Fm.cap_eq (x:Fm):x.cap=Fm.capL x.parts 1:=by
 obtain ⟨op,atom,var,xs⟩:=x
 rw [Fm.cap]; rfl
theorem Fm.capL_spec:∀ (xs:List Fm) (n:Int),(∀ x∈xs,1≤x.cap∧x.cap≤x.nodes∧(x.cap≤40→x.cap=x.nodes))→1≤n→n≤Fm.capL xs n∧Fm.capL xs n≤n+Fm.nodeS xs∧(Fm.capL xs n≤40→Fm.capL xs n=n+Fm.nodeS xs)
 | [],n,_,h=>by simp [Fm.capL,Fm.nodeS]
 | x :: xs,n,hx,h=>by
  rw [Fm.capL,Fm.nodeS]
  have h1:=hx x (by simp)
  split
  ·omega
  ·have:=Fm.capL_spec xs (n+x.cap) (fun y hy=>hx y (by simp [hy])) (by omega)
   omega
theorem Fm.cap_spec (x:Fm):1≤x.cap∧x.cap≤x.nodes∧(x.cap≤40→x.cap=x.nodes):=by
 rw [Fm.cap_eq,Fm.nodes_eq]
 have:=Fm.capL_spec x.parts 1 (fun y hy=>Fm.cap_spec y) (by omega)
 omega
termination_by SizeOf.sizeOf x
decreasing_by exact Fm.lt_of_mem hy
mutual
def Fm.many:Fm→Int→Int
 | .mk _ _ _ xs,m=>Fm.manyL xs m 1
def Fm.manyL:List Fm→Int→Int→Int
 | [],_,n=>n
 | x :: xs,m,n=>if n≤m then Fm.manyL xs m (n+Fm.many x (m-n)) else n
end
theorem Fm.many_eq (x:Fm) (m:Int):x.many m=Fm.manyL x.parts m 1:=by
 obtain ⟨op,atom,var,xs⟩:=x
 rw [Fm.many]; rfl
theorem Fm.manyL_spec (m:Int):∀ (xs:List Fm) (n:Int),(∀ x∈xs,∀ m,0≤m→1≤x.many m∧x.many m≤x.nodes∧(x.many m≤m→x.many m=x.nodes))→1≤n→n≤Fm.manyL xs m n∧Fm.manyL xs m n≤n+Fm.nodeS xs∧(Fm.manyL xs m n≤m→Fm.manyL xs m n=n+Fm.nodeS xs)
 | [],n,_,h=>by simp [Fm.manyL,Fm.nodeS]
 | x :: xs,n,hx,h=>by
  rw [Fm.manyL,Fm.nodeS]
  split
  ·have h1:=hx x (by simp) (m-n) (by omega)
   have:=Fm.manyL_spec m xs (n+x.many (m-n)) (fun y hy=>hx y (by simp [hy])) (by omega)
   omega
  ·omega
theorem Fm.many_spec (x:Fm) (m:Int):1≤x.many m∧x.many m≤x.nodes∧(x.many m≤m→x.many m=x.nodes):=by
 rw [Fm.many_eq,Fm.nodes_eq]
 have:=Fm.manyL_spec m x.parts 1 (fun y hy m _=>Fm.many_spec y m) (by omega)
 omega
termination_by SizeOf.sizeOf x
decreasing_by exact Fm.lt_of_mem hy
noncomputable def Tm.isZ (x:Tm):Bool:=dec (x.name=⟨#[]⟩)&&x.args.length == 0
noncomputable def Fm.form (x:Fm):Bool :=
 if x.op=1∨x.op=2 then x.parts.length == 0&&x.atom.isZ&&dec (x.var=⟨#[]⟩)
 else if x.op=3 then x.parts.length == 0&&x.atom.atom&&dec (x.var=⟨#[]⟩)
 else if x.op=4 then x.parts.length == 1&&x.atom.isZ&&dec (x.var=⟨#[]⟩)
 else if x.op=5∨x.op=6∨x.op=7 then x.parts.length == 2&&x.atom.isZ&&dec (x.var=⟨#[]⟩)
 else if x.op=8∨x.op=9 then x.parts.length == 1&&x.atom.isZ&&CU x.var
 else false
theorem Lz (n:Int):n=1∨n=2∨n=3∨n=4∨n=5∨n=6∨n=7∨n=8∨n=9∨(n≠1∧n≠2∧n≠3∧n≠4∧n≠5∧n≠6∧n≠7∧n≠8∧n≠9):=by omega
mutual
noncomputable def Fm.forms:Fm→Bool
 | .mk op atom var parts=>Fm.form (.mk op atom var parts)&&Fm.Ie parts
noncomputable def Fm.Ie:List Fm→Bool
 | []=>true
 | x :: xs=>Fm.forms x&&Fm.Ie xs
end
theorem Fm.DK (x:Fm):x.forms=(x.form&&Fm.Ie x.parts):=by
 obtain ⟨op,atom,var,parts⟩:=x
 rw [Fm.forms]; rfl
theorem Fm.J8:∀ xs:List Fm,Fm.Ie xs=xs.all Fm.forms
 | []=>rfl
 | x :: xs=>by rw [Fm.Ie,Fm.J8 xs]; rfl
theorem Fm.any_not (xs:List Fm):(!xs.any fun y=>!y.forms)=Fm.Ie xs:=by
 rw [Fm.J8]
 induction xs with
 | nil=>rfl
 | cons x xs ih=>simp only [yL,yU,Bool.not_or,Bool.not_not,ih]
noncomputable def Fm.valid (x:Fm):Bool:=decide (x.nodes≤40)&&x.forms
theorem Fm.length_le:∀ xs:List Fm,xs.length≤Fm.nodeS xs
 | []=>by simp
 | x :: xs=>by
  have h:=Fm.length_le xs
  have h1:=Fm.nodes_pos x
  rw [Fm.nodeS,zL]; omega
mutual
def Fm.tame:Fm→Prop
 | .mk _ atom _ parts=>atom.nodes≤1099511627776∧Fm.Co parts
def Fm.Co:List Fm→Prop
 | []=>True
 | x :: xs=>Fm.tame x∧Fm.Co xs
end
theorem Fm.DL (x:Fm):x.tame=(x.atom.nodes≤1099511627776∧Fm.Co x.parts):=by
 obtain ⟨op,atom,var,parts⟩:=x
 rw [Fm.tame]; rfl
theorem Fm.MX:∀ {xs:List Fm},Fm.Co xs→∀ y∈xs,y.tame
 | [],_,y,hy=>by cases hy
 | x :: xs,h,y,hy=>by
  rw [Fm.Co] at h
  rcases zW.1 hy with rfl | hy
  ·exact h.1
  ·exact Fm.MX h.2 y hy
theorem Fm.Qx {x:Fm} (h:x.tame):x.atom.nodes≤1099511627776:=by rw [Fm.DL] at h; exact h.1
theorem Fm.MY {x y:Fm} (h:x.tame) (hy:y∈x.parts):y.tame:=by rw [Fm.DL] at h; exact Fm.MX h.2 y hy
theorem FA {x:Fm} (h:x.valid=true):x.nodes≤40∧x.forms=true:=by
 unfold Fm.valid at h
 rw [zA,decide_eq_true_eq] at h
 exact h
theorem Tm.Re {x:Tm} (h:x.atom=true):x.expr=true:=by unfold Tm.expr; rw [h,yO]
theorem Tm.PG {x:Tm} (h:x.atom=true):x.nodes≤30:=Tm.Lu (Tm.Re h)
theorem Tm.ND {x:Tm} (h:x.isZ=true):x=.mk ⟨#[]⟩ []:=by
 obtain ⟨n,a⟩:=x
 unfold Tm.isZ at h
 rw [zA] at h
 have h1:n=⟨#[]⟩:=At.1 h.1
 have h3:(a.length == 0)=true:=h.2
 have h2:a=[]:=zO (by simpa using h3)
 rw [h1,h2]
theorem Fm.Dc {x:Fm} (h:x.form=true) (ho:x.op=3):x.parts=[]∧x.atom.atom=true∧x.var=⟨#[]⟩:=by
 unfold Fm.form at h
 simp only [ho] at h
 simp at h
 exact ⟨h.1.1,h.1.2,At.1 h.2⟩
theorem Fm.D9 {x:Fm} (h:x.form=true) (ho:¬ x.op=3):x.atom=.mk ⟨#[]⟩ []:=by
 unfold Fm.form at h
 split at h
 ·rw [zA,zA] at h; exact Tm.ND h.1.2
 ·try rw [if_neg ho] at h
  split at h
  ·rw [zA,zA] at h; exact Tm.ND h.1.2
  ·split at h
   ·rw [zA,zA] at h; exact Tm.ND h.1.2
   ·split at h
    ·rw [zA,zA] at h; exact Tm.ND h.1.2
    ·cases h
theorem Fm.BM {x:Fm} (h:x.form=true) (ho:qB x.op=true):CU x.var=true∧∃ p,x.parts=[p]:=by
 unfold qB at ho
 rw [zS,At,At] at ho
 unfold Fm.form at h
 rw [if_neg (by omega),if_neg (by omega),if_neg (by omega),if_neg (by omega),if_pos (by omega),zA,zA] at h
 refine ⟨h.2,?_⟩
 have hl:x.parts.length=1:=by simpa using h.1.1
 match hq:x.parts,hl with
 | [p],_=>exact ⟨p,rfl⟩
theorem Fm.Bk {x y:Fm} (h:x.forms=true) (hy:y∈x.parts):y.forms=true:=by
 rw [Fm.DK,zA,Fm.J8,zY] at h
 exact h.2 y hy
theorem Fm.AC {x:Fm} (h:x.forms=true):x.form=true:=by
 rw [Fm.DK,zA] at h
 exact h.1
theorem Fm.Ca {x:Fm} (h:x.form=true) (ho:x.op=1∨x.op=2):x=.mk x.op Tm.zero ⟨#[]⟩ []:=by
 have ha:=Fm.D9 h (by omega)
 unfold Fm.form at h
 rw [if_pos ho,zA,zA] at h
 have hl:x.parts.length=0:=by simpa using h.1.1
 have hp:x.parts=[]:=zO hl
 have hv:x.var=⟨#[]⟩:=At.1 h.2
 obtain ⟨op,atom,var,parts⟩:=x
 change atom=_ at ha
 change parts=_ at hp
 change var=_ at hv
 subst ha hp hv; rfl
theorem Fm.E3 {x:Fm} (h:x.form=true) (ho:x.op=4):∃ p,x=.mk 4 Tm.zero ⟨#[]⟩ [p]:=by
 have ha:=Fm.D9 h (by omega)
 unfold Fm.form at h
 rw [if_neg (by omega),if_neg (by omega),if_pos ho,zA,zA] at h
 have hl:x.parts.length=1:=by simpa using h.1.1
 have hv:x.var=⟨#[]⟩:=At.1 h.2
 obtain ⟨op,atom,var,parts⟩:=x
 change atom=_ at ha
 change parts.length=_ at hl
 change var=_ at hv
 change op=_ at ho
 subst ha hv ho
 match parts,hl with
 | [p],_=>exact ⟨p,rfl⟩
theorem Fm.CL {x:Fm} (h:x.form=true) (ho:x.op=5∨x.op=6∨x.op=7):∃ p q,x=.mk x.op Tm.zero ⟨#[]⟩ [p,q]:=by
 have ha:=Fm.D9 h (by omega)
 unfold Fm.form at h
 rw [if_neg (by omega),if_neg (by omega),if_neg (by omega),if_pos ho,zA,zA] at h
 have hl:x.parts.length=2:=by simpa using h.1.1
 have hv:x.var=⟨#[]⟩:=At.1 h.2
 obtain ⟨op,atom,var,parts⟩:=x
 change atom=_ at ha
 change parts.length=_ at hl
 change var=_ at hv
 subst ha hv
 match parts,hl with
 | [p,q],_=>exact ⟨p,q,rfl⟩
theorem Fm.DM {x:Fm} (h:x.form=true) (ho:x.op=8∨x.op=9):∃ p,x=.mk x.op Tm.zero x.var [p]:=by
 have ha:=Fm.D9 h (by omega)
 obtain ⟨_,p,hp⟩:=Fm.BM h (by unfold qB; rw [zS,At,At]; exact ho)
 obtain ⟨op,atom,var,parts⟩:=x
 change atom=_ at ha
 change parts=_ at hp
 subst ha hp
 exact ⟨p,rfl⟩
theorem Fm.Fs {x:Fm} (h:x.form=true):x.op=1∨x.op=2∨x.op=3∨x.op=4∨x.op=5∨x.op=6∨x.op=7∨x.op=8∨x.op=9:=by
 rcases Lz x.op with h1 | h1 | h1 | h1 | h1 | h1 | h1 | h1 | h1 | h1 <;> try omega
 unfold Fm.form at h
 rw [if_neg (by omega),if_neg (by omega),if_neg (by omega),if_neg (by omega),if_neg (by omega)] at h
 cases h
def OM:List UInt8:=[97,108,108,32]
def Kf:List UInt8:=[115,111,109,101,32]
def bTrue:List UInt8:=[116,114,117,101]
def bFalse:List UInt8:=[102,97,108,115,101]
def sgn (op:Int):List UInt8:=if op=5 then [32,38,32] else if op=6 then [32,124,32] else [32,61,62,32]
noncomputable def Vp:List Fm→Bool
 | []=>false
 | p :: _=>p.atom.eqn
noncomputable def fmtC (op:Int) (a:Tm) (v:ByteArray) (q:Bool) (t0 t1:List UInt8):List UInt8 :=
 if op=1 then bTrue else if op=2 then bFalse else if op=3 then a.fmtA else if op=4 then (bif q then 126 :: 40 :: (t0++[41]) else 126 :: t0)
 else if op=8 then OM++(v.toList++46 :: t0) else if op=9 then Kf++(v.toList++46 :: t0) else 40 :: (t0++(sgn op++(t1++[41])))
mutual
noncomputable def Fm.fmt:Fm→List UInt8
 | .mk op a v ps=>fmtC op a v (Vp ps) ((Fm.Jc ps).getD 0 []) ((Fm.Jc ps).getD 1 [])
noncomputable def Fm.Jc:List Fm→List (List UInt8)
 | []=>[]
 | x :: xs=>Fm.fmt x :: Fm.Jc xs
end
noncomputable def Fm.txt (x:Fm):ByteArray:=⟨x.fmt.toArray⟩
theorem Fm.txt_toList (x:Fm):x.txt.toList=x.fmt:=Bi _
theorem MZ (a:Tm) (v:ByteArray) (ps:List Fm):(Fm.mk 1 a v ps).fmt=bTrue:=by rw [Fm.fmt]; unfold fmtC; rw [if_pos rfl]
theorem Na (a:Tm) (v:ByteArray) (ps:List Fm):(Fm.mk 2 a v ps).fmt=bFalse:=by rw [Fm.fmt]; unfold fmtC; rw [if_neg (by omega),if_pos rfl]
theorem L1 (a:Tm) (v:ByteArray) (ps:List Fm):(Fm.mk 3 a v ps).fmt=a.fmtA:=by rw [Fm.fmt]; unfold fmtC; rw [if_neg (by omega),if_neg (by omega),if_pos rfl]
theorem Kg (a:Tm) (v:ByteArray) (p:Fm):(Fm.mk 4 a v [p]).fmt=bif p.atom.eqn then 126 :: 40 :: (p.fmt++[41]) else 126 :: p.fmt:=by
 rw [Fm.fmt]; unfold fmtC; rw [if_neg (by omega),if_neg (by omega),if_neg (by omega),if_pos rfl,Fm.Jc]; rfl
theorem Nb (a:Tm) (v:ByteArray) (p:Fm):(Fm.mk 8 a v [p]).fmt=OM++(v.toList++46 :: p.fmt):=by
 rw [Fm.fmt]; unfold fmtC; rw [if_neg (by omega),if_neg (by omega),if_neg (by omega),if_neg (by omega),if_pos rfl,Fm.Jc]; rfl
theorem Nc (a:Tm) (v:ByteArray) (p:Fm):(Fm.mk 9 a v [p]).fmt=Kf++(v.toList++46 :: p.fmt):=by
 rw [Fm.fmt]; unfold fmtC; rw [if_neg (by omega),if_neg (by omega),if_neg (by omega),if_neg (by omega),if_neg (by omega),if_pos rfl,Fm.Jc]; rfl
theorem L2 {op:Int} (ho:op=5∨op=6∨op=7) (a:Tm) (v:ByteArray) (p q:Fm):(Fm.mk op a v [p,q]).fmt=40 :: (p.fmt++(sgn op++(q.fmt++[41]))):=by
 rw [Fm.fmt]; unfold fmtC; rw [if_neg (by omega),if_neg (by omega),if_neg (by omega),if_neg (by omega),if_neg (by omega),if_neg (by omega),Fm.Jc,Fm.Jc,Fm.Jc]; rfl
theorem EO {s x:ByteArray} {i:Nat} {c:UInt8} {r:List UInt8} (hx:x.toList=c :: r) (hi:i≤s.size) (h:hasB s i x=true):i<s.size∧Ay s i=(c.toNat:Int):=by
 obtain ⟨h1,h2⟩:=(AO hi).1 h
 rw [hx] at h2
 obtain ⟨h3,h4,_⟩:=Ax h2 h1
 have hz:x.size=r.length+1:=by rw [←AK,hx]; rfl
 exact ⟨by omega,h4⟩
theorem Jd {s x:ByteArray} {i:Nat} {c d:UInt8} {r:List UInt8} (hx:x.toList=c :: r) (hi:i≤s.size) (hd:Ay s i=(d.toNat:Int)) (hne:c≠d):hasB s i x=false:=by
 cases h:hasB s i x with
 | false=>rfl
 | true =>
  have h2:=(EO hx hi h).2
  rw [hd] at h2
  exact absurd (UInt8.toNat_inj.1 (by exact_mod_cast h2)).symm hne
theorem D0 {s x:ByteArray} {i e:Nat} {r:List UInt8} (h:seg s i e=x.toList++r) (he:e≤s.size) (hi:i≤e):hasB s i x=true:=by
 obtain ⟨h1,h2,_⟩:=AV h he hi
 rw [AK] at h1 h2
 exact (AO (by omega)).2 ⟨by omega,h2⟩
theorem L3:(⟨#[97,108,108,32]⟩:ByteArray).toList=[97,108,108,32]:=Bi [97,108,108,32]
theorem Je:(⟨#[115,111,109,101,32]⟩:ByteArray).toList=[115,111,109,101,32]:=Bi [115,111,109,101,32]
theorem L4:(⟨#[126]⟩:ByteArray).toList=[126]:=Bi [126]
theorem L5:(⟨#[40]⟩:ByteArray).toList=[40]:=Bi [40]
theorem NE:(⟨#[41]⟩:ByteArray).toList=[41]:=Bi [41]
theorem NF:(⟨#[46]⟩:ByteArray).toList=[46]:=Bi [46]
theorem ON:(⟨#[32,61,32]⟩:ByteArray).toList=[32,61,32]:=Bi [32,61,32]
def GH (s:ByteArray) (e:Nat):Prop:=PB s e∧hasB s e ⟨#[32,61,32]⟩=false
theorem Nd (s:ByteArray):GH s s.size:=⟨.inl rfl,SG (by show 0<3; omega)⟩
theorem EV {s:ByteArray} {e:Nat} (h:e<s.size) (hb:Ay s e=41):GH s e:=⟨.inr ⟨h,CK (.inr (.inl hb)),by rw [hb]; decide⟩,Jd ON (by omega) (d:=41) hb (by decide)⟩
theorem J9 (op:Int):∃ b r,sgn op=32 :: b :: r∧(b≠61∨∃ r',r=62 :: r'):=by
 unfold sgn
 split
 ·exact ⟨_,_,rfl,.inl (by decide)⟩
 ·split
  ·exact ⟨_,_,rfl,.inl (by decide)⟩
  ·exact ⟨_,_,rfl,.inr ⟨_,rfl⟩⟩
theorem JA {s:ByteArray} {i e:Nat} {op:Int} {r:List UInt8} (h:seg s i e=sgn op++r) (he:e≤s.size):GH s i:=by
 obtain ⟨b,q,hs,hb⟩:=J9 op
 rw [hs,yC,yC] at h
 obtain ⟨h1,h2,h3⟩:=Ax h he
 obtain ⟨h4,h5,h6⟩:=Ax h3 he
 refine ⟨.inr ⟨by omega,CK (.inr (.inr (.inr h2))),by rw [h2]; decide⟩,?_⟩
 cases k:hasB s i ⟨#[32,61,32]⟩ with
 | false=>rfl
 | true =>
  obtain ⟨k1,k2⟩:=(AO (by omega)).1 k
  rw [ON] at k2
  have k1:i+3≤s.size:=k1
  obtain ⟨_,_,k3⟩:=Ax k2 k1
  obtain ⟨_,k4,k5⟩:=Ax k3 k1
  obtain ⟨_,k6,_⟩:=Ax k5 k1
  rcases hb with hb | ⟨r',rfl⟩
  ·rw [h5] at k4
   exact absurd (UInt8.toNat_inj.1 (by exact_mod_cast k4)) hb
  ·rw [yC] at h6
   obtain ⟨_,h7,_⟩:=Ax h6 he
   rw [h7] at k6
   exact absurd k6 (by decide)
theorem Uf {s:ByteArray} {n i:Nat} {u:Tm} {e:Nat} (h:rd s n i=some (u,e)):i<A3 s i∧u.name=s.extract i (A3 s i):=by
 cases n with
 | zero=>rw [rd] at h; cases h
 | succ n =>
  rw [rd] at h
  have hle:=En s i
  by_cases hw:A3 s i=i
  ·rw [A1 hw,cond_true] at h; cases h
  ·rw [An hw,cond_false] at h
   refine ⟨by omega,?_⟩
   cases hq:Ci s (A3 s i) 40 with
   | false =>
    rw [hq,cond_false] at h
    simp only [zE,zH] at h
    rw [←h.1]; rfl
   | true =>
    rw [hq,cond_true] at h
    split at h
    ·cases h
    ·simp only [zE,zH] at h
     rw [←h.1]; rfl
theorem Hu {s:ByteArray} {i e:Nat} {t:Tm} (ht:t.atom=true) (h:seg s i e=t.fmtA) (he:e≤s.size) (hi:i≤e) (hs:GH s e) :
  Ds ⟨#[32,61,32]⟩ s (s.size+1) i=some (t,e)∧∃ u k,rd s (s.size+1) i=some (u,k)∧u.names=true:=by
 unfold Tm.fmtA at h
 rcases Tm.G9 ht with ⟨h1,h2⟩ | ⟨a,b,rfl,h1,h2,h3,h4⟩
 ·rw [h1,cond_false] at h
  have hn:=CE h2
  have r:=K4 (s:=s) t hn (s.size+1) i e he hi h hs.1 (by omega)
  refine ⟨?_,t,e,r,hn⟩
  unfold Ds
  rw [r]
  simp only [hs.2,cond_false]
 ·rw [h1,cond_true] at h
  have h:seg s i e=a.fmt++eqSign++b.fmt:=h
  rw [zN] at h
  obtain ⟨k1,k2,k3⟩:=AV h he hi
  have hh:=D0 (x:=⟨#[32,61,32]⟩) (r:=b.fmt) (by rw [ON]; exact k3) he k1
  obtain ⟨g1,g2,g3⟩:=AV k3 he k1
  have g1:i+a.fmt.length+3≤e:=g1
  have g3:seg s (i+a.fmt.length+3) e=b.fmt:=g3
  have hb:=EO ON (by omega) hh
  have r1:=K4 (s:=s) a h2 (s.size+1) i (i+a.fmt.length) (by omega) (by omega) k2 (.inr ⟨hb.1,CK (.inr (.inr (.inr hb.2))),by rw [hb.2]; decide⟩) (by omega)
  have r2:=K4 (s:=s) b h3 (s.size+1) (i+a.fmt.length+3) e he g1 g3 hs.1 (by omega)
  refine ⟨?_,a,_,r1,h2⟩
  unfold Ds
  rw [r1]
  have r2:rd s (s.size+1) (i+a.fmt.length+(⟨#[32,61,32]⟩:ByteArray).size)=some (b,e):=r2
  simp only [hh,cond_true,r2]
theorem Vq {w:List UInt8} {u:Tm} (hw:w=[97,108,108]∨w=[115,111,109,101]) (hu:u.names=true) (h:u.name.toList=w):False:=by
 rw [Tm.Dq] at hu
 rcases hw with rfl | rfl
 ·have e:u.name=⟨#[97,108,108]⟩:=AU (by rw [h]; exact (Bi [97,108,108]).symm)
  rw [e,show CU ⟨#[97,108,108]⟩=false by decide +kernel,show D4 ⟨#[97,108,108]⟩=false by decide +kernel] at hu
  simp at hu
 ·have e:u.name=⟨#[115,111,109,101]⟩:=AU (by rw [h]; exact (Bi [115,111,109,101]).symm)
  rw [e,show CU ⟨#[115,111,109,101]⟩=false by decide +kernel,show D4 ⟨#[115,111,109,101]⟩=false by decide +kernel] at hu
  simp at hu
theorem Qy {s x:ByteArray} {i:Nat} {w:List UInt8} (hx:x.toList=w++[32]) (hw:w=[97,108,108]∨w=[115,111,109,101]) (hi:i≤s.size) {u:Tm} (hu:u.names=true) (hn:u.name=s.extract i (A3 s i)):hasB s i x=false:=by
 cases h:hasB s i x with
 | false=>rfl
 | true =>
  exfalso
  obtain ⟨h1,h2⟩:=(AO hi).1 h
  rw [hx] at h2
  have hz:x.size=w.length+1:=by rw [←AK,hx,zR]; rfl
  obtain ⟨k1,k2,k3⟩:=AV h2 (by omega) (by omega)
  obtain ⟨_,k4,_⟩:=Ax k3 (by omega)
  have hwe:A3 s i=i+w.length:=E0 w i _ k2 (by omega) (by omega) (by
   rcases hw with rfl | rfl
   ·intro c hc
    simp only [zW,List.not_mem_nil,or_false] at hc
    rcases hc with rfl | rfl | rfl <;> exact Cs (by decide +kernel)
   ·intro c hc
    simp only [zW,List.not_mem_nil,or_false] at hc
    rcases hc with rfl | rfl | rfl | rfl <;> exact Cs (by decide +kernel)) fun ⟨_,k⟩=>by
   rw [CK (.inr (.inr (.inr k4)))] at k; cases k
  refine Vq hw hu ?_
  rw [hn,hwe,toList_extract,k2]
theorem D1 {s:ByteArray} {i e:Nat} {x:Fm} (hx:x.forms=true) (h:seg s i e=x.fmt) (he:e≤s.size) (hi:i≤e) (hs:GH s e) :
  hasB s i ⟨#[97,108,108,32]⟩=dec (x.op=8)∧hasB s i ⟨#[115,111,109,101,32]⟩=dec (x.op=9)∧hasB s i ⟨#[126]⟩=dec (x.op=4)∧hasB s i ⟨#[40]⟩=dec (x.op=5∨x.op=6∨x.op=7):=by
 have hf:=Fm.AC hx
 have hi2:i≤s.size:=by omega
 have fst:∀ (c:UInt8) (r:List UInt8),x.fmt=c :: r→(97≠c→hasB s i ⟨#[97,108,108,32]⟩=false)∧(115≠c→hasB s i ⟨#[115,111,109,101,32]⟩=false)∧(126≠c→hasB s i ⟨#[126]⟩=false)∧(40≠c→hasB s i ⟨#[40]⟩=false):=fun c r hc=>by
  rw [hc] at h
  obtain ⟨_,hb,_⟩:=Ax h he
  exact ⟨Jd L3 hi2 hb,Jd Je hi2 hb,Jd L4 hi2 hb,Jd L5 hi2 hb⟩
 rcases Fm.Fs hf with ho | ho | ho | ho | ho | ho | ho | ho | ho
 ·have e0:=Fm.Ca hf (.inl ho)
  rw [ho] at e0
  obtain ⟨f1,f2,f3,f4⟩:=fst 116 [114,117,101] (by rw [e0,MZ]; rfl)
  rw [ho,f1 (by decide),f2 (by decide),f3 (by decide),f4 (by decide),An (by omega),An (by omega),An (by omega),An (by omega)]
  exact ⟨rfl,rfl,rfl,rfl⟩
 ·have e0:=Fm.Ca hf (.inr ho)
  rw [ho] at e0
  obtain ⟨f1,f2,f3,f4⟩:=fst 102 [97,108,115,101] (by rw [e0,Na]; rfl)
  rw [ho,f1 (by decide),f2 (by decide),f3 (by decide),f4 (by decide),An (by omega),An (by omega),An (by omega),An (by omega)]
  exact ⟨rfl,rfl,rfl,rfl⟩
 ·obtain ⟨hp,hat,hv⟩:=Fm.Dc hf ho
  have e0:x.fmt=x.atom.fmtA:=by
   obtain ⟨op,a,v,ps⟩:=x
   have ho:op=3:=ho
   subst ho
   exact L1 a v ps
  rw [e0] at h
  obtain ⟨_,u,k,r,hu⟩:=Hu hat h he hi hs
  obtain ⟨hw1,hw2⟩:=Uf r
  have hc:i<s.size∧Bt (Ay s i)=true:=by
   cases Classical.em (i<s.size∧Bt (Ay s i)=true) with
   | inl h=>exact h
   | inr h=>rw [CM h] at hw1; omega
  have f1:=Qy (x:=⟨#[97,108,108,32]⟩) (w:=[97,108,108]) L3 (.inl rfl) hi2 hu hw2
  have f2:=Qy (x:=⟨#[115,111,109,101,32]⟩) (w:=[115,111,109,101]) Je (.inr rfl) hi2 hu hw2
  have f3:hasB s i ⟨#[126]⟩=false:=by
   cases hq:hasB s i ⟨#[126]⟩ with
   | false=>rfl
   | true =>
    have:=(EO L4 hi2 hq).2
    rw [this] at hc
    have h2:Bt ((126:UInt8).toNat:Int)=false:=by
     unfold Bt
     have e:((126:UInt8).toNat:Int)=126:=rfl
     rw [e,An (p:=(126:Int)≤122) (by omega),An (p:=(126:Int)≤90) (by omega),An (p:=(126:Int)≤57) (by omega),An (p:=(126:Int)=95) (by omega)]
     simp
    rw [h2] at hc; cases hc.2
  have f4:hasB s i ⟨#[40]⟩=false:=by
   cases hq:hasB s i ⟨#[40]⟩ with
   | false=>rfl
   | true =>
    have:=(EO L5 hi2 hq).2
    rw [this] at hc
    have h2:Bt ((40:UInt8).toNat:Int)=false:=CK (.inl rfl)
    rw [h2] at hc; cases hc.2
  rw [ho,f1,f2,f3,f4,An (by omega),An (by omega),An (by omega),An (by omega)]
  exact ⟨rfl,rfl,rfl,rfl⟩
 ·obtain ⟨p,e0⟩:=Fm.E3 hf ho
  obtain ⟨r,hr⟩:∃ r,x.fmt=126 :: r:=by
   rw [e0,Kg]
   cases p.atom.eqn with
   | true=>exact ⟨_,rfl⟩
   | false=>exact ⟨_,rfl⟩
  obtain ⟨f1,f2,f3,f4⟩:=fst 126 r hr
  have g:hasB s i ⟨#[126]⟩=true:=D0 (r:=r) (by rw [h,hr,L4]; rfl) he hi
  rw [ho,f1 (by decide),f2 (by decide),g,f4 (by decide),An (by omega),An (by omega),A1 (by omega),An (by omega)]
  exact ⟨rfl,rfl,rfl,rfl⟩
 iterate 3
  ·obtain ⟨p,q,e0⟩:=Fm.CL hf (by omega)
   obtain ⟨r,hr⟩:∃ r,x.fmt=40 :: r:=by
    rw [e0,L2 (by omega)]
    exact ⟨_,rfl⟩
   obtain ⟨f1,f2,f3,f4⟩:=fst 40 r hr
   have g:hasB s i ⟨#[40]⟩=true:=D0 (r:=r) (by rw [h,hr,L5]; rfl) he hi
   rw [ho,f1 (by decide),f2 (by decide),f3 (by decide),g,An (by omega),An (by omega),An (by omega),A1 (by omega)]
   exact ⟨rfl,rfl,rfl,rfl⟩
 ·obtain ⟨p,e0⟩:=Fm.DM hf (.inl ho)
  rw [ho] at e0
  have hr:x.fmt=OM++(x.var.toList++46 :: p.fmt):=by rw [e0]; exact Nb _ _ _
  obtain ⟨f1,f2,f3,f4⟩:=fst 97 _ hr
  have g:hasB s i ⟨#[97,108,108,32]⟩=true:=D0 (r:=x.var.toList++46 :: p.fmt) (by rw [h,hr,L3]; rfl) he hi
  rw [ho,g,f2 (by decide),f3 (by decide),f4 (by decide),A1 rfl,An (by omega),An (by omega),An (by omega)]
  exact ⟨rfl,rfl,rfl,rfl⟩
 ·obtain ⟨p,e0⟩:=Fm.DM hf (.inr ho)
  rw [ho] at e0
  have hr:x.fmt=Kf++(x.var.toList++46 :: p.fmt):=by rw [e0]; exact Nc _ _ _
  obtain ⟨f1,f2,f3,f4⟩:=fst 115 _ hr
  have g:hasB s i ⟨#[115,111,109,101,32]⟩=true:=D0 (r:=x.var.toList++46 :: p.fmt) (by rw [h,hr,Je]; rfl) he hi
  rw [ho,f1 (by decide),g,f3 (by decide),f4 (by decide),An (by omega),A1 rfl,An (by omega),An (by omega)]
  exact ⟨rfl,rfl,rfl,rfl⟩
theorem Hv:(⟨#[32,61,32]⟩:ByteArray).toList=eqSign:=Bi [32,61,32]
theorem Rf (x:Tm) (hx:x.atom=true):E 63 [x.sv] []=some (.str x.txtA,[]):=by
 rcases Tm.G9 hx with ⟨h1,h2⟩ | ⟨a,b,rfl,h1,h2,h3,h4⟩
 ·have e:x.txtA=x.txt:=AU (by rw [Tm.Ch,Tm.txt_toList]; unfold Tm.fmtA; rw [h1]; rfl)
  rw [e]
  exact EN x (CE h2) (by have:=BU h2; omega)
 ·have he:=DH (.mk ⟨#[61]⟩ [a,b])
  rw [h1] at he
  obtain ⟨s1,s2⟩:=I6 h4
  have va:a.valid=true:=by unfold Tm.valid; rw [s1,h2]; rfl
  have vb:b.valid=true:=by unfold Tm.valid; rw [s2,h3]; rfl
  have f1:=EN a h2 (by have:=BU va; omega)
  have f2:=EN b h3 (by have:=BU vb; omega)
  have z1:=F9 va
  have z2:=F9 vb
  have hs1:(a.txt++(⟨#[32,61,32]⟩:ByteArray)).size=a.txt.size+3:=by rw [zT]; rfl
  have hs2:(⟨#[32,61,32]⟩:ByteArray).size=3:=rfl
  have ht:a.txt++⟨#[32,61,32]⟩++b.txt=(Tm.mk ⟨#[61]⟩ [a,b]).txtA:=by
   refine AU ?_
   rw [AR,AR,Tm.txt_toList,Tm.txt_toList,Tm.Ch,Hv]
   unfold Tm.fmtA
   rw [h1]; rfl
  have g0:([a,b].map Tm.d)[(0:Nat)]?=some [D.str a.name,D.arr (a.args.map Tm.d)]:=by rw [zC,Tm.d_eq]; rfl
  have g1:([a,b].map Tm.d)[(1:Nat)]?=some [D.str b.name,D.arr (b.args.map Tm.d)]:=by rw [zC,zC,Tm.d_eq b]; rfl
  have hsv:(Tm.mk ⟨#[61]⟩ [a,b]).sv=.agg [.str ⟨#[61]⟩,.arr ([a,b].map Tm.d)]:=rfl
  rw [hsv] at he ⊢
  obtain ⟨ds,hds⟩:∃ ds,ds=[a,b].map Tm.d:=⟨_,rfl⟩
  rw [←hds] at he g0 g1 ⊢
  refine Aj DJ AP (of_decide_eq_true rfl) ?_
  simp (disch:=omega) only [CT,go_sem,Ab,he,g0,g1,f1,f2,hs1,hs2,ht,yT,Int.toNat_one,A6,AP]
def Cp:SC:=(.seq (.reg [⟨(some 2),none,(.alloc 24 [(.str ⟨#[]⟩),.nil])⟩]) (.seq (.reg [⟨some 4,none,.mv (.t 0)⟩,⟨some 5,none,.call 92 [(.t 4)]⟩,⟨(some 3),none,(.alloc 24 [(.str ⟨#[]⟩),.nil])⟩,⟨none,none,(.store 2 (.t 3) (.t 5))⟩]) (.seq (.seq (.reg [⟨some 6,none,.mv (.t 0)⟩,⟨(some 7),none,(.call 53 [(.t 6),(.c (.str ⟨#[32,61,32]⟩))])⟩]) (.cond (.t 7) (.seq (.dreg [[],[],[1],[0,2,1],[3,0,2,1],[4,3,0,2,1]] [⟨some 8,none,.load true 2 (.t 3)⟩,⟨some 9,none,.mv (.t 0)⟩,⟨some 10,none,.call 92 [(.t 9)]⟩,⟨(some 11),none,(.mkrow 24 2 [(.str ⟨#[]⟩),.nil] 2 [(0,(.t 8)),(1,(.t 10))])⟩,⟨(some 12),none,(.build [(.str ⟨#[]⟩),.nil] [(0,(1,(.c (.str ⟨#[61]⟩)))),(1,(1,(.t 11)))])⟩,⟨none,none,(.store 2 (.t 2) (.t 12))⟩]) .ret) .skip)) (.seq (.reg [⟨some 13,none,.load true 2 (.t 3)⟩,⟨none,none,(.store 2 (.t 2) (.t 13))⟩]) .ret))))
theorem Ft:codeOf Try.prog 59=some ⟨14,Cp,[(.cell 2 true 2)]⟩:=by kernel_rfl
theorem AL:modes 59=⟨[],.own [none,some (24,2)],none,false⟩:=by unfold modes; rfl
theorem Ug (s:ByteArray) (hs:s.size≤1048576) (i:Nat) (hi:i≤s.size):∃ out,E 59 [.ptr 0 0] [psr s i false]=some out∧Qw s i (Ds ⟨#[32,61,32]⟩ s (s.size+1) i) out:=by
 obtain ⟨out1,h1,t,j,f,rfl,g1,g2,g3⟩:=PE s hs (s.size+1) i hi (by omega)
 refine AE Ft AL (of_decide_eq_true rfl) ?_
 unfold Ds
 cases hr:rd s (s.size+1) i with
 | none =>
  rw [hr] at g3
  have g3:f=true:=g3
  subst g3
  have ht:=Fp s j ⟨#[32,61,32]⟩
  simp (disch:=omega) only [Cp,go_sem,Ab,h1,ht,Bx,Ao]
  exact ⟨_,rfl,t,j,true,rfl,g1,g2,rfl⟩
 | some p =>
  obtain ⟨a,e⟩:=p
  rw [hr] at g3
  obtain ⟨rfl,rfl,rfl⟩:=g3
  cases hh:hasB s j ⟨#[32,61,32]⟩ with
  | false =>
   have ht:=EM s j ⟨#[32,61,32]⟩ g2 hh
   simp only [hh,cond_false]
   simp (disch:=omega) only [Cp,go_sem,Ab,h1,ht,Bx,Ao]
   exact ⟨_,rfl,t,j,false,rfl,g1,g2,rfl,rfl,rfl⟩
  | true =>
   have ht:E 53 [.ptr 0 0,.str ⟨#[32,61,32]⟩] [psr s j false]=some (.bool true,[psr s (j+3) false]):=E2 s j ⟨#[32,61,32]⟩ (by show j+3≤_; omega) g2 hh
   have hj3:j+3≤s.size:=((AO g2).1 hh).1
   obtain ⟨out2,h2,t2,j2,f2,rfl,k1,k2,k3⟩:=PE s hs (s.size+1) (j+3) hj3 (by omega)
   simp only [hh,cond_true]
   have e3:rd s (s.size+1) (j+(⟨#[32,61,32]⟩:ByteArray).size)=rd s (s.size+1) (j+3):=rfl
   rw [e3]
   have ho:(Tm.mk ⟨#[61]⟩ [t,t2]).args.map Tm.o=[[OT.str t.name,.ow (t.args.map Tm.o)],[OT.str t2.name,.ow (t2.args.map Tm.o)]]:=by
    show [t,t2].map Tm.o=_
    rw [zC,zC,yB,Tm.o_eq,Tm.o_eq]
   simp (disch:=omega) only [Cp,go_sem,Ab,h1,ht,h2,Bx,Ao]
   cases hr2:rd s (s.size+1) (j+3) with
   | none =>
    rw [hr2] at k3
    have k3:f2=true:=k3
    subst k3
    exact ⟨_,rfl,.mk ⟨#[61]⟩ [t,t2],j2,true,by rw [ho]; rfl,by omega,k2,rfl⟩
   | some p =>
    obtain ⟨b,e⟩:=p
    rw [hr2] at k3
    obtain ⟨rfl,rfl,rfl⟩:=k3
    exact ⟨_,rfl,.mk ⟨#[61]⟩ [t,t2],j2,false,by rw [ho]; rfl,by omega,k2,rfl,rfl,rfl⟩
def If:SC:=(.seq (.reg [⟨some 1,none,.boxv 27 5 (.t 0)⟩,⟨some 2,none,.mv (.c (.int .i64 0))⟩]) (.seq (.reg [⟨some 3,none,.mv (.c (.int .i64 1))⟩]) (.seq (.seq (.reg [⟨some 6,none,.faddr 4 (.t 1)⟩,⟨some 7,none,.load false 1 (.t 6)⟩,⟨some 8,none,.len false (.t 7)⟩,⟨some 9,none,.mv (.c (.int .i64 0))⟩]) (.block 0 (.loop [0,0,0,1,0,0,0,1,1,1,0,0,0,0,0,0,0,0,0,0,0,0] (.seq (.reg [⟨some 10,none,.bin .lss false (.t 9) (.t 8)⟩]) (.seq (.cond (.t 10) .skip (.exit 0)) (.seq (.block 1 (.seq (.reg [⟨some 11,none,.iaddr 5 (.t 7) (.t 9)⟩,⟨some 12,none,.load true 5 (.t 11)⟩,⟨(some 5),none,(.alloc 27 [(.int .i64 0),(.str ⟨#[]⟩),.nil,(.str ⟨#[]⟩),.nil])⟩,⟨none,none,(.store 5 (.t 5) (.t 12))⟩]) (.seq (.seq (.reg [⟨some 13,none,.mv (.t 3)⟩,⟨some 14,none,.bin .gtr false (.t 13) (.c (.int .i64 40))⟩]) (.cond (.t 14) (.seq (.reg [⟨some 15,none,.mv (.t 3)⟩,⟨some 2,none,.mv (.t 15)⟩]) .ret) .skip)) (.reg [⟨some 16,none,.mv (.t 3)⟩,⟨some 17,none,.load true 5 (.t 5)⟩,⟨some 18,none,.call 61 [(.t 17)]⟩,⟨some 19,none,.bin .add false (.t 16) (.t 18)⟩,⟨some 3,none,.mv (.t 19)⟩])))) (.reg [⟨some 20,none,.bin .add false (.t 9) (.c (.int .i64 1))⟩,⟨some 9,none,.mv (.t 20)⟩]))))))) (.seq (.reg [⟨some 21,none,.mv (.t 3)⟩,⟨some 2,none,.mv (.t 21)⟩]) .ret))))
theorem LV:codeOf Try.prog 61=some ⟨22,If,[(.tmp 2)]⟩:=by kernel_rfl
theorem Dt:modes 61=⟨[],.asis,none,false⟩:=by unfold modes; rfl
theorem SH (x:Fm) (hn:x.nodes≤1099511627776) (ih:∀ y∈x.parts,E 61 [y.sv] []=some (.int .i64 y.cap,[])):E 61 [x.sv] []=some (.int .i64 x.cap,[]):=by
 have hl:=Fm.length_le x.parts
 have hx:=Fm.nodes_eq x
 rw [Fm.cap_eq]
 refine Aj LV Dt (of_decide_eq_true rfl) ?_
 simp (disch:=omega) only [If,go_sem,Ab]
 refine go_loop (α:=Int × Int) (fun a=>⟨slots 22 0 [(3,.int .i64 a.2),(7,.arr (x.parts.map Fm.d)),(8,.int .i64 x.parts.length),(9,.int .i64 a.1)],[]⟩) (fun a=>∃ k:Nat,a.1=k∧k≤x.parts.length∧1≤a.2∧a.2+Fm.nodeS (x.parts.drop k)≤x.nodes∧Fm.capL (x.parts.drop k) a.2=Fm.capL x.parts 1) (fun a=>x.parts.length-a.1.toNat) (0,1) ⟨0,rfl,zU _,by dsimp only; omega,by rw [zM]; dsimp only; omega,rfl⟩ (by simp (disch:=omega) only [go_sem,Ab]) ?_
 rintro ⟨i,n⟩ ⟨k,hi,hk,hn0,hn1,hs⟩
 dsimp only at hi hn0 hn1 hs
 have hni:i.toNat=k:=by omega
 rcases zI k x.parts.length with hlt | hge
 ·have hg:=get_at Fm.d hlt
  rw [Fm.d_eq] at hg
  have hd:x.parts.drop k=x.parts[k] :: x.parts.drop (k+1):=zF hlt
  have hc:=ih x.parts[k] (zQ hlt)
  have hp:=Fm.cap_spec x.parts[k]
  rw [hd,Fm.capL] at hs
  rw [hd,Fm.nodeS] at hn1
  rcases yP 40 n with h30 | h30
  ·rw [if_pos h30] at hs
   simp (disch:=omega) only [go_sem,Ab,hni,hg,hc,Dt]
   exact hs
  ·rw [if_neg (by omega)] at hs
   simp (disch:=omega) only [go_sem,Ab,hni,hg,hc,Dt]
   refine ⟨(i+1,n+x.parts[k].cap),⟨k+1,by dsimp only; omega,hlt,by dsimp only; omega,by dsimp only; omega,hs⟩,by dsimp only; omega,?_⟩
   simp only [and_self]
 ·have hd:x.parts.drop k=[]:=zJ hge
  rw [hd,Fm.capL] at hs
  simp (disch:=omega) only [go_sem,Ab,hni]
  exact hs
theorem Qz (x:Fm) (hn:x.nodes≤1099511627776):E 61 [x.sv] []=some (.int .i64 x.cap,[]) :=
 SH x hn fun y hy=>Qz y (by have:=Fm.nodes_mem hy; have:=Fm.nodes_eq x; omega)
termination_by SizeOf.sizeOf x
decreasing_by exact Fm.lt_of_mem hy
def Ig:SC:=(.seq (.reg [⟨some 2,none,.boxv 27 5 (.t 0)⟩,⟨some 4,none,.mv (.c (.int .i64 0))⟩]) (.seq (.reg [⟨some 5,none,.mv (.c (.int .i64 1))⟩]) (.seq (.seq (.reg [⟨some 6,none,.mv (.c (.int .i64 0))⟩]) (.block 0 (.loop [0,1,1,0,0,1,1,0,0,0,0,0,0,0,0,0,0,0,0,0,0,0,0,0,0,0,0,0,0,0,0] (.seq (.seq (.reg [⟨some 7,none,.mv (.t 6)⟩,⟨some 8,none,.faddr 4 (.t 2)⟩,⟨some 9,none,.load false 1 (.t 8)⟩,⟨some 10,none,.len false (.t 9)⟩,⟨some 11,none,.bin .lss false (.t 7) (.t 10)⟩,⟨some 12,none,.mv (.t 11)⟩,⟨(some 13),(some (12,true)),(.mv (.t 5))⟩,⟨(some 14),(some (12,true)),(.mv (.t 1))⟩,⟨(some 15),(some (12,true)),(.bin .leq false (.t 13) (.t 14))⟩,⟨some 16,none,.pick (.t 12) (.t 15) (.c (.bool false))⟩]) (.cond (.t 16) .skip (.exit 0))) (.seq (.block 1 (.reg [⟨some 19,none,.mv (.t 5)⟩,⟨some 20,none,.faddr 4 (.t 2)⟩,⟨some 21,none,.load false 1 (.t 20)⟩,⟨some 22,none,.mv (.t 6)⟩,⟨some 23,none,.iaddr 5 (.t 21) (.t 22)⟩,⟨some 24,none,.load true 5 (.t 23)⟩,⟨some 25,none,.mv (.t 1)⟩,⟨some 26,none,.mv (.t 5)⟩,⟨some 27,none,.bin .sub false (.t 25) (.t 26)⟩,⟨some 28,none,.call 50 [(.t 24),(.t 27)]⟩,⟨some 29,none,.bin .add false (.t 19) (.t 28)⟩,⟨some 5,none,.mv (.t 29)⟩])) (.reg [⟨some 17,none,.mv (.t 6)⟩,⟨some 18,none,.bin .add false (.t 17) (.c (.int .i64 1))⟩,⟨some 6,none,.mv (.t 18)⟩])))))) (.seq (.reg [⟨some 30,none,.mv (.t 5)⟩,⟨some 4,none,.mv (.t 30)⟩]) .ret))))
theorem LW:codeOf Try.prog 50=some ⟨31,Ig,[(.tmp 4)]⟩:=by kernel_rfl
theorem Du:modes 50=⟨[],.asis,none,false⟩:=by unfold modes; rfl
theorem SI (x:Fm) (m:Int) (hm:0≤m) (hm1:m≤1099511627776) (hn:x.nodes≤1099511627776) (ih:∀ y∈x.parts,∀ m:Int,0≤m→m≤1099511627776→E 50 [y.sv,.int .i64 m] []=some (.int .i64 (y.many m),[])):E 50 [x.sv,.int .i64 m] []=some (.int .i64 (x.many m),[]):=by
 have hl:=Fm.length_le x.parts
 have hx:=Fm.nodes_eq x
 rw [Fm.many_eq]
 refine Aj LW Du (of_decide_eq_true rfl) ?_
 simp (disch:=omega) only [Ig,go_sem,Ab]
 refine go_loop (α:=Int × Int) (fun a=>⟨slots 31 0 [(1,.int .i64 m),(2,.ptr 0 0),(5,.int .i64 a.2),(6,.int .i64 a.1)],[.box 27 [.int .i64 x.op,.str x.atom.name,.arr (x.atom.args.map Tm.d),.str x.var,.arr (x.parts.map Fm.d)]]⟩) (fun a=>∃ k:Nat,a.1=k∧k≤x.parts.length∧1≤a.2∧a.2+Fm.nodeS (x.parts.drop k)≤x.nodes∧Fm.manyL (x.parts.drop k) m a.2=Fm.manyL x.parts m 1) (fun a=>x.parts.length-a.1.toNat) (0,1) ⟨0,rfl,zU _,by dsimp only; omega,by rw [zM]; dsimp only; omega,rfl⟩ (by simp (disch:=omega) only [go_sem,Ab]) ?_
 rintro ⟨i,n⟩ ⟨k,hi,hk,hn0,hn1,hs⟩
 dsimp only at hi hn0 hn1 hs
 have hni:i.toNat=k:=by omega
 rcases zI k x.parts.length with hlt | hge
 ·have hg:=get_at Fm.d hlt
  rw [Fm.d_eq] at hg
  have hd:x.parts.drop k=x.parts[k] :: x.parts.drop (k+1):=zF hlt
  rw [hd,Fm.manyL] at hs
  rw [hd,Fm.nodeS] at hn1
  rcases yP m n with h30 | h30
  ·rw [if_neg (by omega)] at hs
   simp (disch:=omega) only [go_sem,Ab,hni,hg,Du]
   exact hs
  ·rw [if_pos h30] at hs
   have hc:=ih x.parts[k] (zQ hlt) (m-n) (by omega) (by omega)
   have hp:=Fm.many_spec x.parts[k] (m-n)
   simp (disch:=omega) only [go_sem,Ab,hni,hg,hc,Du]
   refine ⟨(i+1,n+x.parts[k].many (m-n)),⟨k+1,by dsimp only; omega,hlt,by dsimp only; omega,by dsimp only; omega,hs⟩,by dsimp only; omega,?_⟩
   simp only [and_self]
 ·have hd:x.parts.drop k=[]:=zJ hge
  rw [hd,Fm.manyL] at hs
  simp (disch:=omega) only [go_sem,Ab,hni]
  exact hs
theorem Q0 (x:Fm) (m:Int) (hm:0≤m) (hm1:m≤1099511627776) (hn:x.nodes≤1099511627776):E 50 [x.sv,.int .i64 m] []=some (.int .i64 (x.many m),[]) :=
 SI x m hm hm1 hn fun y hy m hm hm1=>Q0 y m hm hm1 (by have:=Fm.nodes_mem hy; have:=Fm.nodes_eq x; omega)
termination_by SizeOf.sizeOf x
decreasing_by exact Fm.lt_of_mem hy
def Dj:SC:=(.seq (.reg [⟨some 2,none,.mv (.c (.bool false))⟩]) (.seq (.reg [⟨some 3,none,.mv (.t 0)⟩,⟨some 4,none,.bin .eql false (.t 3) (.c (.int .i64 8))⟩,⟨some 5,none,.mv (.t 4)⟩,⟨(some 6),(some (5,false)),(.mv (.t 0))⟩,⟨(some 7),(some (5,false)),(.bin .eql false (.t 6) (.c (.int .i64 9)))⟩,⟨some 8,none,.pick (.t 5) (.c (.bool true)) (.t 7)⟩,⟨some 2,none,.mv (.t 8)⟩]) .ret))
theorem EB:codeOf Try.prog 93=some ⟨9,Dj,[(.tmp 2)]⟩:=by kernel_rfl
theorem Ac:modes 93=⟨[],.asis,none,false⟩:=by unfold modes; rfl
def GI:SC:=(.seq (.reg [⟨some 2,none,.mv (.c (.bool false))⟩]) (.seq (.reg [⟨some 3,none,.mv (.t 0)⟩,⟨some 4,none,.bin .eql false (.t 3) (.c (.int .i64 5))⟩,⟨some 5,none,.mv (.t 4)⟩,⟨(some 6),(some (5,false)),(.mv (.t 0))⟩,⟨(some 7),(some (5,false)),(.bin .eql false (.t 6) (.c (.int .i64 6)))⟩,⟨some 8,none,.pick (.t 5) (.c (.bool true)) (.t 7)⟩,⟨some 9,none,.mv (.t 8)⟩,⟨(some 10),(some (9,false)),(.mv (.t 0))⟩,⟨(some 11),(some (9,false)),(.bin .eql false (.t 10) (.c (.int .i64 7)))⟩,⟨some 12,none,.pick (.t 9) (.c (.bool true)) (.t 11)⟩,⟨some 2,none,.mv (.t 12)⟩]) .ret))
theorem Ko:codeOf Try.prog 94=some ⟨13,GI,[(.tmp 2)]⟩:=by kernel_rfl
theorem Ah:modes 94=⟨[],.asis,none,false⟩:=by unfold modes; rfl
def DN:SC:=(.seq (.reg [⟨some 1,none,.boxv 24 2 (.t 0)⟩,⟨some 2,none,.mv (.c (.bool false))⟩]) (.seq (.reg [⟨some 3,none,.faddr 0 (.t 1)⟩,⟨some 4,none,.load false 1 (.t 3)⟩,⟨(some 5),none,(.bin .eql false (.t 4) (.c (.str ⟨#[]⟩)))⟩,⟨some 6,none,.mv (.t 5)⟩,⟨(some 7),(some (6,true)),(.faddr 1 (.t 1))⟩,⟨(some 8),(some (6,true)),(.load false 1 (.t 7))⟩,⟨(some 9),(some (6,true)),(.len false (.t 8))⟩,⟨(some 10),(some (6,true)),(.bin .eql false (.t 9) (.c (.int .i64 0)))⟩,⟨some 11,none,.pick (.t 6) (.t 10) (.c (.bool false))⟩,⟨some 2,none,.mv (.t 11)⟩]) .ret))
theorem FB:codeOf Try.prog 97=some ⟨12,DN,[(.tmp 2)]⟩:=by kernel_rfl
theorem Af:modes 97=⟨[],.asis,none,false⟩:=by unfold modes; rfl
def FT:SC:=(.seq (.reg [⟨some 1,none,.boxv 24 2 (.t 0)⟩,⟨some 2,none,.mv (.c (.bool false))⟩]) (.seq (.reg [⟨some 3,none,.faddr 0 (.t 1)⟩,⟨some 4,none,.load false 1 (.t 3)⟩,⟨(some 5),none,(.bin .eql false (.t 4) (.c (.str ⟨#[]⟩)))⟩,⟨some 6,none,.mv (.t 5)⟩,⟨(some 7),(some (6,true)),(.faddr 1 (.t 1))⟩,⟨(some 8),(some (6,true)),(.load false 1 (.t 7))⟩,⟨(some 9),(some (6,true)),(.len false (.t 8))⟩,⟨(some 10),(some (6,true)),(.bin .eql false (.t 9) (.c (.int .i64 0)))⟩,⟨some 11,none,.pick (.t 6) (.t 10) (.c (.bool false))⟩,⟨some 2,none,.mv (.t 11)⟩]) .ret))
theorem Ih:codeOf Try.prog 118=some ⟨12,FT,[(.tmp 2)]⟩:=by kernel_rfl
theorem Ak:modes 118=⟨[],.asis,none,false⟩:=by unfold modes; rfl
def BD:SC:=(.seq (.reg [⟨some 4,none,.mv (.c (.int .i64 0))⟩]) (.seq (.seq (.reg [⟨some 6,none,.mv (.t 0)⟩,⟨some 7,none,.len false (.t 6)⟩,⟨some 8,none,.mv (.c (.int .i64 0))⟩]) (.block 0 (.loop [1,1,0,0,0,0,0,1,1,0,0,0,0,0,0,0,0,0,0] (.seq (.reg [⟨some 9,none,.bin .lss false (.t 8) (.t 7)⟩]) (.seq (.cond (.t 9) .skip (.exit 0)) (.seq (.block 1 (.seq (.reg [⟨some 10,none,.mv (.t 8)⟩,⟨some 5,none,.mv (.t 10)⟩]) (.seq (.reg [⟨some 11,none,.mv (.t 1)⟩,⟨some 12,none,.mv (.t 0)⟩,⟨some 13,none,.mv (.t 5)⟩,⟨some 14,none,.iaddr 5 (.t 12) (.t 13)⟩,⟨some 15,none,.load true 5 (.t 14)⟩,⟨some 16,none,.callv (.t 11) [(.t 15)]⟩]) (.cond (.t 16) (.seq (.reg [⟨some 17,none,.mv (.t 5)⟩,⟨some 4,none,.mv (.t 17)⟩]) .ret) .skip)))) (.reg [⟨some 18,none,.bin .add false (.t 8) (.c (.int .i64 1))⟩,⟨some 8,none,.mv (.t 18)⟩]))))))) (.seq (.reg [⟨some 4,none,.mv (.c (.int .i64 (-(0+1))))⟩]) .ret)))
theorem C4:codeOf Try.prog 125=some ⟨19,BD,[(.tmp 4)]⟩:=by kernel_rfl
theorem BE:modes 125=⟨[],.asis,none,false⟩:=by unfold modes; rfl
def B7:SC:=(.seq (.reg [⟨some 4,none,.mv (.c (.bool false))⟩]) (.seq (.reg [⟨some 5,none,.mv (.t 0)⟩,⟨some 6,none,.mv (.t 1)⟩,⟨some 7,none,.call 125 [(.t 5),(.t 6)]⟩,⟨some 8,none,.bin .geq false (.t 7) (.c (.int .i64 0))⟩,⟨some 4,none,.mv (.t 8)⟩]) .ret))
theorem Cx:codeOf Try.prog 98=some ⟨9,B7,[(.tmp 4)]⟩:=by kernel_rfl
theorem Aa:modes 98=⟨[],.asis,none,false⟩:=by unfold modes; rfl
theorem Kp (fid:Nat) (p:Fm→Bool) (xs:List Fm) (hl:xs.length≤1099511627776) (hg:Kl Try.prog fid=true) (hm:(modes fid).hand=[]) (hE:∀ x∈xs,E fid [x.sv] []=some (.bool (p x),[])):E 125 [.arr (xs.map Fm.d),.fn fid []] []=some (.int .i64 (I3 p xs 0),[]):=by
 refine Aj C4 BE (of_decide_eq_true rfl) ?_
 simp (disch:=omega) only [BD,go_sem,Ab]
 refine go_loop (α:=Int) (fun a=>⟨slots 19 0 [(0,.arr (xs.map Fm.d)),(1,.fn fid []),(7,.int .i64 xs.length),(8,.int .i64 a)],[]⟩) (fun a=>∃ k:Nat,a=k∧k≤(xs).length∧I3 p (xs.drop k) a=I3 p xs 0) (fun a=>(xs).length-(a).toNat) 0 ⟨0,rfl,zU _,by rw [zM]⟩ (by simp (disch:=omega) only [go_sem,Ab]) ?_
 rintro i ⟨k,hi,hk,hR⟩
 have hni:i.toNat=k:=by omega
 have hni1:(i+1).toNat=k+1:=by omega
 rcases zI k (xs).length with hlt | hge
 ·have hg':=get_at Fm.d hlt
  rw [Fm.d_eq] at hg'
  have hc:=hE xs[k] (zQ hlt)
  rw [zF hlt,I3] at hR
  cases hp:p xs[k] with
  | true =>
   rw [hp] at hc hR
   simp (disch:=omega) only [go_sem,Ab,hni,hg',hc,hg,hm]
   simpa using hR
  | false =>
   rw [hp] at hc hR
   simp (disch:=omega) only [go_sem,Ab,hni,hg',hc,hg,hm]
   exact ⟨i+1,⟨k+1,by omega,hlt,by simpa using hR⟩,by omega,by first | trivial | rfl⟩
 ·rw [zJ hge,I3] at hR
  simp (disch:=omega) only [go_sem,Ab,hni]
  exact hR
theorem I7 (fid:Nat) (p:Fm→Bool) (xs:List Fm) (hl:xs.length≤1099511627776) (hg:Kl Try.prog fid=true) (hm:(modes fid).hand=[]) (hE:∀ x∈xs,E fid [x.sv] []=some (.bool (p x),[])):E 98 [.arr (xs.map Fm.d),.fn fid []] []=some (.bool (xs.any p),[]):=by
 have h:=Kp fid p xs hl hg hm hE
 refine Aj Cx Aa (of_decide_eq_true rfl) ?_
 simp (disch:=omega) only [B7,go_sem,Ab,h,BE]
 rw [O9]
def A7:SC:=(.seq (.reg [⟨some 1,none,.boxv 27 5 (.t 0)⟩,⟨some 2,none,.mv (.c (.bool false))⟩]) (.seq (.reg [⟨some 3,none,.mv (.c (.int .i64 0))⟩]) (.seq (.block 0 (.seq (.seq (.reg [⟨some 5,none,.faddr 0 (.t 1)⟩,⟨some 6,none,.load false 1 (.t 5)⟩,⟨some 7,none,.bin .eql false (.t 6) (.c (.int .i64 1))⟩,⟨some 4,none,.mv (.t 7)⟩]) (.cond (.t 4) .skip (.seq (.reg [⟨some 8,none,.faddr 0 (.t 1)⟩,⟨some 9,none,.load false 1 (.t 8)⟩,⟨some 10,none,.bin .eql false (.t 9) (.c (.int .i64 2))⟩,⟨some 4,none,.mv (.t 10)⟩]) (.cond (.t 4) .skip (.reg [⟨some 11,none,.faddr 0 (.t 1)⟩,⟨some 12,none,.load false 1 (.t 11)⟩,⟨some 13,none,.bin .eql false (.t 12) (.c (.int .i64 3))⟩,⟨some 4,none,.mv (.t 13)⟩]))))) (.cond (.t 4) .skip (.seq (.seq (.reg [⟨some 15,none,.faddr 0 (.t 1)⟩,⟨some 16,none,.load false 1 (.t 15)⟩,⟨some 17,none,.bin .eql false (.t 16) (.c (.int .i64 4))⟩,⟨some 14,none,.mv (.t 17)⟩]) (.cond (.t 14) .skip (.reg [⟨some 18,none,.faddr 0 (.t 1)⟩,⟨some 19,none,.load false 1 (.t 18)⟩,⟨some 20,none,.call 93 [(.t 19)]⟩,⟨some 14,none,.mv (.t 20)⟩]))) (.cond (.t 14) (.reg [⟨some 3,none,.mv (.c (.int .i64 1))⟩]) (.seq (.reg [⟨some 22,none,.faddr 0 (.t 1)⟩,⟨some 23,none,.load false 1 (.t 22)⟩,⟨some 24,none,.call 94 [(.t 23)]⟩,⟨some 21,none,.mv (.t 24)⟩]) (.cond (.t 21) (.reg [⟨some 3,none,.mv (.c (.int .i64 2))⟩]) (.seq (.reg [⟨some 2,none,.mv (.c (.bool false))⟩]) .ret)))))))) (.seq (.seq (.reg [⟨some 25,none,.faddr 4 (.t 1)⟩,⟨some 26,none,.load false 1 (.t 25)⟩,⟨some 27,none,.len false (.t 26)⟩,⟨some 28,none,.mv (.t 3)⟩,⟨some 29,none,.bin .neq false (.t 27) (.t 28)⟩,⟨some 30,none,.mv (.t 29)⟩,⟨(some 31),(some (30,false)),(.faddr 0 (.t 1))⟩,⟨(some 32),(some (30,false)),(.load false 1 (.t 31))⟩,⟨(some 33),(some (30,false)),(.call 93 [(.t 32)])⟩,⟨(some 34),(some (30,false)),(.mv (.t 33))⟩,⟨(some 35),(some (34,true)),(.faddr 3 (.t 1))⟩,⟨(some 36),(some (34,true)),(.load false 1 (.t 35))⟩,⟨(some 37),(some (34,true)),(.call 95 [(.t 36)])⟩,⟨(some 38),(some (34,true)),(.un .not (.t 37))⟩,⟨(some 39),(some (30,false)),(.pick (.t 34) (.t 38) (.c (.bool false)))⟩,⟨some 40,none,.pick (.t 30) (.c (.bool true)) (.t 39)⟩,⟨some 41,none,.mv (.t 40)⟩,⟨(some 42),(some (41,false)),(.faddr 0 (.t 1))⟩,⟨(some 43),(some (41,false)),(.load false 1 (.t 42))⟩,⟨(some 44),(some (41,false)),(.call 93 [(.t 43)])⟩,⟨(some 45),(some (41,false)),(.un .not (.t 44))⟩,⟨(some 46),(some (41,false)),(.mv (.t 45))⟩,⟨(some 47),(some (46,true)),(.faddr 3 (.t 1))⟩,⟨(some 48),(some (46,true)),(.load false 1 (.t 47))⟩,⟨(some 49),(some (46,true)),(.bin .neq false (.t 48) (.c (.str ⟨#[]⟩)))⟩,⟨(some 50),(some (41,false)),(.pick (.t 46) (.t 49) (.c (.bool false)))⟩,⟨some 51,none,.pick (.t 41) (.c (.bool true)) (.t 50)⟩]) (.cond (.t 51) (.seq (.reg [⟨some 2,none,.mv (.c (.bool false))⟩]) .ret) .skip)) (.seq (.seq (.reg [⟨some 52,none,.faddr 0 (.t 1)⟩,⟨some 53,none,.load false 1 (.t 52)⟩,⟨some 54,none,.bin .eql false (.t 53) (.c (.int .i64 3))⟩,⟨some 55,none,.mv (.t 54)⟩,⟨(some 56),(some (55,true)),(.faddr 1 (.t 1))⟩,⟨(some 57),(some (55,true)),(.load true 2 (.t 56))⟩,⟨(some 58),(some (55,true)),(.call 96 [(.t 57)])⟩,⟨(some 59),(some (55,true)),(.un .not (.t 58))⟩,⟨some 60,none,.pick (.t 55) (.t 59) (.c (.bool false))⟩,⟨some 61,none,.mv (.t 60)⟩,⟨(some 62),(some (61,false)),(.faddr 0 (.t 1))⟩,⟨(some 63),(some (61,false)),(.load false 1 (.t 62))⟩,⟨(some 64),(some (61,false)),(.bin .neq false (.t 63) (.c (.int .i64 3)))⟩,⟨(some 65),(some (61,false)),(.mv (.t 64))⟩,⟨(some 66),(some (65,true)),(.faddr 1 (.t 1))⟩,⟨(some 67),(some (65,true)),(.load true 2 (.t 66))⟩,⟨(some 68),(some (65,true)),(.call 97 [(.t 67)])⟩,⟨(some 69),(some (65,true)),(.un .not (.t 68))⟩,⟨(some 70),(some (61,false)),(.pick (.t 65) (.t 69) (.c (.bool false)))⟩,⟨some 71,none,.pick (.t 61) (.c (.bool true)) (.t 70)⟩]) (.cond (.t 71) (.seq (.reg [⟨some 2,none,.mv (.c (.bool false))⟩]) .ret) .skip)) (.seq (.reg [⟨some 72,none,.faddr 4 (.t 1)⟩,⟨some 73,none,.load false 1 (.t 72)⟩,⟨some 74,none,.call 98 [(.t 73),(.c (.fn 99 []))]⟩,⟨some 75,none,.un .not (.t 74)⟩,⟨some 2,none,.mv (.t 75)⟩]) .ret))))))
theorem AB:codeOf Try.prog 62=some ⟨76,A7,[(.tmp 2)]⟩:=by kernel_rfl
theorem A4:modes 62=⟨[],.asis,none,false⟩:=by unfold modes; rfl
def Gs:SC:=(.seq (.reg [⟨some 1,none,.boxv 27 5 (.t 0)⟩,⟨some 2,none,.mv (.c (.bool false))⟩]) (.seq (.reg [⟨some 3,none,.load true 5 (.t 1)⟩,⟨some 4,none,.call 62 [(.t 3)]⟩,⟨some 5,none,.un .not (.t 4)⟩,⟨some 2,none,.mv (.t 5)⟩]) .ret))
theorem JB:codeOf Try.prog 99=some ⟨6,Gs,[(.tmp 2)]⟩:=by kernel_rfl
theorem Gt:modes 99=⟨[],.asis,none,false⟩:=by unfold modes; rfl
theorem JC:Kl Try.prog 99=true:=by kernel_rfl
def AX:SC:=(.seq (.reg [⟨some 1,none,.boxv 27 5 (.t 0)⟩,⟨some 2,none,.mv (.c (.bool false))⟩]) (.seq (.reg [⟨some 4,none,.faddr 4 (.t 1)⟩,⟨some 5,none,.load false 1 (.t 4)⟩,⟨some 6,none,.len false (.t 5)⟩,⟨some 3,none,.mv (.t 6)⟩]) (.seq (.seq (.reg [⟨some 7,none,.faddr 0 (.t 1)⟩,⟨some 8,none,.load false 1 (.t 7)⟩]) (.block 0 (.seq (.seq (.reg [⟨some 10,none,.bin .eql false (.t 8) (.c (.int .i64 1))⟩,⟨some 9,none,.mv (.t 10)⟩]) (.cond (.t 9) .skip (.reg [⟨some 11,none,.bin .eql false (.t 8) (.c (.int .i64 2))⟩,⟨some 9,none,.mv (.t 11)⟩]))) (.cond (.t 9) (.seq (.reg [⟨some 12,none,.mv (.t 3)⟩,⟨some 13,none,.bin .eql false (.t 12) (.c (.int .i64 0))⟩,⟨some 14,none,.mv (.t 13)⟩,⟨(some 15),(some (14,true)),(.faddr 1 (.t 1))⟩,⟨(some 16),(some (14,true)),(.load true 2 (.t 15))⟩,⟨(some 17),(some (14,true)),(.call 118 [(.t 16)])⟩,⟨some 18,none,.pick (.t 14) (.t 17) (.c (.bool false))⟩,⟨some 19,none,.mv (.t 18)⟩,⟨(some 20),(some (19,true)),(.faddr 3 (.t 1))⟩,⟨(some 21),(some (19,true)),(.load false 1 (.t 20))⟩,⟨(some 22),(some (19,true)),(.bin .eql false (.t 21) (.c (.str ⟨#[]⟩)))⟩,⟨some 23,none,.pick (.t 19) (.t 22) (.c (.bool false))⟩,⟨some 2,none,.mv (.t 23)⟩]) .ret) (.seq (.reg [⟨some 25,none,.bin .eql false (.t 8) (.c (.int .i64 3))⟩,⟨some 24,none,.mv (.t 25)⟩]) (.cond (.t 24) (.seq (.reg [⟨some 26,none,.mv (.t 3)⟩,⟨some 27,none,.bin .eql false (.t 26) (.c (.int .i64 0))⟩,⟨some 28,none,.mv (.t 27)⟩,⟨(some 29),(some (28,true)),(.faddr 1 (.t 1))⟩,⟨(some 30),(some (28,true)),(.load true 2 (.t 29))⟩,⟨(some 31),(some (28,true)),(.call 70 [(.t 30)])⟩,⟨some 32,none,.pick (.t 28) (.t 31) (.c (.bool false))⟩,⟨some 33,none,.mv (.t 32)⟩,⟨(some 34),(some (33,true)),(.faddr 3 (.t 1))⟩,⟨(some 35),(some (33,true)),(.load false 1 (.t 34))⟩,⟨(some 36),(some (33,true)),(.bin .eql false (.t 35) (.c (.str ⟨#[]⟩)))⟩,⟨some 37,none,.pick (.t 33) (.t 36) (.c (.bool false))⟩,⟨some 2,none,.mv (.t 37)⟩]) .ret) (.seq (.reg [⟨some 39,none,.bin .eql false (.t 8) (.c (.int .i64 4))⟩,⟨some 38,none,.mv (.t 39)⟩]) (.cond (.t 38) (.seq (.reg [⟨some 40,none,.mv (.t 3)⟩,⟨some 41,none,.bin .eql false (.t 40) (.c (.int .i64 1))⟩,⟨some 42,none,.mv (.t 41)⟩,⟨(some 43),(some (42,true)),(.faddr 1 (.t 1))⟩,⟨(some 44),(some (42,true)),(.load true 2 (.t 43))⟩,⟨(some 45),(some (42,true)),(.call 118 [(.t 44)])⟩,⟨some 46,none,.pick (.t 42) (.t 45) (.c (.bool false))⟩,⟨some 47,none,.mv (.t 46)⟩,⟨(some 48),(some (47,true)),(.faddr 3 (.t 1))⟩,⟨(some 49),(some (47,true)),(.load false 1 (.t 48))⟩,⟨(some 50),(some (47,true)),(.bin .eql false (.t 49) (.c (.str ⟨#[]⟩)))⟩,⟨some 51,none,.pick (.t 47) (.t 50) (.c (.bool false))⟩,⟨some 2,none,.mv (.t 51)⟩]) .ret) (.seq (.seq (.reg [⟨some 53,none,.bin .eql false (.t 8) (.c (.int .i64 5))⟩,⟨some 52,none,.mv (.t 53)⟩]) (.cond (.t 52) .skip (.seq (.reg [⟨some 54,none,.bin .eql false (.t 8) (.c (.int .i64 6))⟩,⟨some 52,none,.mv (.t 54)⟩]) (.cond (.t 52) .skip (.reg [⟨some 55,none,.bin .eql false (.t 8) (.c (.int .i64 7))⟩,⟨some 52,none,.mv (.t 55)⟩]))))) (.cond (.t 52) (.seq (.reg [⟨some 56,none,.mv (.t 3)⟩,⟨some 57,none,.bin .eql false (.t 56) (.c (.int .i64 2))⟩,⟨some 58,none,.mv (.t 57)⟩,⟨(some 59),(some (58,true)),(.faddr 1 (.t 1))⟩,⟨(some 60),(some (58,true)),(.load true 2 (.t 59))⟩,⟨(some 61),(some (58,true)),(.call 118 [(.t 60)])⟩,⟨some 62,none,.pick (.t 58) (.t 61) (.c (.bool false))⟩,⟨some 63,none,.mv (.t 62)⟩,⟨(some 64),(some (63,true)),(.faddr 3 (.t 1))⟩,⟨(some 65),(some (63,true)),(.load false 1 (.t 64))⟩,⟨(some 66),(some (63,true)),(.bin .eql false (.t 65) (.c (.str ⟨#[]⟩)))⟩,⟨some 67,none,.pick (.t 63) (.t 66) (.c (.bool false))⟩,⟨some 2,none,.mv (.t 67)⟩]) .ret) (.seq (.seq (.reg [⟨some 69,none,.bin .eql false (.t 8) (.c (.int .i64 8))⟩,⟨some 68,none,.mv (.t 69)⟩]) (.cond (.t 68) .skip (.reg [⟨some 70,none,.bin .eql false (.t 8) (.c (.int .i64 9))⟩,⟨some 68,none,.mv (.t 70)⟩]))) (.cond (.t 68) (.seq (.reg [⟨some 71,none,.mv (.t 3)⟩,⟨some 72,none,.bin .eql false (.t 71) (.c (.int .i64 1))⟩,⟨some 73,none,.mv (.t 72)⟩,⟨(some 74),(some (73,true)),(.faddr 1 (.t 1))⟩,⟨(some 75),(some (73,true)),(.load true 2 (.t 74))⟩,⟨(some 76),(some (73,true)),(.call 118 [(.t 75)])⟩,⟨some 77,none,.pick (.t 73) (.t 76) (.c (.bool false))⟩,⟨some 78,none,.mv (.t 77)⟩,⟨(some 79),(some (78,true)),(.faddr 3 (.t 1))⟩,⟨(some 80),(some (78,true)),(.load false 1 (.t 79))⟩,⟨(some 81),(some (78,true)),(.call 72 [(.t 80)])⟩,⟨some 82,none,.pick (.t 78) (.t 81) (.c (.bool false))⟩,⟨some 2,none,.mv (.t 82)⟩]) .ret) .skip)))))))))))) (.seq (.reg [⟨some 2,none,.mv (.c (.bool false))⟩]) .ret))))
theorem Ba:codeOf Try.prog 86=some ⟨83,AX,[(.tmp 2)]⟩:=by kernel_rfl
theorem AQ:modes 86=⟨[],.asis,none,false⟩:=by unfold modes; rfl
def Fu:SC:=(.seq (.reg [⟨some 1,none,.boxv 27 5 (.t 0)⟩,⟨some 2,none,.mv (.c (.bool false))⟩]) (.seq (.seq (.reg [⟨some 4,none,.load true 5 (.t 1)⟩,⟨some 5,none,.call 86 [(.t 4)]⟩,⟨some 6,none,.un .not (.t 5)⟩]) (.cond (.t 6) (.seq (.reg [⟨some 2,none,.mv (.c (.bool false))⟩]) .ret) .skip)) (.seq (.seq (.reg [⟨some 3,none,.mv (.c (.int .i64 0))⟩]) (.block 0 (.loop [0,1,0,1,0,0,0,0,0,0,0,0,0,0,0,0,0,0,0,0,0] (.seq (.seq (.reg [⟨some 7,none,.mv (.t 3)⟩,⟨some 8,none,.faddr 4 (.t 1)⟩,⟨some 9,none,.load false 1 (.t 8)⟩,⟨some 10,none,.len false (.t 9)⟩,⟨some 11,none,.bin .lss false (.t 7) (.t 10)⟩]) (.cond (.t 11) .skip (.exit 0))) (.seq (.block 1 (.seq (.reg [⟨some 14,none,.faddr 4 (.t 1)⟩,⟨some 15,none,.load false 1 (.t 14)⟩,⟨some 16,none,.mv (.t 3)⟩,⟨some 17,none,.iaddr 5 (.t 15) (.t 16)⟩,⟨some 18,none,.load true 5 (.t 17)⟩,⟨some 19,none,.call 51 [(.t 18)]⟩,⟨some 20,none,.un .not (.t 19)⟩]) (.cond (.t 20) (.seq (.reg [⟨some 2,none,.mv (.c (.bool false))⟩]) .ret) .skip))) (.reg [⟨some 12,none,.mv (.t 3)⟩,⟨some 13,none,.bin .add false (.t 12) (.c (.int .i64 1))⟩,⟨some 3,none,.mv (.t 13)⟩])))))) (.seq (.reg [⟨some 2,none,.mv (.c (.bool true))⟩]) .ret))))
theorem Hw:codeOf Try.prog 51=some ⟨21,Fu,[(.tmp 2)]⟩:=by kernel_rfl
theorem C5:modes 51=⟨[],.asis,none,false⟩:=by unfold modes; rfl
def CR:SC:=(.seq (.reg [⟨some 1,none,.boxv 27 5 (.t 0)⟩,⟨some 2,none,.mv (.c (.bool false))⟩]) (.seq (.reg [⟨some 3,none,.load true 5 (.t 1)⟩,⟨some 4,none,.call 61 [(.t 3)]⟩,⟨some 5,none,.bin .leq false (.t 4) (.c (.int .i64 40))⟩,⟨some 6,none,.mv (.t 5)⟩,⟨(some 7),(some (6,true)),(.load true 5 (.t 1))⟩,⟨(some 8),(some (6,true)),(.call 62 [(.t 7)])⟩,⟨some 9,none,.pick (.t 6) (.t 8) (.c (.bool false))⟩,⟨some 2,none,.mv (.t 9)⟩]) .ret))
theorem DV:codeOf Try.prog 24=some ⟨10,CR,[(.tmp 2)]⟩:=by kernel_rfl
theorem Bs:modes 24=⟨[],.asis,none,false⟩:=by unfold modes; rfl
def FU:SC:=(.seq (.reg [⟨some 1,none,.boxv 27 5 (.t 0)⟩,⟨some 2,none,.mv (.c (.bool false))⟩]) (.seq (.reg [⟨some 3,none,.load true 5 (.t 1)⟩,⟨some 4,none,.call 50 [(.t 3),(.c (.int .i64 40))]⟩,⟨some 5,none,.bin .leq false (.t 4) (.c (.int .i64 40))⟩,⟨some 6,none,.mv (.t 5)⟩,⟨(some 7),(some (6,true)),(.load true 5 (.t 1))⟩,⟨(some 8),(some (6,true)),(.call 51 [(.t 7)])⟩,⟨some 9,none,.pick (.t 6) (.t 8) (.c (.bool false))⟩,⟨some 2,none,.mv (.t 9)⟩]) .ret))
theorem Ii:codeOf Try.prog 20=some ⟨10,FU,[(.tmp 2)]⟩:=by kernel_rfl
theorem CP:modes 20=⟨[],.asis,none,false⟩:=by unfold modes; rfl
theorem C6 (n:Int):E 93 [.int .i64 n] []=some (.bool (dec (n=8) || dec (n=9)),[]):=by
 cases h1:dec (n=8) with
 | true =>
  refine Aj EB Ac (of_decide_eq_true rfl) ?_
  simp (disch:=omega) only [Dj,go_sem,Ab,h1]
 | false =>
  refine Aj EB Ac (of_decide_eq_true rfl) ?_
  simp (disch:=omega) only [Dj,go_sem,Ab,h1]
theorem Ej (n:Int):E 94 [.int .i64 n] []=some (.bool (dec (n=5) || dec (n=6) || dec (n=7)),[]):=by
 cases h1:dec (n=5) <;> cases h2:dec (n=6)
 all_goals
  refine Aj Ko Ah (of_decide_eq_true rfl) ?_
  simp (disch:=omega) only [GI,go_sem,Ab,h1,h2]
theorem EP (x:Tm):E 97 [x.sv] []=some (.bool x.isZ,[]):=by
 unfold Tm.isZ
 have hl:dec ((x.args.length:Int)=0)=(x.args.length == 0):=by
  rw [KT]
  cases x.args <;> simp <;> omega
 cases h1:dec (x.name=⟨#[]⟩) with
 | true =>
  refine Aj FB Af (of_decide_eq_true rfl) ?_
  simp (disch:=omega) only [DN,go_sem,Ab,h1]
  try rw [hl]
 | false =>
  refine Aj FB Af (of_decide_eq_true rfl) ?_
  simp (disch:=omega) only [DN,go_sem,Ab,h1]
theorem Jf (x:Tm):E 118 [x.sv] []=some (.bool x.isZ,[]):=by
 unfold Tm.isZ
 have hl:dec ((x.args.length:Int)=0)=(x.args.length == 0):=by
  rw [KT]
  cases x.args <;> simp <;> omega
 cases h1:dec (x.name=⟨#[]⟩) with
 | true =>
  refine Aj Ih Ak (of_decide_eq_true rfl) ?_
  simp (disch:=omega) only [FT,go_sem,Ab,h1]
  try rw [hl]
 | false =>
  refine Aj Ih Ak (of_decide_eq_true rfl) ?_
  simp (disch:=omega) only [FT,go_sem,Ab,h1]
theorem OO (x:Fm) (hn:x.atom.nodes≤1099511627776) (ho:x.op=1∨x.op=2):E 86 [x.sv] []=some (.bool x.form,[]):=by
 have hf:x.form=(x.parts.length == 0&&x.atom.isZ&&dec (x.var=⟨#[]⟩)):=by unfold Fm.form; rcases ho with ho | ho <;> simp [ho]
 rcases ho with ho | ho
 all_goals
  first
   |(have o1:dec (x.op=1)=true:=A1 ho)
   |(have o1:dec (x.op=1)=false:=An (by omega))
  first
   |(have o2:dec (x.op=2)=true:=A1 ho)
   |(have o2:dec (x.op=2)=false:=An (by omega))
  have o3:dec (x.op=3)=false:=An (by omega)
  have o4:dec (x.op=4)=false:=An (by omega)
  have o5:dec (x.op=5)=false:=An (by omega)
  have o6:dec (x.op=6)=false:=An (by omega)
  have o7:dec (x.op=7)=false:=An (by omega)
  have o8:dec (x.op=8)=false:=An (by omega)
  have o9:dec (x.op=9)=false:=An (by omega)
  have ha:=Jf x.atom
  have hv:=HF x.var
  rw [hf]
  by_cases hl:x.parts.length=0
  ·have hl2:dec ((x.parts.length:Int)=0)=true:=A1 (by omega)
   rw [hl,beq_self_eq_true,zD]
   cases hq:x.atom.isZ with
   | true =>
    rw [hq] at ha
    rw [zD]
    refine Aj Ba AQ (of_decide_eq_true rfl) ?_
    simp (disch:=omega) only [AX,go_sem,o1,o2,o3,o4,o5,o6,o7,o8,o9,hl2,ha,hv,Ai,Ak,Am]
    repeat ((first | (refine AH ?_ ?_; (focus (simp (disch:=omega) only [go_sem,o1,o2,o3,o4,o5,o6,o7,o8,o9,hl2,ha,hv,Ai,Ak,Am]; done))) | (refine AI ?_ ?_; (focus (simp (disch:=omega) only [go_sem,o1,o2,o3,o4,o5,o6,o7,o8,o9,hl2,ha,hv,Ai,Ak,Am]; done)))); (try simp (disch:=omega) only [go_sem,o1,o2,o3,o4,o5,o6,o7,o8,o9,hl2,ha,hv,Ai,Ak,Am]))
   | false =>
    rw [hq] at ha
    rw [zB]
    refine Aj Ba AQ (of_decide_eq_true rfl) ?_
    simp (disch:=omega) only [AX,go_sem,o1,o2,o3,o4,o5,o6,o7,o8,o9,hl2,ha,hv,Ai,Ak,Am]
    repeat ((first | (refine AH ?_ ?_; (focus (simp (disch:=omega) only [go_sem,o1,o2,o3,o4,o5,o6,o7,o8,o9,hl2,ha,hv,Ai,Ak,Am]; done))) | (refine AI ?_ ?_; (focus (simp (disch:=omega) only [go_sem,o1,o2,o3,o4,o5,o6,o7,o8,o9,hl2,ha,hv,Ai,Ak,Am]; done)))); (try simp (disch:=omega) only [go_sem,o1,o2,o3,o4,o5,o6,o7,o8,o9,hl2,ha,hv,Ai,Ak,Am]))
  ·have hl2:dec ((x.parts.length:Int)=0)=false:=An (by omega)
   have hl3:(x.parts.length == 0)=false:=by simpa using hl
   rw [hl3,zB,zB]
   refine Aj Ba AQ (of_decide_eq_true rfl) ?_
   simp (disch:=omega) only [AX,go_sem,o1,o2,o3,o4,o5,o6,o7,o8,o9,hl2,ha,hv,Ai,Ak,Am]
   repeat ((first | (refine AH ?_ ?_; (focus (simp (disch:=omega) only [go_sem,o1,o2,o3,o4,o5,o6,o7,o8,o9,hl2,ha,hv,Ai,Ak,Am]; done))) | (refine AI ?_ ?_; (focus (simp (disch:=omega) only [go_sem,o1,o2,o3,o4,o5,o6,o7,o8,o9,hl2,ha,hv,Ai,Ak,Am]; done)))); (try simp (disch:=omega) only [go_sem,o1,o2,o3,o4,o5,o6,o7,o8,o9,hl2,ha,hv,Ai,Ak,Am]))
theorem SJ (x:Fm) (hn:x.atom.nodes≤1099511627776) (ho:x.op=3):E 86 [x.sv] []=some (.bool x.form,[]):=by
 have hf:x.form=(x.parts.length == 0&&x.atom.atom&&dec (x.var=⟨#[]⟩)):=by unfold Fm.form; rcases ho with ho <;> simp [ho]
 rcases ho with ho
 all_goals
  have o1:dec (x.op=1)=false:=An (by omega)
  have o2:dec (x.op=2)=false:=An (by omega)
  have o3:dec (x.op=3)=true:=A1 ho
  have o4:dec (x.op=4)=false:=An (by omega)
  have o5:dec (x.op=5)=false:=An (by omega)
  have o6:dec (x.op=6)=false:=An (by omega)
  have o7:dec (x.op=7)=false:=An (by omega)
  have o8:dec (x.op=8)=false:=An (by omega)
  have o9:dec (x.op=9)=false:=An (by omega)
  have ha:=S3 x.atom (by omega)
  have hv:=HF x.var
  rw [hf]
  by_cases hl:x.parts.length=0
  ·have hl2:dec ((x.parts.length:Int)=0)=true:=A1 (by omega)
   rw [hl,beq_self_eq_true,zD]
   cases hq:x.atom.atom with
   | true =>
    rw [hq] at ha
    rw [zD]
    refine Aj Ba AQ (of_decide_eq_true rfl) ?_
    simp (disch:=omega) only [AX,go_sem,o1,o2,o3,o4,o5,o6,o7,o8,o9,hl2,ha,hv,Ai,Ak,Am]
    repeat ((first | (refine AH ?_ ?_; (focus (simp (disch:=omega) only [go_sem,o1,o2,o3,o4,o5,o6,o7,o8,o9,hl2,ha,hv,Ai,Ak,Am]; done))) | (refine AI ?_ ?_; (focus (simp (disch:=omega) only [go_sem,o1,o2,o3,o4,o5,o6,o7,o8,o9,hl2,ha,hv,Ai,Ak,Am]; done)))); (try simp (disch:=omega) only [go_sem,o1,o2,o3,o4,o5,o6,o7,o8,o9,hl2,ha,hv,Ai,Ak,Am]))
   | false =>
    rw [hq] at ha
    rw [zB]
    refine Aj Ba AQ (of_decide_eq_true rfl) ?_
    simp (disch:=omega) only [AX,go_sem,o1,o2,o3,o4,o5,o6,o7,o8,o9,hl2,ha,hv,Ai,Ak,Am]
    repeat ((first | (refine AH ?_ ?_; (focus (simp (disch:=omega) only [go_sem,o1,o2,o3,o4,o5,o6,o7,o8,o9,hl2,ha,hv,Ai,Ak,Am]; done))) | (refine AI ?_ ?_; (focus (simp (disch:=omega) only [go_sem,o1,o2,o3,o4,o5,o6,o7,o8,o9,hl2,ha,hv,Ai,Ak,Am]; done)))); (try simp (disch:=omega) only [go_sem,o1,o2,o3,o4,o5,o6,o7,o8,o9,hl2,ha,hv,Ai,Ak,Am]))
  ·have hl2:dec ((x.parts.length:Int)=0)=false:=An (by omega)
   have hl3:(x.parts.length == 0)=false:=by simpa using hl
   rw [hl3,zB,zB]
   refine Aj Ba AQ (of_decide_eq_true rfl) ?_
   simp (disch:=omega) only [AX,go_sem,o1,o2,o3,o4,o5,o6,o7,o8,o9,hl2,ha,hv,Ai,Ak,Am]
   repeat ((first | (refine AH ?_ ?_; (focus (simp (disch:=omega) only [go_sem,o1,o2,o3,o4,o5,o6,o7,o8,o9,hl2,ha,hv,Ai,Ak,Am]; done))) | (refine AI ?_ ?_; (focus (simp (disch:=omega) only [go_sem,o1,o2,o3,o4,o5,o6,o7,o8,o9,hl2,ha,hv,Ai,Ak,Am]; done)))); (try simp (disch:=omega) only [go_sem,o1,o2,o3,o4,o5,o6,o7,o8,o9,hl2,ha,hv,Ai,Ak,Am]))
theorem SK (x:Fm) (hn:x.atom.nodes≤1099511627776) (ho:x.op=4):E 86 [x.sv] []=some (.bool x.form,[]):=by
 have hf:x.form=(x.parts.length == 1&&x.atom.isZ&&dec (x.var=⟨#[]⟩)):=by unfold Fm.form; rcases ho with ho <;> simp [ho]
 rcases ho with ho
 all_goals
  have o1:dec (x.op=1)=false:=An (by omega)
  have o2:dec (x.op=2)=false:=An (by omega)
  have o3:dec (x.op=3)=false:=An (by omega)
  have o4:dec (x.op=4)=true:=A1 ho
  have o5:dec (x.op=5)=false:=An (by omega)
  have o6:dec (x.op=6)=false:=An (by omega)
  have o7:dec (x.op=7)=false:=An (by omega)
  have o8:dec (x.op=8)=false:=An (by omega)
  have o9:dec (x.op=9)=false:=An (by omega)
  have ha:=Jf x.atom
  have hv:=HF x.var
  rw [hf]
  by_cases hl:x.parts.length=1
  ·have hl2:dec ((x.parts.length:Int)=1)=true:=A1 (by omega)
   rw [hl,beq_self_eq_true,zD]
   cases hq:x.atom.isZ with
   | true =>
    rw [hq] at ha
    rw [zD]
    refine Aj Ba AQ (of_decide_eq_true rfl) ?_
    simp (disch:=omega) only [AX,go_sem,o1,o2,o3,o4,o5,o6,o7,o8,o9,hl2,ha,hv,Ai,Ak,Am]
    repeat ((first | (refine AH ?_ ?_; (focus (simp (disch:=omega) only [go_sem,o1,o2,o3,o4,o5,o6,o7,o8,o9,hl2,ha,hv,Ai,Ak,Am]; done))) | (refine AI ?_ ?_; (focus (simp (disch:=omega) only [go_sem,o1,o2,o3,o4,o5,o6,o7,o8,o9,hl2,ha,hv,Ai,Ak,Am]; done)))); (try simp (disch:=omega) only [go_sem,o1,o2,o3,o4,o5,o6,o7,o8,o9,hl2,ha,hv,Ai,Ak,Am]))
   | false =>
    rw [hq] at ha
    rw [zB]
    refine Aj Ba AQ (of_decide_eq_true rfl) ?_
    simp (disch:=omega) only [AX,go_sem,o1,o2,o3,o4,o5,o6,o7,o8,o9,hl2,ha,hv,Ai,Ak,Am]
    repeat ((first | (refine AH ?_ ?_; (focus (simp (disch:=omega) only [go_sem,o1,o2,o3,o4,o5,o6,o7,o8,o9,hl2,ha,hv,Ai,Ak,Am]; done))) | (refine AI ?_ ?_; (focus (simp (disch:=omega) only [go_sem,o1,o2,o3,o4,o5,o6,o7,o8,o9,hl2,ha,hv,Ai,Ak,Am]; done)))); (try simp (disch:=omega) only [go_sem,o1,o2,o3,o4,o5,o6,o7,o8,o9,hl2,ha,hv,Ai,Ak,Am]))
  ·have hl2:dec ((x.parts.length:Int)=1)=false:=An (by omega)
   have hl3:(x.parts.length == 1)=false:=by simpa using hl
   rw [hl3,zB,zB]
   refine Aj Ba AQ (of_decide_eq_true rfl) ?_
   simp (disch:=omega) only [AX,go_sem,o1,o2,o3,o4,o5,o6,o7,o8,o9,hl2,ha,hv,Ai,Ak,Am]
   repeat ((first | (refine AH ?_ ?_; (focus (simp (disch:=omega) only [go_sem,o1,o2,o3,o4,o5,o6,o7,o8,o9,hl2,ha,hv,Ai,Ak,Am]; done))) | (refine AI ?_ ?_; (focus (simp (disch:=omega) only [go_sem,o1,o2,o3,o4,o5,o6,o7,o8,o9,hl2,ha,hv,Ai,Ak,Am]; done)))); (try simp (disch:=omega) only [go_sem,o1,o2,o3,o4,o5,o6,o7,o8,o9,hl2,ha,hv,Ai,Ak,Am]))
theorem L6 (x:Fm) (hn:x.atom.nodes≤1099511627776) (ho:x.op=5∨x.op=6∨x.op=7):E 86 [x.sv] []=some (.bool x.form,[]):=by
 have hf:x.form=(x.parts.length == 2&&x.atom.isZ&&dec (x.var=⟨#[]⟩)):=by unfold Fm.form; rcases ho with ho | ho | ho <;> simp [ho]
 rcases ho with ho | ho | ho
 all_goals
  have o1:dec (x.op=1)=false:=An (by omega)
  have o2:dec (x.op=2)=false:=An (by omega)
  have o3:dec (x.op=3)=false:=An (by omega)
  have o4:dec (x.op=4)=false:=An (by omega)
  first
   |(have o5:dec (x.op=5)=true:=A1 ho)
   |(have o5:dec (x.op=5)=false:=An (by omega))
  first
   |(have o6:dec (x.op=6)=true:=A1 ho)
   |(have o6:dec (x.op=6)=false:=An (by omega))
  first
   |(have o7:dec (x.op=7)=true:=A1 ho)
   |(have o7:dec (x.op=7)=false:=An (by omega))
  have o8:dec (x.op=8)=false:=An (by omega)
  have o9:dec (x.op=9)=false:=An (by omega)
  have ha:=Jf x.atom
  have hv:=HF x.var
  rw [hf]
  by_cases hl:x.parts.length=2
  ·have hl2:dec ((x.parts.length:Int)=2)=true:=A1 (by omega)
   rw [hl,beq_self_eq_true,zD]
   cases hq:x.atom.isZ with
   | true =>
    rw [hq] at ha
    rw [zD]
    refine Aj Ba AQ (of_decide_eq_true rfl) ?_
    simp (disch:=omega) only [AX,go_sem,o1,o2,o3,o4,o5,o6,o7,o8,o9,hl2,ha,hv,Ai,Ak,Am]
    repeat ((first | (refine AH ?_ ?_; (focus (simp (disch:=omega) only [go_sem,o1,o2,o3,o4,o5,o6,o7,o8,o9,hl2,ha,hv,Ai,Ak,Am]; done))) | (refine AI ?_ ?_; (focus (simp (disch:=omega) only [go_sem,o1,o2,o3,o4,o5,o6,o7,o8,o9,hl2,ha,hv,Ai,Ak,Am]; done)))); (try simp (disch:=omega) only [go_sem,o1,o2,o3,o4,o5,o6,o7,o8,o9,hl2,ha,hv,Ai,Ak,Am]))
   | false =>
    rw [hq] at ha
    rw [zB]
    refine Aj Ba AQ (of_decide_eq_true rfl) ?_
    simp (disch:=omega) only [AX,go_sem,o1,o2,o3,o4,o5,o6,o7,o8,o9,hl2,ha,hv,Ai,Ak,Am]
    repeat ((first | (refine AH ?_ ?_; (focus (simp (disch:=omega) only [go_sem,o1,o2,o3,o4,o5,o6,o7,o8,o9,hl2,ha,hv,Ai,Ak,Am]; done))) | (refine AI ?_ ?_; (focus (simp (disch:=omega) only [go_sem,o1,o2,o3,o4,o5,o6,o7,o8,o9,hl2,ha,hv,Ai,Ak,Am]; done)))); (try simp (disch:=omega) only [go_sem,o1,o2,o3,o4,o5,o6,o7,o8,o9,hl2,ha,hv,Ai,Ak,Am]))
  ·have hl2:dec ((x.parts.length:Int)=2)=false:=An (by omega)
   have hl3:(x.parts.length == 2)=false:=by simpa using hl
   rw [hl3,zB,zB]
   refine Aj Ba AQ (of_decide_eq_true rfl) ?_
   simp (disch:=omega) only [AX,go_sem,o1,o2,o3,o4,o5,o6,o7,o8,o9,hl2,ha,hv,Ai,Ak,Am]
   repeat ((first | (refine AH ?_ ?_; (focus (simp (disch:=omega) only [go_sem,o1,o2,o3,o4,o5,o6,o7,o8,o9,hl2,ha,hv,Ai,Ak,Am]; done))) | (refine AI ?_ ?_; (focus (simp (disch:=omega) only [go_sem,o1,o2,o3,o4,o5,o6,o7,o8,o9,hl2,ha,hv,Ai,Ak,Am]; done)))); (try simp (disch:=omega) only [go_sem,o1,o2,o3,o4,o5,o6,o7,o8,o9,hl2,ha,hv,Ai,Ak,Am]))
theorem OP (x:Fm) (hn:x.atom.nodes≤1099511627776) (ho:x.op=8∨x.op=9):E 86 [x.sv] []=some (.bool x.form,[]):=by
 have hf:x.form=(x.parts.length == 1&&x.atom.isZ&&CU x.var):=by unfold Fm.form; rcases ho with ho | ho <;> simp [ho]
 rcases ho with ho | ho
 all_goals
  have o1:dec (x.op=1)=false:=An (by omega)
  have o2:dec (x.op=2)=false:=An (by omega)
  have o3:dec (x.op=3)=false:=An (by omega)
  have o4:dec (x.op=4)=false:=An (by omega)
  have o5:dec (x.op=5)=false:=An (by omega)
  have o6:dec (x.op=6)=false:=An (by omega)
  have o7:dec (x.op=7)=false:=An (by omega)
  first
   |(have o8:dec (x.op=8)=true:=A1 ho)
   |(have o8:dec (x.op=8)=false:=An (by omega))
  first
   |(have o9:dec (x.op=9)=true:=A1 ho)
   |(have o9:dec (x.op=9)=false:=An (by omega))
  have ha:=Jf x.atom
  have hv:=HF x.var
  rw [hf]
  by_cases hl:x.parts.length=1
  ·have hl2:dec ((x.parts.length:Int)=1)=true:=A1 (by omega)
   rw [hl,beq_self_eq_true,zD]
   cases hq:x.atom.isZ with
   | true =>
    rw [hq] at ha
    rw [zD]
    refine Aj Ba AQ (of_decide_eq_true rfl) ?_
    simp (disch:=omega) only [AX,go_sem,o1,o2,o3,o4,o5,o6,o7,o8,o9,hl2,ha,hv,Ai,Ak,Am]
    repeat ((first | (refine AH ?_ ?_; (focus (simp (disch:=omega) only [go_sem,o1,o2,o3,o4,o5,o6,o7,o8,o9,hl2,ha,hv,Ai,Ak,Am]; done))) | (refine AI ?_ ?_; (focus (simp (disch:=omega) only [go_sem,o1,o2,o3,o4,o5,o6,o7,o8,o9,hl2,ha,hv,Ai,Ak,Am]; done)))); (try simp (disch:=omega) only [go_sem,o1,o2,o3,o4,o5,o6,o7,o8,o9,hl2,ha,hv,Ai,Ak,Am]))
   | false =>
    rw [hq] at ha
    rw [zB]
    refine Aj Ba AQ (of_decide_eq_true rfl) ?_
    simp (disch:=omega) only [AX,go_sem,o1,o2,o3,o4,o5,o6,o7,o8,o9,hl2,ha,hv,Ai,Ak,Am]
    repeat ((first | (refine AH ?_ ?_; (focus (simp (disch:=omega) only [go_sem,o1,o2,o3,o4,o5,o6,o7,o8,o9,hl2,ha,hv,Ai,Ak,Am]; done))) | (refine AI ?_ ?_; (focus (simp (disch:=omega) only [go_sem,o1,o2,o3,o4,o5,o6,o7,o8,o9,hl2,ha,hv,Ai,Ak,Am]; done)))); (try simp (disch:=omega) only [go_sem,o1,o2,o3,o4,o5,o6,o7,o8,o9,hl2,ha,hv,Ai,Ak,Am]))
  ·have hl2:dec ((x.parts.length:Int)=1)=false:=An (by omega)
   have hl3:(x.parts.length == 1)=false:=by simpa using hl
   rw [hl3,zB,zB]
   refine Aj Ba AQ (of_decide_eq_true rfl) ?_
   simp (disch:=omega) only [AX,go_sem,o1,o2,o3,o4,o5,o6,o7,o8,o9,hl2,ha,hv,Ai,Ak,Am]
   repeat ((first | (refine AH ?_ ?_; (focus (simp (disch:=omega) only [go_sem,o1,o2,o3,o4,o5,o6,o7,o8,o9,hl2,ha,hv,Ai,Ak,Am]; done))) | (refine AI ?_ ?_; (focus (simp (disch:=omega) only [go_sem,o1,o2,o3,o4,o5,o6,o7,o8,o9,hl2,ha,hv,Ai,Ak,Am]; done)))); (try simp (disch:=omega) only [go_sem,o1,o2,o3,o4,o5,o6,o7,o8,o9,hl2,ha,hv,Ai,Ak,Am]))
theorem SL (x:Fm) (hn:x.atom.nodes≤1099511627776):E 86 [x.sv] []=some (.bool x.form,[]):=by
 rcases Lz x.op with h | h | h | h | h | h | h | h | h | h
 ·exact OO x hn (.inl h)
 ·exact OO x hn (.inr h)
 ·exact SJ x hn h
 ·exact SK x hn h
 ·exact L6 x hn (.inl h)
 ·exact L6 x hn (.inr (.inl h))
 ·exact L6 x hn (.inr (.inr h))
 ·exact OP x hn (.inl h)
 ·exact OP x hn (.inr h)
 ·obtain ⟨h1,h2,h3,h4,h5,h6,h7,h8,h9⟩:=h
  have hf:x.form=false:=by unfold Fm.form; simp [h1,h2,h3,h4,h5,h6,h7,h8,h9]
  have o1:=An h1
  have o2:=An h2
  have o3:=An h3
  have o4:=An h4
  have o5:=An h5
  have o6:=An h6
  have o7:=An h7
  have o8:=An h8
  have o9:=An h9
  rw [hf]
  refine Aj Ba AQ (of_decide_eq_true rfl) ?_
  simp (disch:=omega) only [AX,go_sem,o1,o2,o3,o4,o5,o6,o7,o8,o9]
  repeat ((first | (refine AH ?_ ?_; (focus (simp (disch:=omega) only [go_sem,o1,o2,o3,o4,o5,o6,o7,o8,o9]; done))) | (refine AI ?_ ?_; (focus (simp (disch:=omega) only [go_sem,o1,o2,o3,o4,o5,o6,o7,o8,o9]; done)))); (try simp (disch:=omega) only [go_sem,o1,o2,o3,o4,o5,o6,o7,o8,o9]))
theorem PH (x:Fm) (ht:x.tame) (hn:x.nodes≤1099511627776) (ih:∀ y∈x.parts,E 51 [y.sv] []=some (.bool y.forms,[])):E 51 [x.sv] []=some (.bool x.forms,[]):=by
 have hl:=Fm.length_le x.parts
 have hx:=Fm.nodes_eq x
 have hf:=SL x (Fm.Qx ht)
 rw [Fm.DK]
 cases hq:x.form with
 | false =>
  rw [hq] at hf
  rw [zB]
  refine Aj Hw C5 (of_decide_eq_true rfl) ?_
  simp (disch:=omega) only [Fu,go_sem,Ab,hf,AQ]
 | true =>
  rw [hq] at hf
  rw [zD]
  refine Aj Hw C5 (of_decide_eq_true rfl) ?_
  simp (disch:=omega) only [Fu,go_sem,Ab,hf,AQ]
  refine go_loop (α:=Int) (fun a=>⟨slots 21 0 [(1,.ptr 0 0),(3,.int .i64 a)],[.box 27 [.int .i64 x.op,.str x.atom.name,.arr (x.atom.args.map Tm.d),.str x.var,.arr (x.parts.map Fm.d)]]⟩) (fun a=>∃ k:Nat,a=k∧k≤(x.parts).length∧Fm.Ie (x.parts.drop k)=Fm.Ie x.parts) (fun a=>(x.parts).length-(a).toNat) 0 ⟨0,rfl,zU _,by rw [zM]⟩ (by simp (disch:=omega) only [go_sem,Ab]) ?_
  rintro i ⟨k,hi,hk,hR⟩
  have hni:i.toNat=k:=by omega
  have hni1:(i+1).toNat=k+1:=by omega
  rcases zI k (x.parts).length with hlt | hge
  ·have hg:=get_at Fm.d hlt
   rw [Fm.d_eq] at hg
   have hc:=ih x.parts[k] (zQ hlt)
   rw [zF hlt,Fm.Ie] at hR
   cases hp:x.parts[k].forms with
   | true =>
    rw [hp] at hc hR
    rw [zD] at hR
    simp (disch:=omega) only [go_sem,Ab,hni,hg,hc,C5]
    exact ⟨i+1,⟨k+1,by omega,hlt,hR⟩,by omega,by first | trivial | rfl⟩
   | false =>
    rw [hp] at hc hR
    rw [zB] at hR
    simp (disch:=omega) only [go_sem,Ab,hni,hg,hc,C5]
    exact hR
  ·rw [zJ hge,Fm.Ie] at hR
   simp (disch:=omega) only [go_sem,Ab,hni]
   exact hR
theorem Nf (x:Fm) (ht:x.tame) (hn:x.nodes≤1099511627776):E 51 [x.sv] []=some (.bool x.forms,[]) :=
 PH x ht hn fun y hy=>Nf y (Fm.MY ht hy) (by have:=Fm.nodes_mem hy; have:=Fm.nodes_eq x; omega)
termination_by SizeOf.sizeOf x
decreasing_by exact Fm.lt_of_mem hy
theorem Ng (x:Fm) (hn:x.atom.nodes≤1099511627776) (hl0:x.parts.length≤1099511627776) (ho:x.op=1∨x.op=2) (h2:E 98 [.arr (x.parts.map Fm.d),.fn 99 []] []=some (.bool (x.parts.any fun y=>!y.forms),[])):E 62 [x.sv] []=some (.bool x.forms,[]):=by
 have hf:x.form=(x.parts.length == 0&&x.atom.isZ&&dec (x.var=⟨#[]⟩)):=by unfold Fm.form; rcases ho with ho | ho <;> simp [ho]
 rcases ho with ho | ho
 all_goals
  first
   |(have o1:dec (x.op=1)=true:=A1 ho)
   |(have o1:dec (x.op=1)=false:=An (by omega))
  first
   |(have o2:dec (x.op=2)=true:=A1 ho)
   |(have o2:dec (x.op=2)=false:=An (by omega))
  have o3:dec (x.op=3)=false:=An (by omega)
  have o4:dec (x.op=4)=false:=An (by omega)
  have o5:dec (x.op=5)=false:=An (by omega)
  have o6:dec (x.op=6)=false:=An (by omega)
  have o7:dec (x.op=7)=false:=An (by omega)
  have o8:dec (x.op=8)=false:=An (by omega)
  have o9:dec (x.op=9)=false:=An (by omega)
  have ha:=EP x.atom
  have hv:=CB x.var
  have hb:=Ej x.op
  have hu:=C6 x.op
  rw [o5,o6,o7] at hb
  rw [o8,o9] at hu
  rw [Fm.DK,hf,← Fm.any_not]
  by_cases hl:x.parts.length=0
  ·have hl2:dec ((x.parts.length:Int)=0)=true:=A1 (by omega)
   rw [hl,beq_self_eq_true,zD]
   cases hw:dec (x.var=⟨#[]⟩) with
   | false =>
    try rw [hw] at hv
    rw [zZ,zB]
    refine Aj AB A4 (of_decide_eq_true rfl) ?_
    simp (disch:=omega) only [A7,go_sem,o1,o2,o3,o4,o5,o6,o7,o8,o9,hl2,ha,hv,hb,hu,hw,h2,Ad,Af,Ae,Ac,Ah,Aa]
    repeat ((first | (refine AH ?_ ?_; (focus (simp (disch:=omega) only [go_sem,o1,o2,o3,o4,o5,o6,o7,o8,o9,hl2,ha,hv,hb,hu,hw,h2,Ad,Af,Ae,Ac,Ah,Aa]; done))) | (refine AI ?_ ?_; (focus (simp (disch:=omega) only [go_sem,o1,o2,o3,o4,o5,o6,o7,o8,o9,hl2,ha,hv,hb,hu,hw,h2,Ad,Af,Ae,Ac,Ah,Aa]; done)))); (try simp (disch:=omega) only [go_sem,o1,o2,o3,o4,o5,o6,o7,o8,o9,hl2,ha,hv,hb,hu,hw,h2,Ad,Af,Ae,Ac,Ah,Aa]))
   | true =>
    try rw [hw] at hv
    rw [zK]
    cases hq:x.atom.isZ with
    | true =>
     rw [hq] at ha
     rw [zD]
     refine Aj AB A4 (of_decide_eq_true rfl) ?_
     simp (disch:=omega) only [A7,go_sem,o1,o2,o3,o4,o5,o6,o7,o8,o9,hl2,ha,hv,hb,hu,hw,h2,Ad,Af,Ae,Ac,Ah,Aa]
     repeat ((first | (refine AH ?_ ?_; (focus (simp (disch:=omega) only [go_sem,o1,o2,o3,o4,o5,o6,o7,o8,o9,hl2,ha,hv,hb,hu,hw,h2,Ad,Af,Ae,Ac,Ah,Aa]; done))) | (refine AI ?_ ?_; (focus (simp (disch:=omega) only [go_sem,o1,o2,o3,o4,o5,o6,o7,o8,o9,hl2,ha,hv,hb,hu,hw,h2,Ad,Af,Ae,Ac,Ah,Aa]; done)))); (try simp (disch:=omega) only [go_sem,o1,o2,o3,o4,o5,o6,o7,o8,o9,hl2,ha,hv,hb,hu,hw,h2,Ad,Af,Ae,Ac,Ah,Aa]))
    | false =>
     rw [hq] at ha
     rw [zB]
     refine Aj AB A4 (of_decide_eq_true rfl) ?_
     simp (disch:=omega) only [A7,go_sem,o1,o2,o3,o4,o5,o6,o7,o8,o9,hl2,ha,hv,hb,hu,hw,h2,Ad,Af,Ae,Ac,Ah,Aa]
     repeat ((first | (refine AH ?_ ?_; (focus (simp (disch:=omega) only [go_sem,o1,o2,o3,o4,o5,o6,o7,o8,o9,hl2,ha,hv,hb,hu,hw,h2,Ad,Af,Ae,Ac,Ah,Aa]; done))) | (refine AI ?_ ?_; (focus (simp (disch:=omega) only [go_sem,o1,o2,o3,o4,o5,o6,o7,o8,o9,hl2,ha,hv,hb,hu,hw,h2,Ad,Af,Ae,Ac,Ah,Aa]; done)))); (try simp (disch:=omega) only [go_sem,o1,o2,o3,o4,o5,o6,o7,o8,o9,hl2,ha,hv,hb,hu,hw,h2,Ad,Af,Ae,Ac,Ah,Aa]))
  ·have hl2:dec ((x.parts.length:Int)=0)=false:=An (by omega)
   have hl3:(x.parts.length == 0)=false:=by simpa using hl
   rw [hl3,zB,zB,zB]
   refine Aj AB A4 (of_decide_eq_true rfl) ?_
   simp (disch:=omega) only [A7,go_sem,o1,o2,o3,o4,o5,o6,o7,o8,o9,hl2,ha,hv,hb,hu, h2,Ad,Af,Ae,Ac,Ah,Aa]
   repeat ((first | (refine AH ?_ ?_; (focus (simp (disch:=omega) only [go_sem,o1,o2,o3,o4,o5,o6,o7,o8,o9,hl2,ha,hv,hb,hu, h2,Ad,Af,Ae,Ac,Ah,Aa]; done))) | (refine AI ?_ ?_; (focus (simp (disch:=omega) only [go_sem,o1,o2,o3,o4,o5,o6,o7,o8,o9,hl2,ha,hv,hb,hu, h2,Ad,Af,Ae,Ac,Ah,Aa]; done)))); (try simp (disch:=omega) only [go_sem,o1,o2,o3,o4,o5,o6,o7,o8,o9,hl2,ha,hv,hb,hu, h2,Ad,Af,Ae,Ac,Ah,Aa]))
theorem Rg (x:Fm) (hn:x.atom.nodes≤1099511627776) (hl0:x.parts.length≤1099511627776) (ho:x.op=3) (h2:E 98 [.arr (x.parts.map Fm.d),.fn 99 []] []=some (.bool (x.parts.any fun y=>!y.forms),[])):E 62 [x.sv] []=some (.bool x.forms,[]):=by
 have hf:x.form=(x.parts.length == 0&&x.atom.atom&&dec (x.var=⟨#[]⟩)):=by unfold Fm.form; rcases ho with ho <;> simp [ho]
 rcases ho with ho
 all_goals
  have o1:dec (x.op=1)=false:=An (by omega)
  have o2:dec (x.op=2)=false:=An (by omega)
  have o3:dec (x.op=3)=true:=A1 ho
  have o4:dec (x.op=4)=false:=An (by omega)
  have o5:dec (x.op=5)=false:=An (by omega)
  have o6:dec (x.op=6)=false:=An (by omega)
  have o7:dec (x.op=7)=false:=An (by omega)
  have o8:dec (x.op=8)=false:=An (by omega)
  have o9:dec (x.op=9)=false:=An (by omega)
  have ha:=LQ x.atom (by omega)
  have hv:=CB x.var
  have hb:=Ej x.op
  have hu:=C6 x.op
  rw [o5,o6,o7] at hb
  rw [o8,o9] at hu
  rw [Fm.DK,hf,← Fm.any_not]
  by_cases hl:x.parts.length=0
  ·have hl2:dec ((x.parts.length:Int)=0)=true:=A1 (by omega)
   rw [hl,beq_self_eq_true,zD]
   cases hw:dec (x.var=⟨#[]⟩) with
   | false =>
    try rw [hw] at hv
    rw [zZ,zB]
    refine Aj AB A4 (of_decide_eq_true rfl) ?_
    simp (disch:=omega) only [A7,go_sem,o1,o2,o3,o4,o5,o6,o7,o8,o9,hl2,ha,hv,hb,hu,hw,h2,Ad,Af,Ae,Ac,Ah,Aa]
    repeat ((first | (refine AH ?_ ?_; (focus (simp (disch:=omega) only [go_sem,o1,o2,o3,o4,o5,o6,o7,o8,o9,hl2,ha,hv,hb,hu,hw,h2,Ad,Af,Ae,Ac,Ah,Aa]; done))) | (refine AI ?_ ?_; (focus (simp (disch:=omega) only [go_sem,o1,o2,o3,o4,o5,o6,o7,o8,o9,hl2,ha,hv,hb,hu,hw,h2,Ad,Af,Ae,Ac,Ah,Aa]; done)))); (try simp (disch:=omega) only [go_sem,o1,o2,o3,o4,o5,o6,o7,o8,o9,hl2,ha,hv,hb,hu,hw,h2,Ad,Af,Ae,Ac,Ah,Aa]))
   | true =>
    try rw [hw] at hv
    rw [zK]
    cases hq:x.atom.atom with
    | true =>
     rw [hq] at ha
     rw [zD]
     refine Aj AB A4 (of_decide_eq_true rfl) ?_
     simp (disch:=omega) only [A7,go_sem,o1,o2,o3,o4,o5,o6,o7,o8,o9,hl2,ha,hv,hb,hu,hw,h2,Ad,Af,Ae,Ac,Ah,Aa]
     repeat ((first | (refine AH ?_ ?_; (focus (simp (disch:=omega) only [go_sem,o1,o2,o3,o4,o5,o6,o7,o8,o9,hl2,ha,hv,hb,hu,hw,h2,Ad,Af,Ae,Ac,Ah,Aa]; done))) | (refine AI ?_ ?_; (focus (simp (disch:=omega) only [go_sem,o1,o2,o3,o4,o5,o6,o7,o8,o9,hl2,ha,hv,hb,hu,hw,h2,Ad,Af,Ae,Ac,Ah,Aa]; done)))); (try simp (disch:=omega) only [go_sem,o1,o2,o3,o4,o5,o6,o7,o8,o9,hl2,ha,hv,hb,hu,hw,h2,Ad,Af,Ae,Ac,Ah,Aa]))
    | false =>
     rw [hq] at ha
     rw [zB]
     refine Aj AB A4 (of_decide_eq_true rfl) ?_
     simp (disch:=omega) only [A7,go_sem,o1,o2,o3,o4,o5,o6,o7,o8,o9,hl2,ha,hv,hb,hu,hw,h2,Ad,Af,Ae,Ac,Ah,Aa]
     repeat ((first | (refine AH ?_ ?_; (focus (simp (disch:=omega) only [go_sem,o1,o2,o3,o4,o5,o6,o7,o8,o9,hl2,ha,hv,hb,hu,hw,h2,Ad,Af,Ae,Ac,Ah,Aa]; done))) | (refine AI ?_ ?_; (focus (simp (disch:=omega) only [go_sem,o1,o2,o3,o4,o5,o6,o7,o8,o9,hl2,ha,hv,hb,hu,hw,h2,Ad,Af,Ae,Ac,Ah,Aa]; done)))); (try simp (disch:=omega) only [go_sem,o1,o2,o3,o4,o5,o6,o7,o8,o9,hl2,ha,hv,hb,hu,hw,h2,Ad,Af,Ae,Ac,Ah,Aa]))
  ·have hl2:dec ((x.parts.length:Int)=0)=false:=An (by omega)
   have hl3:(x.parts.length == 0)=false:=by simpa using hl
   rw [hl3,zB,zB,zB]
   refine Aj AB A4 (of_decide_eq_true rfl) ?_
   simp (disch:=omega) only [A7,go_sem,o1,o2,o3,o4,o5,o6,o7,o8,o9,hl2,ha,hv,hb,hu, h2,Ad,Af,Ae,Ac,Ah,Aa]
   repeat ((first | (refine AH ?_ ?_; (focus (simp (disch:=omega) only [go_sem,o1,o2,o3,o4,o5,o6,o7,o8,o9,hl2,ha,hv,hb,hu, h2,Ad,Af,Ae,Ac,Ah,Aa]; done))) | (refine AI ?_ ?_; (focus (simp (disch:=omega) only [go_sem,o1,o2,o3,o4,o5,o6,o7,o8,o9,hl2,ha,hv,hb,hu, h2,Ad,Af,Ae,Ac,Ah,Aa]; done)))); (try simp (disch:=omega) only [go_sem,o1,o2,o3,o4,o5,o6,o7,o8,o9,hl2,ha,hv,hb,hu, h2,Ad,Af,Ae,Ac,Ah,Aa]))
theorem Rh (x:Fm) (hn:x.atom.nodes≤1099511627776) (hl0:x.parts.length≤1099511627776) (ho:x.op=4) (h2:E 98 [.arr (x.parts.map Fm.d),.fn 99 []] []=some (.bool (x.parts.any fun y=>!y.forms),[])):E 62 [x.sv] []=some (.bool x.forms,[]):=by
 have hf:x.form=(x.parts.length == 1&&x.atom.isZ&&dec (x.var=⟨#[]⟩)):=by unfold Fm.form; rcases ho with ho <;> simp [ho]
 rcases ho with ho
 all_goals
  have o1:dec (x.op=1)=false:=An (by omega)
  have o2:dec (x.op=2)=false:=An (by omega)
  have o3:dec (x.op=3)=false:=An (by omega)
  have o4:dec (x.op=4)=true:=A1 ho
  have o5:dec (x.op=5)=false:=An (by omega)
  have o6:dec (x.op=6)=false:=An (by omega)
  have o7:dec (x.op=7)=false:=An (by omega)
  have o8:dec (x.op=8)=false:=An (by omega)
  have o9:dec (x.op=9)=false:=An (by omega)
  have ha:=EP x.atom
  have hv:=CB x.var
  have hb:=Ej x.op
  have hu:=C6 x.op
  rw [o5,o6,o7] at hb
  rw [o8,o9] at hu
  rw [Fm.DK,hf,← Fm.any_not]
  by_cases hl:x.parts.length=1
  ·have hl2:dec ((x.parts.length:Int)=1)=true:=A1 (by omega)
   rw [hl,beq_self_eq_true,zD]
   cases hw:dec (x.var=⟨#[]⟩) with
   | false =>
    try rw [hw] at hv
    rw [zZ,zB]
    refine Aj AB A4 (of_decide_eq_true rfl) ?_
    simp (disch:=omega) only [A7,go_sem,o1,o2,o3,o4,o5,o6,o7,o8,o9,hl2,ha,hv,hb,hu,hw,h2,Ad,Af,Ae,Ac,Ah,Aa]
    repeat ((first | (refine AH ?_ ?_; (focus (simp (disch:=omega) only [go_sem,o1,o2,o3,o4,o5,o6,o7,o8,o9,hl2,ha,hv,hb,hu,hw,h2,Ad,Af,Ae,Ac,Ah,Aa]; done))) | (refine AI ?_ ?_; (focus (simp (disch:=omega) only [go_sem,o1,o2,o3,o4,o5,o6,o7,o8,o9,hl2,ha,hv,hb,hu,hw,h2,Ad,Af,Ae,Ac,Ah,Aa]; done)))); (try simp (disch:=omega) only [go_sem,o1,o2,o3,o4,o5,o6,o7,o8,o9,hl2,ha,hv,hb,hu,hw,h2,Ad,Af,Ae,Ac,Ah,Aa]))
   | true =>
    try rw [hw] at hv
    rw [zK]
    cases hq:x.atom.isZ with
    | true =>
     rw [hq] at ha
     rw [zD]
     refine Aj AB A4 (of_decide_eq_true rfl) ?_
     simp (disch:=omega) only [A7,go_sem,o1,o2,o3,o4,o5,o6,o7,o8,o9,hl2,ha,hv,hb,hu,hw,h2,Ad,Af,Ae,Ac,Ah,Aa]
     repeat ((first | (refine AH ?_ ?_; (focus (simp (disch:=omega) only [go_sem,o1,o2,o3,o4,o5,o6,o7,o8,o9,hl2,ha,hv,hb,hu,hw,h2,Ad,Af,Ae,Ac,Ah,Aa]; done))) | (refine AI ?_ ?_; (focus (simp (disch:=omega) only [go_sem,o1,o2,o3,o4,o5,o6,o7,o8,o9,hl2,ha,hv,hb,hu,hw,h2,Ad,Af,Ae,Ac,Ah,Aa]; done)))); (try simp (disch:=omega) only [go_sem,o1,o2,o3,o4,o5,o6,o7,o8,o9,hl2,ha,hv,hb,hu,hw,h2,Ad,Af,Ae,Ac,Ah,Aa]))
    | false =>
     rw [hq] at ha
     rw [zB]
     refine Aj AB A4 (of_decide_eq_true rfl) ?_
     simp (disch:=omega) only [A7,go_sem,o1,o2,o3,o4,o5,o6,o7,o8,o9,hl2,ha,hv,hb,hu,hw,h2,Ad,Af,Ae,Ac,Ah,Aa]
     repeat ((first | (refine AH ?_ ?_; (focus (simp (disch:=omega) only [go_sem,o1,o2,o3,o4,o5,o6,o7,o8,o9,hl2,ha,hv,hb,hu,hw,h2,Ad,Af,Ae,Ac,Ah,Aa]; done))) | (refine AI ?_ ?_; (focus (simp (disch:=omega) only [go_sem,o1,o2,o3,o4,o5,o6,o7,o8,o9,hl2,ha,hv,hb,hu,hw,h2,Ad,Af,Ae,Ac,Ah,Aa]; done)))); (try simp (disch:=omega) only [go_sem,o1,o2,o3,o4,o5,o6,o7,o8,o9,hl2,ha,hv,hb,hu,hw,h2,Ad,Af,Ae,Ac,Ah,Aa]))
  ·have hl2:dec ((x.parts.length:Int)=1)=false:=An (by omega)
   have hl3:(x.parts.length == 1)=false:=by simpa using hl
   rw [hl3,zB,zB,zB]
   refine Aj AB A4 (of_decide_eq_true rfl) ?_
   simp (disch:=omega) only [A7,go_sem,o1,o2,o3,o4,o5,o6,o7,o8,o9,hl2,ha,hv,hb,hu, h2,Ad,Af,Ae,Ac,Ah,Aa]
   repeat ((first | (refine AH ?_ ?_; (focus (simp (disch:=omega) only [go_sem,o1,o2,o3,o4,o5,o6,o7,o8,o9,hl2,ha,hv,hb,hu, h2,Ad,Af,Ae,Ac,Ah,Aa]; done))) | (refine AI ?_ ?_; (focus (simp (disch:=omega) only [go_sem,o1,o2,o3,o4,o5,o6,o7,o8,o9,hl2,ha,hv,hb,hu, h2,Ad,Af,Ae,Ac,Ah,Aa]; done)))); (try simp (disch:=omega) only [go_sem,o1,o2,o3,o4,o5,o6,o7,o8,o9,hl2,ha,hv,hb,hu, h2,Ad,Af,Ae,Ac,Ah,Aa]))
theorem JD (x:Fm) (hn:x.atom.nodes≤1099511627776) (hl0:x.parts.length≤1099511627776) (ho:x.op=5∨x.op=6∨x.op=7) (h2:E 98 [.arr (x.parts.map Fm.d),.fn 99 []] []=some (.bool (x.parts.any fun y=>!y.forms),[])):E 62 [x.sv] []=some (.bool x.forms,[]):=by
 have hf:x.form=(x.parts.length == 2&&x.atom.isZ&&dec (x.var=⟨#[]⟩)):=by unfold Fm.form; rcases ho with ho | ho | ho <;> simp [ho]
 rcases ho with ho | ho | ho
 all_goals
  have o1:dec (x.op=1)=false:=An (by omega)
  have o2:dec (x.op=2)=false:=An (by omega)
  have o3:dec (x.op=3)=false:=An (by omega)
  have o4:dec (x.op=4)=false:=An (by omega)
  first
   |(have o5:dec (x.op=5)=true:=A1 ho)
   |(have o5:dec (x.op=5)=false:=An (by omega))
  first
   |(have o6:dec (x.op=6)=true:=A1 ho)
   |(have o6:dec (x.op=6)=false:=An (by omega))
  first
   |(have o7:dec (x.op=7)=true:=A1 ho)
   |(have o7:dec (x.op=7)=false:=An (by omega))
  have o8:dec (x.op=8)=false:=An (by omega)
  have o9:dec (x.op=9)=false:=An (by omega)
  have ha:=EP x.atom
  have hv:=CB x.var
  have hb:=Ej x.op
  have hu:=C6 x.op
  rw [o5,o6,o7] at hb
  rw [o8,o9] at hu
  rw [Fm.DK,hf,← Fm.any_not]
  by_cases hl:x.parts.length=2
  ·have hl2:dec ((x.parts.length:Int)=2)=true:=A1 (by omega)
   rw [hl,beq_self_eq_true,zD]
   cases hw:dec (x.var=⟨#[]⟩) with
   | false =>
    try rw [hw] at hv
    rw [zZ,zB]
    refine Aj AB A4 (of_decide_eq_true rfl) ?_
    simp (disch:=omega) only [A7,go_sem,o1,o2,o3,o4,o5,o6,o7,o8,o9,hl2,ha,hv,hb,hu,hw,h2,Ad,Af,Ae,Ac,Ah,Aa]
    repeat ((first | (refine AH ?_ ?_; (focus (simp (disch:=omega) only [go_sem,o1,o2,o3,o4,o5,o6,o7,o8,o9,hl2,ha,hv,hb,hu,hw,h2,Ad,Af,Ae,Ac,Ah,Aa]; done))) | (refine AI ?_ ?_; (focus (simp (disch:=omega) only [go_sem,o1,o2,o3,o4,o5,o6,o7,o8,o9,hl2,ha,hv,hb,hu,hw,h2,Ad,Af,Ae,Ac,Ah,Aa]; done)))); (try simp (disch:=omega) only [go_sem,o1,o2,o3,o4,o5,o6,o7,o8,o9,hl2,ha,hv,hb,hu,hw,h2,Ad,Af,Ae,Ac,Ah,Aa]))
   | true =>
    try rw [hw] at hv
    rw [zK]
    cases hq:x.atom.isZ with
    | true =>
     rw [hq] at ha
     rw [zD]
     refine Aj AB A4 (of_decide_eq_true rfl) ?_
     simp (disch:=omega) only [A7,go_sem,o1,o2,o3,o4,o5,o6,o7,o8,o9,hl2,ha,hv,hb,hu,hw,h2,Ad,Af,Ae,Ac,Ah,Aa]
     repeat ((first | (refine AH ?_ ?_; (focus (simp (disch:=omega) only [go_sem,o1,o2,o3,o4,o5,o6,o7,o8,o9,hl2,ha,hv,hb,hu,hw,h2,Ad,Af,Ae,Ac,Ah,Aa]; done))) | (refine AI ?_ ?_; (focus (simp (disch:=omega) only [go_sem,o1,o2,o3,o4,o5,o6,o7,o8,o9,hl2,ha,hv,hb,hu,hw,h2,Ad,Af,Ae,Ac,Ah,Aa]; done)))); (try simp (disch:=omega) only [go_sem,o1,o2,o3,o4,o5,o6,o7,o8,o9,hl2,ha,hv,hb,hu,hw,h2,Ad,Af,Ae,Ac,Ah,Aa]))
    | false =>
     rw [hq] at ha
     rw [zB]
     refine Aj AB A4 (of_decide_eq_true rfl) ?_
     simp (disch:=omega) only [A7,go_sem,o1,o2,o3,o4,o5,o6,o7,o8,o9,hl2,ha,hv,hb,hu,hw,h2,Ad,Af,Ae,Ac,Ah,Aa]
     repeat ((first | (refine AH ?_ ?_; (focus (simp (disch:=omega) only [go_sem,o1,o2,o3,o4,o5,o6,o7,o8,o9,hl2,ha,hv,hb,hu,hw,h2,Ad,Af,Ae,Ac,Ah,Aa]; done))) | (refine AI ?_ ?_; (focus (simp (disch:=omega) only [go_sem,o1,o2,o3,o4,o5,o6,o7,o8,o9,hl2,ha,hv,hb,hu,hw,h2,Ad,Af,Ae,Ac,Ah,Aa]; done)))); (try simp (disch:=omega) only [go_sem,o1,o2,o3,o4,o5,o6,o7,o8,o9,hl2,ha,hv,hb,hu,hw,h2,Ad,Af,Ae,Ac,Ah,Aa]))
  ·have hl2:dec ((x.parts.length:Int)=2)=false:=An (by omega)
   have hl3:(x.parts.length == 2)=false:=by simpa using hl
   rw [hl3,zB,zB,zB]
   refine Aj AB A4 (of_decide_eq_true rfl) ?_
   simp (disch:=omega) only [A7,go_sem,o1,o2,o3,o4,o5,o6,o7,o8,o9,hl2,ha,hv,hb,hu, h2,Ad,Af,Ae,Ac,Ah,Aa]
   repeat ((first | (refine AH ?_ ?_; (focus (simp (disch:=omega) only [go_sem,o1,o2,o3,o4,o5,o6,o7,o8,o9,hl2,ha,hv,hb,hu, h2,Ad,Af,Ae,Ac,Ah,Aa]; done))) | (refine AI ?_ ?_; (focus (simp (disch:=omega) only [go_sem,o1,o2,o3,o4,o5,o6,o7,o8,o9,hl2,ha,hv,hb,hu, h2,Ad,Af,Ae,Ac,Ah,Aa]; done)))); (try simp (disch:=omega) only [go_sem,o1,o2,o3,o4,o5,o6,o7,o8,o9,hl2,ha,hv,hb,hu, h2,Ad,Af,Ae,Ac,Ah,Aa]))
theorem Nh (x:Fm) (hn:x.atom.nodes≤1099511627776) (hl0:x.parts.length≤1099511627776) (ho:x.op=8∨x.op=9) (h2:E 98 [.arr (x.parts.map Fm.d),.fn 99 []] []=some (.bool (x.parts.any fun y=>!y.forms),[])):E 62 [x.sv] []=some (.bool x.forms,[]):=by
 have hf:x.form=(x.parts.length == 1&&x.atom.isZ&&CU x.var):=by unfold Fm.form; rcases ho with ho | ho <;> simp [ho]
 rcases ho with ho | ho
 all_goals
  have o1:dec (x.op=1)=false:=An (by omega)
  have o2:dec (x.op=2)=false:=An (by omega)
  have o3:dec (x.op=3)=false:=An (by omega)
  have o4:dec (x.op=4)=false:=An (by omega)
  have o5:dec (x.op=5)=false:=An (by omega)
  have o6:dec (x.op=6)=false:=An (by omega)
  have o7:dec (x.op=7)=false:=An (by omega)
  first
   |(have o8:dec (x.op=8)=true:=A1 ho)
   |(have o8:dec (x.op=8)=false:=An (by omega))
  first
   |(have o9:dec (x.op=9)=true:=A1 ho)
   |(have o9:dec (x.op=9)=false:=An (by omega))
  have ha:=EP x.atom
  have hv:=CB x.var
  have hb:=Ej x.op
  have hu:=C6 x.op
  rw [o5,o6,o7] at hb
  rw [o8,o9] at hu
  rw [Fm.DK,hf,← Fm.any_not]
  by_cases hl:x.parts.length=1
  ·have hl2:dec ((x.parts.length:Int)=1)=true:=A1 (by omega)
   rw [hl,beq_self_eq_true,zD]
   cases hw:CU x.var with
   | false =>
    try rw [hw] at hv
    rw [zZ,zB]
    refine Aj AB A4 (of_decide_eq_true rfl) ?_
    simp (disch:=omega) only [A7,go_sem,o1,o2,o3,o4,o5,o6,o7,o8,o9,hl2,ha,hv,hb,hu, h2,Ad,Af,Ae,Ac,Ah,Aa]
    repeat ((first | (refine AH ?_ ?_; (focus (simp (disch:=omega) only [go_sem,o1,o2,o3,o4,o5,o6,o7,o8,o9,hl2,ha,hv,hb,hu, h2,Ad,Af,Ae,Ac,Ah,Aa]; done))) | (refine AI ?_ ?_; (focus (simp (disch:=omega) only [go_sem,o1,o2,o3,o4,o5,o6,o7,o8,o9,hl2,ha,hv,hb,hu, h2,Ad,Af,Ae,Ac,Ah,Aa]; done)))); (try simp (disch:=omega) only [go_sem,o1,o2,o3,o4,o5,o6,o7,o8,o9,hl2,ha,hv,hb,hu, h2,Ad,Af,Ae,Ac,Ah,Aa]))
   | true =>
    try rw [hw] at hv
    rw [zK]
    cases hq:x.atom.isZ with
    | true =>
     rw [hq] at ha
     rw [zD]
     refine Aj AB A4 (of_decide_eq_true rfl) ?_
     simp (disch:=omega) only [A7,go_sem,o1,o2,o3,o4,o5,o6,o7,o8,o9,hl2,ha,hv,hb,hu, h2,Ad,Af,Ae,Ac,Ah,Aa]
     repeat ((first | (refine AH ?_ ?_; (focus (simp (disch:=omega) only [go_sem,o1,o2,o3,o4,o5,o6,o7,o8,o9,hl2,ha,hv,hb,hu, h2,Ad,Af,Ae,Ac,Ah,Aa]; done))) | (refine AI ?_ ?_; (focus (simp (disch:=omega) only [go_sem,o1,o2,o3,o4,o5,o6,o7,o8,o9,hl2,ha,hv,hb,hu, h2,Ad,Af,Ae,Ac,Ah,Aa]; done)))); (try simp (disch:=omega) only [go_sem,o1,o2,o3,o4,o5,o6,o7,o8,o9,hl2,ha,hv,hb,hu, h2,Ad,Af,Ae,Ac,Ah,Aa]))
    | false =>
     rw [hq] at ha
     rw [zB]
     refine Aj AB A4 (of_decide_eq_true rfl) ?_
     simp (disch:=omega) only [A7,go_sem,o1,o2,o3,o4,o5,o6,o7,o8,o9,hl2,ha,hv,hb,hu, h2,Ad,Af,Ae,Ac,Ah,Aa]
     repeat ((first | (refine AH ?_ ?_; (focus (simp (disch:=omega) only [go_sem,o1,o2,o3,o4,o5,o6,o7,o8,o9,hl2,ha,hv,hb,hu, h2,Ad,Af,Ae,Ac,Ah,Aa]; done))) | (refine AI ?_ ?_; (focus (simp (disch:=omega) only [go_sem,o1,o2,o3,o4,o5,o6,o7,o8,o9,hl2,ha,hv,hb,hu, h2,Ad,Af,Ae,Ac,Ah,Aa]; done)))); (try simp (disch:=omega) only [go_sem,o1,o2,o3,o4,o5,o6,o7,o8,o9,hl2,ha,hv,hb,hu, h2,Ad,Af,Ae,Ac,Ah,Aa]))
  ·have hl2:dec ((x.parts.length:Int)=1)=false:=An (by omega)
   have hl3:(x.parts.length == 1)=false:=by simpa using hl
   rw [hl3,zB,zB,zB]
   refine Aj AB A4 (of_decide_eq_true rfl) ?_
   simp (disch:=omega) only [A7,go_sem,o1,o2,o3,o4,o5,o6,o7,o8,o9,hl2,ha,hv,hb,hu, h2,Ad,Af,Ae,Ac,Ah,Aa]
   repeat ((first | (refine AH ?_ ?_; (focus (simp (disch:=omega) only [go_sem,o1,o2,o3,o4,o5,o6,o7,o8,o9,hl2,ha,hv,hb,hu, h2,Ad,Af,Ae,Ac,Ah,Aa]; done))) | (refine AI ?_ ?_; (focus (simp (disch:=omega) only [go_sem,o1,o2,o3,o4,o5,o6,o7,o8,o9,hl2,ha,hv,hb,hu, h2,Ad,Af,Ae,Ac,Ah,Aa]; done)))); (try simp (disch:=omega) only [go_sem,o1,o2,o3,o4,o5,o6,o7,o8,o9,hl2,ha,hv,hb,hu, h2,Ad,Af,Ae,Ac,Ah,Aa]))
theorem PI (x:Fm) (ht:x.tame) (hn:x.nodes≤1099511627776) (ih:∀ y∈x.parts,E 62 [y.sv] []=some (.bool y.forms,[])):E 62 [x.sv] []=some (.bool x.forms,[]):=by
 have hl:=Fm.length_le x.parts
 have hx:=Fm.nodes_eq x
 have ha:=Fm.Qx ht
 have h1:∀ y∈x.parts,E 99 [y.sv] []=some (.bool (!y.forms),[]):=fun y hy=>by
  have h:=ih y hy
  refine Aj JB Gt (of_decide_eq_true rfl) ?_
  simp (disch:=omega) only [Gs,go_sem,Ab,h,A4]
 have h2:=I7 99 (fun y=>!y.forms) x.parts (by omega) JC (by rw [Gt]) h1
 rcases Lz x.op with h | h | h | h | h | h | h | h | h | h
 ·exact Ng x ha (by omega) (.inl h) h2
 ·exact Ng x ha (by omega) (.inr h) h2
 ·exact Rg x ha (by omega) h h2
 ·exact Rh x ha (by omega) h h2
 ·exact JD x ha (by omega) (.inl h) h2
 ·exact JD x ha (by omega) (.inr (.inl h)) h2
 ·exact JD x ha (by omega) (.inr (.inr h)) h2
 ·exact Nh x ha (by omega) (.inl h) h2
 ·exact Nh x ha (by omega) (.inr h) h2
 ·obtain ⟨k1,k2,k3,k4,k5,k6,k7,k8,k9⟩:=h
  have hf:x.form=false:=by unfold Fm.form; simp [k1,k2,k3,k4,k5,k6,k7,k8,k9]
  have o1:=An k1
  have o2:=An k2
  have o3:=An k3
  have o4:=An k4
  have o5:=An k5
  have o6:=An k6
  have o7:=An k7
  have o8:=An k8
  have o9:=An k9
  have hb:=Ej x.op
  have hu:=C6 x.op
  rw [o5,o6,o7] at hb
  rw [o8,o9] at hu
  rw [Fm.DK,hf,zB]
  refine Aj AB A4 (of_decide_eq_true rfl) ?_
  simp (disch:=omega) only [A7,go_sem,o1,o2,o3,o4,o5,o6,o7,o8,o9,hb,hu,Ac,Ah]
  repeat ((first | (refine AH ?_ ?_; (focus (simp (disch:=omega) only [go_sem,o1,o2,o3,o4,o5,o6,o7,o8,o9,hb,hu,Ac,Ah]; done))) | (refine AI ?_ ?_; (focus (simp (disch:=omega) only [go_sem,o1,o2,o3,o4,o5,o6,o7,o8,o9,hb,hu,Ac,Ah]; done)))); (try simp (disch:=omega) only [go_sem,o1,o2,o3,o4,o5,o6,o7,o8,o9,hb,hu,Ac,Ah]))
theorem Ni (x:Fm) (ht:x.tame) (hn:x.nodes≤1099511627776):E 62 [x.sv] []=some (.bool x.forms,[]) :=
 PI x ht hn fun y hy=>Ni y (Fm.MY ht hy) (by have:=Fm.nodes_mem hy; have:=Fm.nodes_eq x; omega)
termination_by SizeOf.sizeOf x
decreasing_by exact Fm.lt_of_mem hy
theorem JE (x:Fm) (ht:x.tame) (hn:x.nodes≤1099511627776):E 24 [x.sv] []=some (.bool x.valid,[]):=by
 have h1:=Qz x hn
 have h2:=Ni x ht hn
 have h3:=Fm.cap_spec x
 unfold Fm.valid
 rcases zI 40 x.nodes with h5 | h5
 ·rw [decide_eq_false (by omega),zB]
  have d:dec (x.cap≤40)=false:=An (by omega)
  refine Aj DV Bs (of_decide_eq_true rfl) ?_
  simp (disch:=omega) only [CR,go_sem,Ab,h1,h2,d,Dt,A4]
 ·rw [decide_eq_true h5,zD]
  have d:dec (x.cap≤40)=true:=A1 (by omega)
  refine Aj DV Bs (of_decide_eq_true rfl) ?_
  simp (disch:=omega) only [CR,go_sem,Ab,h1,h2,d,Dt,A4]
theorem SM (x:Fm) (ht:x.tame) (hn:x.nodes≤1099511627776):E 20 [x.sv] []=some (.bool x.valid,[]):=by
 have h1:=Q0 x 40 (by omega) (by omega) hn
 have h2:=Nf x ht hn
 have h3:=Fm.many_spec x 40
 unfold Fm.valid
 rcases zI 40 x.nodes with h5 | h5
 ·rw [decide_eq_false (by omega),zB]
  have d:dec ((x.many 40)≤40)=false:=An (by omega)
  refine Aj Ii CP (of_decide_eq_true rfl) ?_
  simp (disch:=omega) only [FU,go_sem,Ab,h1,h2,d,Du,C5]
 ·rw [decide_eq_true h5,zD]
  have d:dec ((x.many 40)≤40)=true:=A1 (by omega)
  refine Aj Ii CP (of_decide_eq_true rfl) ?_
  simp (disch:=omega) only [FU,go_sem,Ab,h1,h2,d,Du,C5]
def FD:SC:=(.seq (.reg [⟨some 5,none,.boxv 27 5 (.t 2)⟩,⟨(some 6),none,(.alloc 27 [(.int .i64 0),(.str ⟨#[]⟩),.nil,(.str ⟨#[]⟩),.nil])⟩]) (.seq (.reg [⟨some 7,none,.mv (.t 0)⟩,⟨some 8,none,.mv (.t 1)⟩,⟨some 9,none,.load true 5 (.t 5)⟩,⟨(some 10),none,(.mkrow 27 5 [(.int .i64 0),(.str ⟨#[]⟩),.nil,(.str ⟨#[]⟩),.nil] 1 [(0,(.t 9))])⟩,⟨(some 11),none,(.build [(.int .i64 0),(.str ⟨#[]⟩),.nil,(.str ⟨#[]⟩),.nil] [(0,(1,(.t 7))),(3,(1,(.t 8))),(4,(1,(.t 10)))])⟩,⟨none,none,(.store 5 (.t 6) (.t 11))⟩]) .ret))
theorem Jg:codeOf Try.prog 56=some ⟨12,FD,[(.cell 6 true 5)]⟩:=by kernel_rfl
theorem AZ:modes 56=⟨[false,false,true],.own [none,none,some (24,2),none,some (27,5)],none,false⟩:=by unfold modes; rfl
theorem Jh (op:Int) (v:ByteArray) (y:Fm):E 56 [.int .i64 op,.str v,y.osv] y.obs=some (.agg [.int .i64 op,.str ⟨#[]⟩,.ref 2,.str v,.ref 3],[.gone,.gone,.row 24 2 [],.row 27 5 [y.o]]):=by
 have ho:[[OT.int y.op,OT.str y.atom.name,OT.ow (y.atom.args.map Tm.o),OT.str y.var,OT.ow (y.parts.map Fm.o)]]=[y.o]:=by rw [Fm.o_eq]
 refine Aj Jg AZ (of_decide_eq_true rfl) ?_
 simp (disch:=omega) only [FD,go_sem,Ab,Fm.osv,Fm.obs,ho]
def L7:SC:=(.seq (.reg [⟨some 1,none,.boxv 27 5 (.t 0)⟩,⟨(some 2),none,(.alloc 27 [(.int .i64 0),(.str ⟨#[]⟩),.nil,(.str ⟨#[]⟩),.nil])⟩]) (.seq (.reg [⟨some 3,none,.load true 5 (.t 1)⟩,⟨(some 4),none,(.mkrow 27 5 [(.int .i64 0),(.str ⟨#[]⟩),.nil,(.str ⟨#[]⟩),.nil] 1 [(0,(.t 3))])⟩,⟨(some 5),none,(.build [(.int .i64 0),(.str ⟨#[]⟩),.nil,(.str ⟨#[]⟩),.nil] [(0,(1,(.c (.int .i64 4)))),(4,(1,(.t 4)))])⟩,⟨none,none,(.store 5 (.t 2) (.t 5))⟩]) .ret))
theorem PJ:codeOf Try.prog 57=some ⟨6,L7,[(.cell 2 true 5)]⟩:=by kernel_rfl
theorem Cb:modes 57=⟨[true],.own [none,none,some (24,2),none,some (27,5)],none,false⟩:=by unfold modes; rfl
theorem VH (y:Fm):E 57 [.agg [.int .i64 y.op,.str y.atom.name,.ref 0,.str y.var,.ref 1]] [.row 24 2 (y.atom.args.map Tm.o),.row 27 5 (y.parts.map Fm.o)]=some (.agg [.int .i64 4,.str ⟨#[]⟩,.ref 2,.str ⟨#[]⟩,.ref 3],[.gone,.gone,.row 24 2 [],.row 27 5 [Fm.o y]]):=by
 have ho:=Fm.o_eq y
 rw [ho]
 refine Aj PJ Cb (of_decide_eq_true rfl) ?_
 simp (disch:=omega) only [L7,go_sem,Ab,Fm.osv,Fm.obs]
def Ij:SC:=(.seq (.reg [⟨some 4,none,.boxv 27 5 (.t 1)⟩,⟨some 5,none,.boxv 27 5 (.t 2)⟩,⟨(some 6),none,(.alloc 27 [(.int .i64 0),(.str ⟨#[]⟩),.nil,(.str ⟨#[]⟩),.nil])⟩]) (.seq (.reg [⟨some 7,none,.mv (.t 0)⟩,⟨some 8,none,.load true 5 (.t 4)⟩,⟨some 9,none,.load true 5 (.t 5)⟩,⟨(some 10),none,(.mkrow 27 5 [(.int .i64 0),(.str ⟨#[]⟩),.nil,(.str ⟨#[]⟩),.nil] 2 [(0,(.t 8)),(1,(.t 9))])⟩,⟨(some 11),none,(.build [(.int .i64 0),(.str ⟨#[]⟩),.nil,(.str ⟨#[]⟩),.nil] [(0,(1,(.t 7))),(4,(1,(.t 10)))])⟩,⟨none,none,(.store 5 (.t 6) (.t 11))⟩]) .ret))
theorem LX:codeOf Try.prog 91=some ⟨12,Ij,[(.cell 6 true 5)]⟩:=by kernel_rfl
theorem BV:modes 91=⟨[false,true,true],.own [none,none,some (24,2),none,some (27,5)],none,false⟩:=by unfold modes; rfl
theorem SN (op:Int) (y z:Fm):E 91 [.int .i64 op,.agg [.int .i64 y.op,.str y.atom.name,.ref 0,.str y.var,.ref 1],.agg [.int .i64 z.op,.str z.atom.name,.ref 2,.str z.var,.ref 3]] [.row 24 2 (y.atom.args.map Tm.o),.row 27 5 (y.parts.map Fm.o),.row 24 2 (z.atom.args.map Tm.o),.row 27 5 (z.parts.map Fm.o)]=some (.agg [.int .i64 op,.str ⟨#[]⟩,.ref 4,.str ⟨#[]⟩,.ref 5],[.gone,.gone,.gone,.gone,.row 24 2 [],.row 27 5 [Fm.o y,Fm.o z]]):=by
 have ho:=Fm.o_eq y
 have ho2:=Fm.o_eq z
 rw [ho,ho2]
 refine Aj LX BV (of_decide_eq_true rfl) ?_
 simp (disch:=omega) only [Ij,go_sem,Ab,Fm.osv,Fm.obs]
def Ik:SC:=(.seq (.reg [⟨some 1,none,.boxv 24 2 (.t 0)⟩,⟨(some 2),none,(.alloc 27 [(.int .i64 0),(.str ⟨#[]⟩),.nil,(.str ⟨#[]⟩),.nil])⟩]) (.seq (.reg [⟨some 3,none,.load true 2 (.t 1)⟩,⟨(some 4),none,(.build [(.int .i64 0),(.str ⟨#[]⟩),.nil,(.str ⟨#[]⟩),.nil] [(0,(1,(.c (.int .i64 3)))),(1,(2,(.t 3)))])⟩,⟨none,none,(.store 5 (.t 2) (.t 4))⟩]) .ret))
theorem LY:codeOf Try.prog 60=some ⟨5,Ik,[(.cell 2 true 5)]⟩:=by kernel_rfl
theorem B0:modes 60=⟨[true],.own [none,none,some (24,2),none,some (27,5)],none,false⟩:=by unfold modes; rfl
theorem OQ (y:Tm):E 60 [y.osv] y.obs=some (.agg [.int .i64 3,.str y.name,.ref 0,.str ⟨#[]⟩,.ref 1],[.row 24 2 (y.args.map Tm.o),.row 27 5 []]):=by
 refine Aj LY B0 (of_decide_eq_true rfl) ?_
 simp (disch:=omega) only [Ik,go_sem,Ab,Tm.osv,Tm.obs]
end Go.Proofs.Ytkjpmfmjebkkiaa
