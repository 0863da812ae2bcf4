/-
  Texts of this claim, one behind the other, each built on those ahead of it. No condition.
-/
import Derived.Test.YtmhjhclgihoaeaaGreatK18b
import Derived.Test.YtmhjhclgihoaeaaGreatK18c
import Derived.Test.YtmhjhclgihoaeaaGreatK18d
import Derived.ProofKit
import Derived.Deep.Slices
import Derived.Deep.Fields
import Derived.ChangeSame
import Derived.OpenShut
import Derived.ShutString
import Derived.ChangeOld
set_option maxHeartbeats 16000000
open Bool renaming and_eq_true → zA, false_and → zF
open List renaming getElem?_eq_getElem → zB, getElem_mem → zC, range → zD
open Array renaming getElem?_eq_some_iff → zE
set_option maxRecDepth 100000
set_option linter.unusedSimpArgs false
set_option linter.unusedVariables false
set_option linter.unusedSectionVars false
namespace Go.Proofs.YtmhjhclgihoaeaaGreat
open Go.RowKit
def Ci:SC:=(.seq (.reg [⟨some 2,none,.boxv 36 5 (.t 0)⟩,⟨(some 4),none,(.alloc 36 [(.int .i64 0),(.str ⟨#[]⟩),.nil,(.str ⟨#[]⟩),.nil])⟩,⟨some 5,none,.mv (.c (.bool false))⟩]) (.seq (.seq (.reg [⟨some 11,none,.load true 5 (.t 2)⟩,⟨some 12,none,.call 28 [(.t 11)]⟩,⟨some 13,none,.un .not (.t 12)⟩]) (.cond (.t 13) (.seq (.reg [⟨(some 14),none,(.build [(.int .i64 0),(.str ⟨#[]⟩),.nil,(.str ⟨#[]⟩),.nil] [])⟩,⟨none,none,(.store 5 (.t 4) (.t 14))⟩,⟨some 5,none,.mv (.c (.bool false))⟩]) .ret) .skip)) (.seq (.seq (.reg [⟨some 6,none,.mv (.c (.int .i64 0))⟩]) (.block 0 (.loop [0,1,1,0,1,0,1,0,0,0,0,0,0,0,0,0,0,0,0,0,0,0,0,0,0,0,0,0,0,0,0,0,0,0,0,0,0,0,0,0,0,0,0,0,0,0,0,0,0,0,0,0,0,0,0,0,0,0,0,0] (.seq (.seq (.reg [⟨some 15,none,.mv (.t 6)⟩,⟨some 16,none,.mv (.t 1)⟩,⟨some 17,none,.len false (.t 16)⟩,⟨some 18,none,.bin .lss false (.t 15) (.t 17)⟩]) (.cond (.t 18) .skip (.exit 0))) (.seq (.block 1 (.seq (.reg [⟨some 21,none,.mv (.t 1)⟩,⟨some 22,none,.mv (.t 6)⟩,⟨some 23,none,.iaddr 7 (.t 21) (.t 22)⟩,⟨some 24,none,.load true 7 (.t 23)⟩,⟨some 25,none,.call 29 [(.t 24)]⟩,⟨some 26,none,.un .not (.t 25)⟩]) (.cond (.t 26) (.seq (.reg [⟨(some 27),none,(.build [(.int .i64 0),(.str ⟨#[]⟩),.nil,(.str ⟨#[]⟩),.nil] [])⟩,⟨none,none,(.store 5 (.t 4) (.t 27))⟩,⟨some 5,none,.mv (.c (.bool false))⟩]) .ret) .skip))) (.reg [⟨some 19,none,.mv (.t 6)⟩,⟨some 20,none,.bin .add false (.t 19) (.c (.int .i64 1))⟩,⟨some 6,none,.mv (.t 20)⟩])))))) (.seq (.reg [⟨some 28,none,.load true 5 (.t 2)⟩,⟨some 29,none,.call 30 [(.t 28)]⟩,⟨(some 7),none,(.alloc 36 [(.int .i64 0),(.str ⟨#[]⟩),.nil,(.str ⟨#[]⟩),.nil])⟩,⟨none,none,(.store 5 (.t 7) (.t 29))⟩]) (.seq (.seq (.reg [⟨some 30,none,.mv (.t 1)⟩,⟨some 31,none,.len false (.t 30)⟩,⟨some 32,none,.bin .sub false (.t 31) (.c (.int .i64 1))⟩,⟨some 8,none,.mv (.t 32)⟩]) (.block 2 (.loop [0,1,0,0,1,0,0,1,1,0,0,0,0,0,0,0,0,0,0,0,0,0,0,0,0,0,0,0,0,0,0,0,0,0,0,0,0,0,0,0,0,0,0,0,0,0,0,0,0,0,0,0,0,0,0,0,0,0,0,0] (.seq (.seq (.reg [⟨some 33,none,.mv (.t 8)⟩,⟨some 34,none,.bin .geq false (.t 33) (.c (.int .i64 0))⟩]) (.cond (.t 34) .skip (.exit 2))) (.seq (.block 3 (.seq (.dreg [[],[],[],[1,2],[3,1,2],[0,4,3,1,2],[5,0,4,3,1,2],[6,5,0,4,3,1,2],[6,5,0,4,3,1,2],[],[9,7,6,5,0,4,3,1,2],[8,6,5,0,4,3,1,2,10,9,7]] [⟨some 38,none,.load true 5 (.t 7)⟩,⟨some 39,none,.mv (.t 1)⟩,⟨some 40,none,.mv (.t 8)⟩,⟨some 41,none,.iaddr 7 (.t 39) (.t 40)⟩,⟨some 42,none,.load true 7 (.t 41)⟩,⟨some 43,none,.call 31 [(.t 38),(.t 42)]⟩,⟨some 37,none,.mv (.t 43)⟩,⟨some 44,none,.ext (.t 37) 0⟩,⟨some 45,none,.ext (.t 37) 1⟩,⟨(some 9),none,(.alloc 36 [(.int .i64 0),(.str ⟨#[]⟩),.nil,(.str ⟨#[]⟩),.nil])⟩,⟨none,none,(.store 5 (.t 9) (.t 44))⟩,⟨some 10,none,.mv (.t 45)⟩]) (.seq (.seq (.reg [⟨some 46,none,.mv (.t 10)⟩,⟨some 47,none,.un .not (.t 46)⟩,⟨some 48,none,.mv (.t 47)⟩,⟨(some 49),(some (48,false)),(.load true 5 (.t 9))⟩,⟨(some 50),(some (48,false)),(.call 32 [(.t 49)])⟩,⟨(some 51),(some (48,false)),(.un .not (.t 50))⟩,⟨some 52,none,.pick (.t 48) (.c (.bool true)) (.t 51)⟩]) (.cond (.t 52) (.seq (.reg [⟨(some 53),none,(.build [(.int .i64 0),(.str ⟨#[]⟩),.nil,(.str ⟨#[]⟩),.nil] [])⟩,⟨none,none,(.store 5 (.t 4) (.t 53))⟩,⟨some 5,none,.mv (.c (.bool false))⟩]) .ret) .skip)) (.reg [⟨some 54,none,.load true 5 (.t 9)⟩,⟨none,none,(.store 5 (.t 7) (.t 54))⟩])))) (.reg [⟨some 35,none,.mv (.t 8)⟩,⟨some 36,none,.bin .sub false (.t 35) (.c (.int .i64 1))⟩,⟨some 8,none,.mv (.t 36)⟩])))))) (.seq (.seq (.reg [⟨some 55,none,.load true 5 (.t 7)⟩,⟨some 56,none,.call 32 [(.t 55)]⟩,⟨some 57,none,.un .not (.t 56)⟩]) (.cond (.t 57) (.seq (.reg [⟨(some 58),none,(.build [(.int .i64 0),(.str ⟨#[]⟩),.nil,(.str ⟨#[]⟩),.nil] [])⟩,⟨none,none,(.store 5 (.t 4) (.t 58))⟩,⟨some 5,none,.mv (.c (.bool false))⟩]) .ret) .skip)) (.seq (.reg [⟨some 59,none,.load true 5 (.t 7)⟩,⟨none,none,(.store 5 (.t 4) (.t 59))⟩,⟨some 5,none,.mv (.c (.bool true))⟩]) .ret)))))))
theorem Dg:Ao Tryz.prog 7=some ⟨60,Ci,[(.cell 4 true 5),(.tmp 5)]⟩:=by kernel_rfl
theorem AU:modes 7=⟨[],.frz,none,false⟩:=by unfold modes; rfl
theorem PX (x:Fm) (ds:List Df) (h:DsOk x ds):E 7 [x.sv,.arr (ds.map Df.d)] []=some (.tup [(Du x ds).sv,.bool (F4 x ds)],[]):=by
 have h1:=Pj x h.tame h.nodes
 have h4:=SR x h.tame h.nodes
 have hlen:=h.len
 have hz:Fm.zero.sv=.agg [.int .i64 0,.str ⟨#[]⟩,.arr [],.str ⟨#[]⟩,.arr []]:=rfl
 have hxs:x.sv=.agg [.int .i64 x.op,.str x.atom.name,.arr (x.atom.args.map Tm.d),.str x.var,.arr (x.parts.map Fm.d)]:=rfl
 rw [hxs] at h1 h4 ⊢
 unfold Du F4
 cases hp:(x.valid&&!x.hasS [8,9]) with
 | false =>
  have hi:HQ x ds=false:=by unfold HQ; rw [←Bool.and_assoc,hp]; rfl
  rw [hi,zF,cond_false,hz]
  rw [hp] at h1
  refine Ak Dg AU (of_decide_eq_true rfl) ?_
  simp (disch:=omega) only [Ci,go_sem,Ab,h1,AD,AJ,Bl,Aw,AO]
 | true =>
  have hi:HQ x ds=ds.all Df.ok:=by unfold HQ; rw [←Bool.and_assoc,hp,Bool.true_and]
  have hxv:x.valid=true:=by rw [zA] at hp; exact hp.1
  rw [hi]
  rw [hp] at h1
  refine Ak Dg AU (of_decide_eq_true rfl) ?_
  simp (disch:=omega) only [Ci,go_sem,Ab,h1,AD,AJ,Bl,Aw,AO]
  refine go_loop (α:=Int) (fun a=>⟨slots 60 0 [(1,.arr (ds.map Df.d)),(2,.ptr 0 0),(4,.ptr 1 0),(6,.int .i64 a)],[.box 36 [.int .i64 (x).op,.str (x).atom.name,.arr ((x).atom.args.map Tm.d),.str (x).var,.arr ((x).parts.map Fm.d)],.box 36 [.int .i64 0,.str ⟨#[]⟩,.nil,.str ⟨#[]⟩,.nil]]⟩) (fun a=>∃ k:Nat,a=k∧k≤(ds).length∧(ds.drop k).all Df.ok=ds.all Df.ok) (fun a=>(ds).length-(a).toNat) 0 ⟨0,rfl,Nat.zero_le _,by rw [List.drop_zero]⟩ (by simp (disch:=omega) only [go_sem,Ab]) ?_
  rintro i ⟨k,hi,hk,hR⟩
  have hni:i.toNat=k:=by omega
  have hni1:(i+1).toNat=k+1:=by omega
  rcases Nat.lt_or_ge k (ds).length with hlt | hge
  ·have hg:=get_at Df.d hlt
   rw [Df.d_eq] at hg
   have hc:=NE ds[k] (h.vars _ (zC hlt)) (h.dtame _ (zC hlt)) (h.dnodes _ (zC hlt))
   rw [List.drop_eq_getElem_cons hlt,List.all_cons] at hR
   generalize ds[k]=d at *
   have hds:d.sv=.agg [.str d.name,.arr (d.vars.map fun s=>[D.str s]),.int .i64 d.form.op,.str d.form.atom.name,.arr (d.form.atom.args.map Tm.d),.str d.form.var,.arr (d.form.parts.map Fm.d)]:=rfl
   rw [hds] at hc
   cases hb:d.ok with
   | false =>
    rw [hb] at hc hR
    rw [zF] at hR
    rw [←hR,zF,cond_false,hz]
    simp (disch:=omega) only [go_sem,Ab,hni,hg,hc,AD,AJ,Bl,Aw,AO]
   | true =>
    rw [hb] at hc hR
    rw [Bool.true_and] at hR
    simp (disch:=omega) only [go_sem,Ab,hni,hg,hc,AD,AJ,Bl,Aw,AO]
    exact ⟨i+1,⟨k+1,by omega,hlt,hR⟩,by omega,by first | trivial | rfl⟩
  ·have hall:ds.all Df.ok=true:=by
    rw [←hR,List.drop_eq_nil_of_le hge]; rfl
   simp (disch:=omega) only [go_sem,Ab,hni,h4,AD,AJ,Bl,Aw,AO]
   refine go_loop (α:=Int × Fm) (fun a=>⟨slots 60 0 [(1,.arr (ds.map Df.d)),(4,.ptr 0 0),(7,.ptr 1 0),(8,.int .i64 a.1)],[.box 36 [.int .i64 0,.str ⟨#[]⟩,.nil,.str ⟨#[]⟩,.nil],.box 36 [.int .i64 (a.2).op,.str (a.2).atom.name,.arr ((a.2).atom.args.map Tm.d),.str (a.2).var,.arr ((a.2).parts.map Fm.d)]]⟩) (fun a=>∃ j:Nat,a.1=(j:Int)-1∧j≤ds.length∧AW (ds.drop j) x=some a.2) (fun a=>(a.1+1).toNat) ((ds.length:Int)-1,x) ⟨ds.length,rfl,Nat.le_refl _,by rw [List.drop_length]; rfl⟩ (by simp (disch:=omega) only [go_sem,Ab]) ?_
   rintro ⟨i,y⟩ ⟨j,hi,hj,hR⟩
   dsimp only at hi hR
   have hyv:=Hp hxv _ hR
   obtain ⟨y1,y2⟩:=Ed hyv
   rcases Nat.eq_zero_or_pos j with h0 | h0
   ·subst h0
    rw [List.drop_zero] at hR
    have hgd:=N7 y (Fm.Fq _ y2) (by omega)
    rw [hyv] at hgd
    have hys:y.sv=.agg [.int .i64 y.op,.str y.atom.name,.arr (y.atom.args.map Tm.d),.str y.var,.arr (y.parts.map Fm.d)]:=rfl
    rw [hys] at hgd
    have e1:(ds.all Df.ok&&(AW ds x).isSome)=true:=by rw [hall,hR]; rfl
    rw [e1,cond_true,hR,Option.getD_some,hys]
    simp (disch:=omega) only [go_sem,Ab,hgd,AD,AJ,Bl,Aw,AO]
   ·obtain ⟨k,rfl⟩:∃ k,j=k+1:=⟨j-1,by omega⟩
    have hlt:k<ds.length:=by omega
    have hni:i.toNat=k:=by omega
    have hg:=get_at Df.d hlt
    rw [Df.d_eq] at hg
    have hst:=LN (x:=x) hlt
    rw [hR] at hst
    have hst:AW (ds.drop k) x=E6 ds[k] y:=hst
    have hno:E6 ds[k] y=none→(ds.all Df.ok&&(AW ds x).isSome)=false:=fun hn=>by
     rw [hn] at hst
     rw [Is ds k hst,hall]; rfl
    have hdk:=List.all_eq_true.1 hall _ (zC hlt)
    obtain ⟨b1,b2⟩:=NI hdk hyv
    obtain ⟨u1,u2,u3⟩:=Df.SY hdk (h.vars _ (zC hlt))
    have hu:=NA ds[k] u1 u2 u3 y y2 (Fm.Fq _ y2) (by omega)
    unfold UgC at hu
    have hgd:=N7 (y.unfV ds[k]) b2 (by omega)
    unfold E6 at hst hno
    generalize ds[k]=d at *
    have hds:d.sv=.agg [.str d.name,.arr (d.vars.map fun s=>[D.str s]),.int .i64 d.form.op,.str d.form.atom.name,.arr (d.form.atom.args.map Tm.d),.str d.form.var,.arr (d.form.parts.map Fm.d)]:=rfl
    generalize y.unfV d=z at *
    have hzs:z.sv=.agg [.int .i64 z.op,.str z.atom.name,.arr (z.atom.args.map Tm.d),.str z.var,.arr (z.parts.map Fm.d)]:=rfl
    have hys:y.sv=.agg [.int .i64 y.op,.str y.atom.name,.arr (y.atom.args.map Tm.d),.str y.var,.arr (y.parts.map Fm.d)]:=rfl
    rw [hds] at hu
    rw [hzs] at hgd
    cases hB:y.unfB d with
    | false =>
     rw [hB] at hu hno
     rw [cond_false,hys] at hu
     rw [hno (by rfl),cond_false,hz]
     simp (disch:=omega) only [go_sem,Ab,hni,hg,hu,hgd,AD,AJ,Bl,Aw,AO]
    | true =>
     rw [hB] at hu hno hst
     rw [cond_true,hys,hzs] at hu
     cases hV:z.valid with
     | false =>
      rw [hV] at hgd hno
      rw [hno (by rfl),cond_false,hz]
      simp (disch:=omega) only [go_sem,Ab,hni,hg,hu,hgd,AD,AJ,Bl,Aw,AO]
     | true =>
      rw [hV] at hgd hst
      simp (disch:=omega) only [go_sem,Ab,hni,hg,hu,hgd,AD,AJ,Bl,Aw,AO]
      exact ⟨(i-1,z),⟨k,by dsimp only; omega,by omega,hst⟩,by dsimp only; omega,by first | trivial | rfl⟩
theorem Fm.GQ (x:Fm) (h:x.bulk≤1048576):x.tame∧x.nodes≤1+x.bulk:=by
 have hb:=Fm.bulk_eq x
 have ha:=Tm.Nl x.atom
 have key:∀ xs:List Fm,(∀ y∈xs,y.bulk≤1048576→y.tame∧y.nodes≤1+y.bulk)→Fm.sumB xs≤1048576→Fm.F9 xs∧Fm.nodeS xs≤xs.length+Fm.sumB xs:=by
  intro xs
  induction xs with
  | nil=>intro _ _; rw [Fm.F9,Fm.nodeS]; exact ⟨trivial,by simp⟩
  | cons y ys ih =>
   intro hh hs
   rw [Fm.sumB] at hs
   have h1:=hh y (by simp) (by omega)
   have h2:=ih (fun z hz=>hh z (by simp [hz])) (by omega)
   rw [Fm.F9,Fm.nodeS,Fm.sumB,List.length_cons]
   exact ⟨⟨h1.1,h2.1⟩,by omega⟩
 have hk:=key x.parts (fun y hy hby=>Fm.GQ y hby) (by omega)
 rw [Fm.Hh,Fm.nodes_eq]
 exact ⟨⟨by omega,hk.1⟩,by omega⟩
termination_by SizeOf.sizeOf x
decreasing_by exact Fm.lt_of_mem hy
theorem Tm.TP {x:Tm} (h:x.atom=true):x.bulk≤300:=by
 have hn:=Tm.No h
 have h1:=Tm.JB x.args fun y hy=>Tm.Nm y ((Tm.OS h).2 y hy)
 have h2:x.name.size≤6:=by
  unfold Tm.atom at h
  split at h
  ·rename_i he
   unfold Tm.eqn at he
   rw [Ap.1 he]; decide
  ·rw [zA] at h; exact OR h.1
 rw [Tm.nodes_eq] at hn
 rw [Tm.bulk_eq]
 omega
theorem Fm.NK (x:Fm) (h:x.forms=true):x.bulk+1≤320*x.nodes:=by
 have hf:=Fm.Fp h
 have key:∀ xs:List Fm,(∀ y∈xs,y.bulk+1≤320*y.nodes)→xs.length+Fm.sumB xs≤320*Fm.nodeS xs:=by
  intro xs
  induction xs with
  | nil=>intro _; simp [Fm.sumB]
  | cons y ys ih =>
   intro hh
   have h1:=hh y (by simp)
   have h2:=ih fun z hz=>hh z (by simp [hz])
   rw [Fm.nodeS,Fm.sumB,List.length_cons]; omega
 have hk:=key x.parts fun y hy=>Fm.NK y (Fm.DS h hy)
 have ha:x.atom.bulk≤300:=by
  by_cases ho:x.op=3
  ·exact Tm.TP (Fm.IF hf ho).2.1
  ·rw [Fm.N9 hf ho,Tm.bulk_eq]
   show 0+_≤_
   simp [Tm.args,Tm.sumB]
 have hv:x.var.size≤6:=by
  by_cases hq:qB x.op=true
  ·exact OQ (Fm.Sh hf hq).1
  ·have hq2:qB x.op=false:=by simpa using hq
   have e:x.var=⟨#[]⟩:=by
    unfold qB at hq2
    rw [Bool.or_eq_false_iff] at hq2
    have o8:=Bv.1 hq2.1
    have o9:=Bv.1 hq2.2
    unfold Fm.form at hf
    split at hf
    ·rw [zA] at hf; exact Ap.1 hf.2
    ·split at hf
     ·rw [zA] at hf; exact Ap.1 hf.2
     ·split at hf
      ·rw [zA] at hf; exact Ap.1 hf.2
      ·split at hf
       ·rw [zA] at hf; exact Ap.1 hf.2
       ·rw [if_neg (by omega)] at hf; cases hf
   rw [e]
   decide
 rw [Fm.bulk_eq,Fm.nodes_eq]
 omega
termination_by SizeOf.sizeOf x
decreasing_by exact Fm.lt_of_mem hy
def AY:SC:=(.seq (.reg [⟨some 2,none,.boxv 27 5 (.t 0)⟩,⟨some 4,none,.mv (.c (.bool false))⟩]) (.seq (.reg [⟨some 5,none,.mv (.c (.int .i64 1048576))⟩]) (.seq (.reg [⟨some 17,none,.load true 5 (.t 2)⟩,⟨some 18,none,.mv (.t 5)⟩,⟨some 19,none,.call 5 [(.t 17),(.t 18)]⟩,⟨some 5,none,.mv (.t 19)⟩]) (.seq (.seq (.reg [⟨some 20,none,.mv (.t 5)⟩,⟨some 21,none,.bin .lss false (.t 20) (.c (.int .i64 0))⟩]) (.cond (.t 21) (.seq (.reg [⟨some 4,none,.mv (.c (.bool true))⟩]) .ret) .skip)) (.seq (.reg [⟨some 22,none,.mv (.t 1)⟩,⟨some 23,none,.mv (.t 5)⟩,⟨some 24,none,.call 6 [(.t 22),(.t 23)]⟩,⟨some 5,none,.mv (.t 24)⟩]) (.seq (.seq (.reg [⟨some 25,none,.mv (.t 5)⟩,⟨some 26,none,.bin .lss false (.t 25) (.c (.int .i64 0))⟩]) (.cond (.t 26) (.seq (.reg [⟨some 4,none,.mv (.c (.bool true))⟩]) .ret) .skip)) (.seq (.reg [⟨some 28,none,.load true 5 (.t 2)⟩,⟨some 29,none,.call 8 [(.t 28)]⟩,⟨some 30,none,.mv (.t 1)⟩,⟨some 31,none,.call 9 [(.t 30)]⟩,⟨some 32,none,.call 7 [(.t 29),(.t 31)]⟩,⟨some 27,none,.mv (.t 32)⟩,⟨some 33,none,.ext (.t 27) 0⟩,⟨some 34,none,.ext (.t 27) 1⟩,⟨(some 6),none,(.alloc 36 [(.int .i64 0),(.str ⟨#[]⟩),.nil,(.str ⟨#[]⟩),.nil])⟩,⟨none,none,(.store 5 (.t 6) (.t 33))⟩,⟨some 7,none,.mv (.t 34)⟩]) (.seq (.reg [⟨some 35,none,.load true 5 (.t 2)⟩,⟨some 36,none,.call 8 [(.t 35)]⟩,⟨(some 8),none,(.alloc 36 [(.int .i64 0),(.str ⟨#[]⟩),.nil,(.str ⟨#[]⟩),.nil])⟩,⟨none,none,(.store 5 (.t 8) (.t 36))⟩]) (.seq (.reg [⟨some 37,none,.mv (.t 1)⟩,⟨some 38,none,.call 9 [(.t 37)]⟩,⟨some 9,none,.mv (.t 38)⟩]) (.seq (.reg [⟨some 40,none,.load true 5 (.t 8)⟩,⟨some 41,none,.mv (.t 9)⟩,⟨some 42,none,.call 10 [(.t 40),(.t 41)]⟩,⟨some 39,none,.mv (.t 42)⟩,⟨some 43,none,.ext (.t 39) 0⟩,⟨some 44,none,.ext (.t 39) 1⟩,⟨(some 10),none,(.alloc 36 [(.int .i64 0),(.str ⟨#[]⟩),.nil,(.str ⟨#[]⟩),.nil])⟩,⟨none,none,(.store 5 (.t 10) (.t 43))⟩,⟨some 11,none,.mv (.t 44)⟩]) (.seq (.seq (.reg [⟨some 45,none,.load true 5 (.t 10)⟩,⟨some 46,none,.load true 5 (.t 6)⟩,⟨some 47,none,.call 11 [(.t 45),(.t 46)]⟩,⟨some 48,none,.un .not (.t 47)⟩,⟨some 49,none,.mv (.t 48)⟩,⟨(some 50),(some (49,false)),(.mv (.t 11))⟩,⟨(some 51),(some (49,false)),(.mv (.t 7))⟩,⟨(some 52),(some (49,false)),(.bin .neq true (.t 50) (.t 51))⟩,⟨some 53,none,.pick (.t 49) (.c (.bool true)) (.t 52)⟩]) (.cond (.t 53) (.seq (.reg [⟨some 4,none,.mv (.c (.bool false))⟩]) .ret) .skip)) (.seq (.seq (.dreg [[],[],[1],[0,2,1],[3,0,2,1]] [⟨some 54,none,.load true 5 (.t 8)⟩,⟨some 55,none,.load true 5 (.t 2)⟩,⟨some 56,none,.call 8 [(.t 55)]⟩,⟨some 57,none,.call 11 [(.t 54),(.t 56)]⟩,⟨some 58,none,.un .not (.t 57)⟩]) (.cond (.t 58) (.seq (.reg [⟨some 4,none,.mv (.c (.bool false))⟩]) .ret) .skip)) (.seq (.seq (.reg [⟨some 59,none,.mv (.t 9)⟩,⟨some 60,none,.mv (.t 1)⟩,⟨some 61,none,.call 9 [(.t 60)]⟩,⟨some 62,none,.call 12 [(.t 59),(.t 61)]⟩,⟨some 63,none,.un .not (.t 62)⟩]) (.cond (.t 63) (.seq (.reg [⟨some 4,none,.mv (.c (.bool false))⟩]) .ret) .skip)) (.seq (.reg [⟨some 12,none,.mv (.c (.int .i64 1))⟩]) (.seq (.reg [⟨some 64,none,.load true 5 (.t 8)⟩,⟨some 65,none,.mv (.t 12)⟩,⟨some 66,none,.call 13 [(.t 64),(.t 65)]⟩,⟨some 12,none,.mv (.t 66)⟩]) (.seq (.reg [⟨some 67,none,.mv (.t 9)⟩,⟨some 68,none,.mv (.t 12)⟩,⟨some 69,none,.call 14 [(.t 67),(.t 68)]⟩,⟨some 12,none,.mv (.t 69)⟩]) (.seq (.seq (.reg [⟨some 70,none,.mv (.t 12)⟩,⟨some 71,none,.bin .lss false (.t 70) (.c (.int .i64 0))⟩,⟨some 72,none,.mv (.t 71)⟩,⟨(some 73),(some (72,false)),(.load true 5 (.t 10))⟩,⟨(some 74),(some (72,false)),(.load true 5 (.t 6))⟩,⟨(some 75),(some (72,false)),(.call 11 [(.t 73),(.t 74)])⟩,⟨(some 76),(some (72,false)),(.un .not (.t 75))⟩,⟨some 77,none,.pick (.t 72) (.c (.bool true)) (.t 76)⟩,⟨some 78,none,.mv (.t 77)⟩,⟨(some 79),(some (78,false)),(.mv (.t 11))⟩,⟨(some 80),(some (78,false)),(.mv (.t 7))⟩,⟨(some 81),(some (78,false)),(.bin .neq true (.t 79) (.t 80))⟩,⟨some 82,none,.pick (.t 78) (.c (.bool true)) (.t 81)⟩]) (.cond (.t 82) (.seq (.reg [⟨some 4,none,.mv (.c (.bool false))⟩]) .ret) .skip)) (.seq (.reg [⟨some 13,none,.mv (.c (.int .i64 1))⟩]) (.seq (.reg [⟨some 83,none,.load true 5 (.t 10)⟩,⟨some 84,none,.mv (.t 13)⟩,⟨some 85,none,.call 13 [(.t 83),(.t 84)]⟩,⟨some 13,none,.mv (.t 85)⟩]) (.seq (.reg [⟨some 14,none,.mv (.c (.int .i64 1))⟩]) (.seq (.reg [⟨some 86,none,.load true 5 (.t 10)⟩,⟨some 87,none,.mv (.t 14)⟩,⟨some 88,none,.call 15 [(.t 86),(.t 87)]⟩,⟨some 14,none,.mv (.t 88)⟩]) (.seq (.seq (.reg [⟨some 89,none,.mv (.t 14)⟩,⟨some 90,none,.bin .lss false (.t 89) (.c (.int .i64 0))⟩]) (.cond (.t 90) (.seq (.reg [⟨some 4,none,.mv (.c (.bool false))⟩]) .ret) .skip)) (.seq (.seq (.reg [⟨some 91,none,.mv (.t 14)⟩,⟨some 92,none,.mv (.t 13)⟩,⟨some 93,none,.bin .neq false (.t 91) (.t 92)⟩]) (.cond (.t 93) (.seq (.reg [⟨some 4,none,.mv (.c (.bool false))⟩]) .ret) .skip)) (.seq (.reg [⟨some 95,none,.load true 5 (.t 2)⟩,⟨some 96,none,.call 8 [(.t 95)]⟩,⟨some 97,none,.mv (.t 1)⟩,⟨some 98,none,.call 9 [(.t 97)]⟩,⟨some 99,none,.call 10 [(.t 96),(.t 98)]⟩,⟨some 94,none,.mv (.t 99)⟩,⟨some 100,none,.ext (.t 94) 0⟩,⟨some 101,none,.ext (.t 94) 1⟩,⟨(some 15),none,(.alloc 36 [(.int .i64 0),(.str ⟨#[]⟩),.nil,(.str ⟨#[]⟩),.nil])⟩,⟨none,none,(.store 5 (.t 15) (.t 100))⟩,⟨some 16,none,.mv (.t 101)⟩]) (.seq (.seq (.reg [⟨some 102,none,.load true 5 (.t 15)⟩,⟨some 103,none,.load true 5 (.t 6)⟩,⟨some 104,none,.call 11 [(.t 102),(.t 103)]⟩,⟨some 105,none,.un .not (.t 104)⟩,⟨some 106,none,.mv (.t 105)⟩,⟨(some 107),(some (106,false)),(.mv (.t 16))⟩,⟨(some 108),(some (106,false)),(.mv (.t 7))⟩,⟨(some 109),(some (106,false)),(.bin .neq true (.t 107) (.t 108))⟩,⟨some 110,none,.pick (.t 106) (.c (.bool true)) (.t 109)⟩]) (.cond (.t 110) (.seq (.reg [⟨some 4,none,.mv (.c (.bool false))⟩]) .ret) .skip)) (.seq (.reg [⟨some 14,none,.mv (.c (.int .i64 1))⟩]) (.seq (.reg [⟨some 111,none,.load true 5 (.t 10)⟩,⟨some 112,none,.mv (.t 14)⟩,⟨some 113,none,.call 15 [(.t 111),(.t 112)]⟩,⟨some 14,none,.mv (.t 113)⟩]) (.seq (.seq (.reg [⟨some 114,none,.mv (.t 14)⟩,⟨some 115,none,.bin .lss false (.t 114) (.c (.int .i64 0))⟩]) (.cond (.t 115) (.seq (.reg [⟨some 4,none,.mv (.c (.bool false))⟩]) .ret) .skip)) (.seq (.seq (.reg [⟨some 116,none,.mv (.t 14)⟩,⟨some 117,none,.mv (.t 13)⟩,⟨some 118,none,.bin .neq false (.t 116) (.t 117)⟩]) (.cond (.t 118) (.seq (.reg [⟨some 4,none,.mv (.c (.bool false))⟩]) .ret) .skip)) (.seq (.reg [⟨some 4,none,.mv (.c (.bool true))⟩]) .ret))))))))))))))))))))))))))))))
theorem B6:Ao Tryz.prog 3=some ⟨119,AY,[(.tmp 4)]⟩:=by kernel_rfl
theorem B7:modes 3=⟨[],.asis,none,false⟩:=by unfold modes; rfl
theorem Sn (x:Fm) (ds:List Df):(Du x ds).bulk≤1048576:=by
 have hz:Fm.zero.bulk=0:=by
  rw [Fm.bulk_eq]
  show Tm.zero.bulk+0+(0+Fm.sumB [])=_
  rw [Tm.bulk_eq,Fm.sumB]
  show (0+(0+Tm.sumB []))+0+0=_
  rw [Tm.sumB]
 unfold Du
 cases h:F4 x ds with
 | false=>rw [cond_false,hz]; omega
 | true =>
  rw [cond_true]
  unfold F4 at h
  rw [zA] at h
  obtain ⟨h1,h2⟩:=h
  cases ha:AW ds x with
  | none=>rw [ha] at h2; cases h2
  | some y =>
   rw [Option.getD_some]
   unfold HQ at h1
   rw [zA] at h1
   have h3:=Hp h1.1 ds ha
   unfold Fm.valid at h3
   rw [zA,decide_eq_true_eq] at h3
   have:=Fm.NK _ h3.2
   omega
theorem DsOk.WE {x:Fm} {ds:List Df} (h1:x.bulk≤1048576) (h2:ds.length+Df.sumB ds≤1048576):DsOk x ds:=by
 have hd:∀ d∈ds,d.bulk≤1048576:=fun d hd=>by
  obtain ⟨k,hk,rfl⟩:=List.getElem_of_mem hd
  have:=Df.bulk_le ds k hk
  omega
 refine ⟨by omega,(Fm.GQ x h1).1,?_,fun d h=>?_,fun d h=>?_,fun d h=>?_⟩
 ·have:=(Fm.GQ x h1).2; omega
 ·have:=hd d h; rw [Df.bulk_eq] at this; omega
 ·have:=hd d h; rw [Df.bulk_eq] at this; exact (Fm.GQ _ (by omega)).1
 ·have:=hd d h; rw [Df.bulk_eq] at this; have:=(Fm.GQ d.form (by omega)).2; omega
theorem WF (x:Fm) (ds:List Df) (hfx:D.fits x.d) (hfds:D.fit (.arr (ds.map Df.d))):E 3 [x.sv,.arr (ds.map Df.d)] []=some (.bool true,[]):=by
 have s0:=Id x hfx 1048576 (by omega) (by omega)
 have q0:=AC 1048576 x.bulk
 obtain ⟨l0,hl0⟩:∃ l,l=szR 1048576 (x.bulk:Nat):=⟨_,rfl⟩
 rw [←hl0] at s0 q0
 rcases Int.lt_or_le l0 0 with h0 | h0_0
 ·refine Ak B6 B7 (of_decide_eq_true rfl) ?_
  simp (disch:=omega) only [AY,go_sem,Ab,s0,AT]
 have s1:=LW ds hfds l0 (by omega) (by omega)
 have q1:=AC l0 (ds.length+Df.sumB ds)
 obtain ⟨l1,hl1⟩:∃ l,l=szR l0 ((ds.length+Df.sumB ds):Nat):=⟨_,rfl⟩
 rw [←hl1] at s1 q1
 rcases Int.lt_or_le l1 0 with h0 | h0_1
 ·refine Ak B6 B7 (of_decide_eq_true rfl) ?_
  simp (disch:=omega) only [AY,go_sem,Ab,s0,s1,Bp,AT]
 have hb_x:x.bulk≤1048576:=by omega
 have hb_ds:(ds.length+Df.sumB ds)≤1048576:=by omega
 have t_x:=Ih x hb_x
 have t_ds:=LY ds hb_ds
 have hok:=DsOk.WE hb_x hb_ds
 have a1:=PX x ds hok
 have a2:=IU x ds hok
 have hb_r:=Sn x ds
 obtain ⟨r,hr_r⟩:∃ r,r=Du x ds:=⟨_,rfl⟩
 rw [←hr_r] at a1 a2 hb_r
 obtain ⟨o,hr_o⟩:∃ r,r=F4 x ds:=⟨_,rfl⟩
 rw [←hr_o] at a1 a2
 have eq_x:=FQ x (by omega)
 have be_x:=Fm.bulk_eq x
 have be_x_atom:=Tm.bulk_eq x.atom
 have w_x_atom_args:=Tm.wtS_bulk x.atom.args
 have w_x_parts:=Fm.wtS_bulk x.parts
 have eq_ds:=Ma ds (by omega)
 have w_ds:=Df.wtS_bulk ds
 have eq_r:=FQ r (by omega)
 have be_r:=Fm.bulk_eq r
 have be_r_atom:=Tm.bulk_eq r.atom
 have w_r_atom_args:=Tm.wtS_bulk r.atom.args
 have w_r_parts:=Fm.wtS_bulk r.parts
 have k_x_0:=Tm.mkS_end x.atom.args (1)
 have k_x_1:=Fm.mkS_end x.parts ((Tm.mkS x.atom.args (1)).2)
 have m_x:=Jj x (1) (.row 33 2 (x.atom.args.map Tm.o)) (.row 36 5 (x.parts.map Fm.o)) (by omega) (by omega) rfl rfl
 obtain ⟨n_x,hn_x⟩:∃ n1,n1=(x.mkr (1)).2:=⟨_,rfl⟩
 have hn'_x:n_x=(Fm.mkS x.parts ((Tm.mkS x.atom.args (1)).2)).2:=hn_x
 rw [←hn_x] at m_x
 have k_ds:=Df.mkS_end ds (n_x)
 have m_ds:=Km ds (n_x) [.row 70 7 (ds.map Df.o)] (by omega) (by omega) rfl
 obtain ⟨n_ds,hn_ds⟩:∃ n1,n1=(Df.mkS ds (n_x)).2:=⟨_,rfl⟩
 rw [←hn_ds] at k_ds m_ds
 have k_r_0:=Tm.mkS_end r.atom.args (1)
 have k_r_1:=Fm.mkS_end r.parts ((Tm.mkS r.atom.args (1)).2)
 have m_r:=Jj r (1) (.row 33 2 (r.atom.args.map Tm.o)) (.row 36 5 (r.parts.map Fm.o)) (by omega) (by omega) rfl rfl
 have hd_r:=Od r (1) (by omega) (by omega)
 obtain ⟨n_r,hn_r⟩:∃ n1,n1=(r.mkr (1)).2:=⟨_,rfl⟩
 have hn'_r:n_r=(Fm.mkS r.parts ((Tm.mkS r.atom.args (1)).2)).2:=hn_r
 rw [←hn_r] at m_r hd_r
 refine Ak B6 B7 (of_decide_eq_true rfl) ?_
 simp (disch:=omega) only [AY,go_sem,s0,s1,t_x,t_ds,a1,a2,eq_x,eq_ds,eq_r,m_x,m_ds,hd_r,m_r,Da,AT,Bp,B9,BG,BA,BH,BP,Bx,BQ,AU,Bk,Fm.osv,Fm.obs,Tm.osv,Tm.obs,Df.osv,Df.obs,Tm.erss,Tm.noss,Fm.erss,Fm.noss,Df.erss,Df.noss]
 repeat ((first | (refine A3 ?_ ?_; (focus (simp (disch:=omega) only [go_sem,s0,s1,t_x,t_ds,a1,a2,eq_x,eq_ds,eq_r,m_x,m_ds,hd_r,m_r,Da,AT,Bp,B9,BG,BA,BH,BP,Bx,BQ,AU,Bk,Fm.osv,Fm.obs,Tm.osv,Tm.obs,Df.osv,Df.obs,Tm.erss,Tm.noss,Fm.erss,Fm.noss,Df.erss,Df.noss]; done))) | (refine A4 ?_ ?_; (focus (simp (disch:=omega) only [go_sem,s0,s1,t_x,t_ds,a1,a2,eq_x,eq_ds,eq_r,m_x,m_ds,hd_r,m_r,Da,AT,Bp,B9,BG,BA,BH,BP,Bx,BQ,AU,Bk,Fm.osv,Fm.obs,Tm.osv,Tm.obs,Df.osv,Df.obs,Tm.erss,Tm.noss,Fm.erss,Fm.noss,Df.erss,Df.noss]; done)))); (try simp (disch:=omega) only [go_sem,s0,s1,t_x,t_ds,a1,a2,eq_x,eq_ds,eq_r,m_x,m_ds,hd_r,m_r,Da,AT,Bp,B9,BG,BA,BH,BP,Bx,BQ,AU,Bk,Fm.osv,Fm.obs,Tm.osv,Tm.obs,Df.osv,Df.obs,Tm.erss,Tm.noss,Fm.erss,Fm.noss,Df.erss,Df.noss]))
end Go.Proofs.YtmhjhclgihoaeaaGreat
set_option maxRecDepth 100000
set_option linter.unusedSimpArgs false
set_option linter.unusedVariables false
set_option linter.unusedSectionVars false
namespace Go.Proofs.YtmhjhclgihoaeaaGreat
open Go.RowKit Go.ChangeShapes Go.WideShapes Go.ChangeAt Go.Deep
section
variable {H:Type} {enc:TypeId × Value→H} {P:Program} {w:World} {base:Nat} {spare:Nat→Bool} {held:Bool}
theorem It {b o k:Nat}:(⟨b,o,none⟩:Addr).add k=⟨b,o+k,none⟩:=by
 unfold Addr.add; split
 ·subst_vars; rfl
 ·rfl
theorem WG {a:Addr} {v:Value} (h:w.cell? a=some v):a.block<w.heap.size:=by
 unfold World.cell? at h
 cases hb:w.heap[a.block]? with
 | none=>rw [hb] at h; cases h
 | some o=>exact (zE.1 hb).1
end
section
variable {H:Type} {enc:TypeId × Value→H} {w:World} {base:Nat} {spare:Nat→Bool} {held:Bool}
end
end Go.Proofs.YtmhjhclgihoaeaaGreat
set_option maxRecDepth 100000
set_option linter.unusedSimpArgs false
set_option linter.unusedVariables false
set_option linter.unusedSectionVars false
namespace Go.Proofs.YtmhjhclgihoaeaaGreat
open Go.RowKit Go.ChangeShapes Go.WideShapes Go.ChangeAt Go.Deep
section
variable {H:Type} {enc:TypeId × Value→H} {P:Program} {w:World} {base:Nat} {spare:Nat→Bool} {held:Bool}
theorem KE {t e:TypeId} {fuel:Nat} {v:Value} {x:DataW H × List MemPlace} (sz:Nat) (hsz:P.cellsOf e=sz) (h0:0<sz) (ht:P.underlying t=some (.slice e)) (h:DataW.trod enc P w base spare held fuel t [v]=some x) :
  ∃ (a:Option Addr) (len cap:Nat) (f:Nat→Nat→Value),v=.slice a len cap∧len≤cap∧cap≤9223372036854775807∧SlA w 0 sz len f a ∧
   ∀ i,i<len→∃ n x',n<fuel∧DataW.trod enc P w base spare held n e ((zD sz).map (f i))=some x':=by
 rcases DataW.trod_slice ht h with ⟨hcs,_⟩ | ⟨a,len,cap,elems,rest,n,hf,hcs,hx,hb,hl,hm,hlen,hel,_,_⟩
 ·simp only [List.cons.injEq,and_true] at hcs
  exact ⟨none,0,0,fun _ _=>undef,hcs,Nat.le_refl _,by omega,.inl rfl,fun i hi=>absurd hi (by omega)⟩
 ·have hi:∀ i,i<len→∃ cs' x',w.cells? base (a.add (i*sz)) sz=some cs'∧DataW.trod enc P w base spare held n e cs'=some x':=by
   intro i hi
   have h1:=hel i hi
   rw [hsz,zB (by omega)] at h1
   obtain ⟨cs',h2,h3⟩:=Option.bind_eq_some_iff.1 h1
   exact ⟨cs',_,h2,h3⟩
  have hcell:∀ i j,i<len→j<sz→∃ v,w.cell? (a.add (i*sz+j))=some v:=by
   intro i j hil hj
   obtain ⟨cs',x',hc,_⟩:=hi i hil
   obtain ⟨_,hcl,hat⟩:=World.cells?_some hc
   have h1:=hat j hj
   rw [Go.Deep.add_add,zB (by omega)] at h1
   exact ⟨_,h1⟩
  simp only [List.cons.injEq,and_true] at hcs
  refine ⟨some a,len,cap,fun i j=>(w.cell? (a.add (i*sz+j))).getD undef,hcs,hl,hm,?_,?_⟩
  ·rcases Nat.eq_zero_or_pos len with h | h
   ·exact .inl h
   ·obtain ⟨v,hv⟩:=hcell 0 0 h h0
    rw [Nat.zero_mul,Nat.zero_add] at hv
    have hsp:a.spot=none:=by simpa [Addr.add] using World.cell?_spot hv
    have hlt:=WG hv
    obtain ⟨b,off,spot⟩:=a
    simp only at hsp
    subst hsp
    refine .inr ⟨b,off,rfl,Nat.zero_le _,by simpa [Addr.add] using hlt,fun i j hil hj=>?_⟩
    obtain ⟨v',hv'⟩:=hcell i j hil hj
    rw [It] at hv'
    show _=some ((w.cell? ((⟨b,off,none⟩:Addr).add (i*sz+j))).getD undef)
    rw [It,Nat.add_assoc,hv']
    rfl
  ·intro i hil
   obtain ⟨cs',x',hc,ht'⟩:=hi i hil
   obtain ⟨_,hcl,hat⟩:=World.cells?_some hc
   refine ⟨n,x',by omega,?_⟩
   have hcs':(zD sz).map (fun j=>(w.cell? (a.add (i*sz+j))).getD undef)=cs':=by
    apply List.ext_getElem?
    intro j
    by_cases hj:j<sz
    ·rw [List.getElem?_map,List.getElem?_range hj]
     have h1:=hat j hj
     rw [Go.Deep.add_add] at h1
     rw [zB (by omega:j<cs'.length)] at h1 ⊢
     simp [h1]
    ·rw [List.getElem?_eq_none (by simp; omega),List.getElem?_eq_none (by omega)]
   rw [hcs']
   exact ht'
theorem NL {t:TypeId} {fs:Array Field} {fuel:Nat} {cs:List Value} {x:DataW H × List MemPlace} (ht:P.underlying t=some (.struct fs)) (h:DataW.trod enc P w base spare held fuel t cs=some x) :
  ∃ n,n<fuel∧cs.length=P.cellsOf t∧∀ (i:Nat) (f:Field),fs[i]?=some f→∃ y,DataW.trod enc P w base spare held n f.type ((cs.drop f.offset).take (P.cellsOf f.type))=some y:=by
 obtain ⟨xs,n,hn,hx,hlen,hxl,hf⟩:=DataW.trod_struct ht h
 refine ⟨n,by omega,hlen,fun i f hi=>?_⟩
 have hil:i<fs.size:=(zE.1 hi).1
 have h1:=hf i f hi
 rw [zB (by omega:i<xs.length)] at h1
 exact ⟨_,h1⟩
end
inductive Lvs (w:World):List D→List Value→Prop
 |nil:Lvs w [] []
 |cons {d:D} {v:Value} {ds:List D} {vs:List Value} (h:DAt w d v) (hs:Lvs w ds vs):Lvs w (d :: ds) (v :: vs)
theorem Lvs.len {w:World} {ds:List D} {vs:List Value} (h:Lvs w ds vs):ds.length=vs.length:=by
 induction h with
 | nil=>rfl
 | cons h hs ih=>simp [ih]
theorem Lvs.get {w:World} {ds:List D} {vs:List Value} (h:Lvs w ds vs):∀ j (h1:j<ds.length) (h2:j<vs.length),DAt w ds[j] vs[j]:=by
 induction h with
 | nil=>intro j h1; simp at h1
 | cons h hs ih =>
  intro j h1 h2
  cases j with
  | zero=>exact h
  | succ j=>exact ih j (by simpa using h1) (by simpa using h2)
theorem KF {α:Type} [Inhabited α] (dd:α→List D) {w:World} {m len cap:Nat} {f:Nat→Nat→Value} {a:Option Addr} (hl:len≤cap) (hm:cap≤9223372036854775807) (hS:SlA w 0 m len f a)
  (hel:∀ i,i<len→∃ X:α,Lvs w (dd X) ((zD m).map (f i))):∃ xs:List α,DAt w (.arr (xs.map dd)) (.slice a len cap):=by
 obtain ⟨g,hg⟩:∃ g:Nat→α,∀ i,i<len→Lvs w (dd (g i)) ((zD m).map (f i)) :=
  ⟨fun i=>if h:i<len then (hel i h).choose else default,fun i hi=>by simp only [hi,dif_pos]; exact (hel i hi).choose_spec⟩
 refine ⟨(zD len).map g,?_⟩
 have hlen:(((zD len).map g).map dd).length=len:=by simp
 have:=DAt.WP (w:=w) (es:=((zD len).map g).map dd) (sz:=m) (cap:=cap) (a:=a) (f:=f) (by rw [hlen]; exact hl) hm (by rw [hlen]; exact hS) (fun i hi=>by
  rw [hlen] at hi
  have:=(hg i hi).len
  simpa using this) (fun i j hi hj=>by
  rw [hlen] at hi
  have h1:=hg i hi
  have h2:=h1.len
  simp only [List.length_map,List.length_range] at h2
  simp only [List.getElem_map,List.getElem_range] at hj ⊢
  have:=h1.get j hj (by simp; omega)
  simpa using this)
 rw [hlen] at this
 exact this
instance:Inhabited Tm:=⟨Tm.zero⟩
instance:Inhabited Fm:=⟨Fm.zero⟩
section
variable {H:Type} {enc:TypeId × Value→H} {w:World} {base:Nat} {spare:Nat→Bool} {held:Bool}
end
end Go.Proofs.YtmhjhclgihoaeaaGreat
set_option maxRecDepth 100000
set_option linter.unusedSimpArgs false
set_option linter.unusedVariables false
set_option linter.unusedSectionVars false
namespace Go.Proofs.YtmhjhclgihoaeaaGreat
open Go.RowKit
theorem DRep.lt_ {own:Bool} {w:World} {S:Nat→Prop} {d:D} {v:Value} (h:DRep own w S d v):DRep own w (fun b=>S b∧b<w.heap.size) d v:=by
 induction h with
 | int S n=>exact .int _ n
 | byte S n=>exact .byte _ n
 | bool S b=>exact .bool _ b
 | str S s h=>exact .str _ s h
 | arr S sz es a cap f Sub h1 h2 h3 h4 h5 h6 h7 ih =>
  refine .arr _ sz es a cap f (fun i j x=>Sub i j x∧x<w.heap.size) h1 h2 ?_ h4 (fun i j x h=>⟨h5 i j x h.1,h.2⟩) (fun ho i j i' j' x h h'=>h6 ho i j i' j' x h.1 h'.1) ih
  rcases h3 with h3 | ⟨b,off,ha,hS,hl,hc,ho⟩
  ·exact .inl h3
  ·exact .inr ⟨b,off,ha,⟨hS,hl⟩,hl,hc,fun h=>⟨fun i j hx=>(ho h).1 i j hx.1,(ho h).2⟩⟩
theorem DAt.rep {w:World} {es:List (List D)} {v:Value} (h:DAt w (.arr es) v):RepV w (fun b=>b<w.heap.size) (fun _=>none) (.arr es) v:=by
 simp only [RepV]
 exact (DRep.lt_ h).up fun b hb=>hb.2
theorem Fun.yes {f:FuncId} {args:List SV} (h:Fun Tryz.prog f args [] (.bool true) []) {w:World} {vs:List Value} (hgl:GL w fun b=>b<w.heap.size) (hvs:RepVs w (fun b=>b<w.heap.size) (fun _=>none) args vs):Calls Tryz.prog f vs.toArray w (Ret w (.bool true)):=by
 have nl:∀ g,¬ (Am [] g).live:=fun g hg=>by simp [Am,Ob.live] at hg
 refine (h w (fun b=>b<w.heap.size) (fun _=>none) (fun _ _=>False) vs ⟨fun b hb=>hb,fun g hg=>absurd hg (nl g),fun g b hg=>absurd hg (nl g),fun g b hg=>absurd hg (nl g),fun g g' b hg=>absurd hg (nl g),fun g _=>rfl,hgl⟩ hvs).mono ?_
 rintro e w' ⟨v,I',V',B',rfl,hr,hp⟩
 simp only [RepV] at hr
 subst hr
 exact ⟨rfl,hp.fr.os,hp.fr.tape.1,hp.fr.output,hp.fr.size,fun b hb=>hp.fr.block b hb fun ⟨g,hg,_⟩=>absurd hg (nl g)⟩
theorem Fw {w:World} {d:D} {ds:List D} {v:Value} {vs:List Value} (h:Lvs w (d :: ds) (v :: vs)):DAt w d v∧Lvs w ds vs:=by
 cases h with
 | cons h1 h2=>exact ⟨h1,h2⟩
theorem DAt.rep_sv {w:World} {d:D} {v:Value} (h:DAt w d v):RepV w (fun b=>b<w.heap.size) (fun _=>none) d.sv v :=
 D.rep_sv ((DRep.lt_ h).up fun b hb=>hb.2)
theorem Lvs.reps {w:World} {ds:List D} {vs:List Value} (h:Lvs w ds vs):RepVs w (fun b=>b<w.heap.size) (fun _=>none) (ds.map D.sv) vs:=by
 induction h with
 | nil=>simp [RepVs]
 | cons h hs ih=>simp only [List.map_cons,RepVs]; exact ⟨_,_,rfl,h.rep_sv,ih⟩
theorem Lvs.agg {w:World} {ds:List D} {vs:List Value} (h:Lvs w ds vs):RepV w (fun b=>b<w.heap.size) (fun _=>none) (.agg (ds.map D.sv)) (.agg vs.toArray):=by
 simp only [RepV]; exact ⟨vs,rfl,h.reps⟩
theorem Lvs.fits {w:World} {ds:List D} {vs:List Value} (h:Lvs w ds vs):D.fits ds:=by
 induction h with
 | nil=>trivial
 | cons h hs ih=>exact ⟨DRep.fit h,ih⟩
theorem DAt.fit {w:World} {d:D} {v:Value} (h:DAt w d v):D.fit d:=DRep.fit h
theorem Vt {w:World} {I:Nat→Prop} {V:Nat→Option Value}:RepVs w I V [] []:=by simp [RepVs]
theorem Pl {w:World} {I:Nat→Prop} {V:Nat→Option Value} {x:SV} {xs:List SV} {v:Value} {vs:List Value} (h:RepV w I V x v) (hs:RepVs w I V xs vs):RepVs w I V (x :: xs) (v :: vs):=by
 simp only [RepVs]; exact ⟨v,vs,rfl,h,hs⟩
instance:Inhabited Lt:=⟨Lt.zero⟩
instance:Inhabited Df:=⟨Df.zero⟩
instance:Inhabited Cl:=⟨Cl.zero⟩
section
variable {H:Type} {enc:TypeId × Value→H} {w:World} {base:Nat} {spare:Nat→Bool} {held:Bool}
theorem Rp {fuel:Nat} {v:Value} {x:DataW H × List MemPlace} (h:DataW.trod enc Tryz.prog w base spare held fuel 64 [v]=some x):∃ xs:List ByteArray,DAt w (.arr (xs.map fun s=>[D.str s])) v:=by
 obtain ⟨a,len,cap,f,rfl,hl,hm,hS,hr⟩:=KE (P:=Tryz.prog) 1 (by kernel_rfl) (by omega) Tryz.underlying64 h
 exact KF (fun s=>[D.str s]) hl hm hS fun i hi=>by
  obtain ⟨n,x',hn,h1⟩:=hr i hi
  obtain ⟨z,q,_,s⟩:=DataW.trod_string Tryz.underlying9 h1
  rw [q]
  exact ⟨z,.cons (.str _ z s) .nil⟩
theorem LO {fuel:Nat} (ih:∀ n,n<fuel→∀ v x,DataW.trod enc Tryz.prog w base spare held n 22 [v]=some x→∃ xs:List Tm,DAt w (.arr (xs.map Tm.d)) v) {cs:List Value} {x:DataW H × List MemPlace} (h:DataW.trod enc Tryz.prog w base spare held fuel 24 cs=some x):∃ X:Tm,Lvs w X.d cs:=by
 obtain ⟨n,hn,hlen,hf⟩:=NL Tryz.underlying24 h
 rw [show Tryz.prog.cellsOf 24=2 by kernel_rfl] at hlen
 match cs,hlen with
 | [c0,c1],_ =>
  obtain ⟨y0,k0⟩:=hf 0 _ rfl
  have e0:(([c0,c1].drop 0).take (Tryz.prog.cellsOf 9))=[c0]:=by rw [show Tryz.prog.cellsOf 9=1 by kernel_rfl]; rfl
  obtain ⟨z0,q0,_,s0⟩:=DataW.trod_string Tryz.underlying9 k0
  have q0':c0=.string z0:=by
   have:[c0]=[.string z0]:=by rw [←e0]; exact q0
   simpa using this
  obtain ⟨y1,k1⟩:=hf 1 _ rfl
  have e1:(([c0,c1].drop 1).take (Tryz.prog.cellsOf 22))=[c1]:=by rw [show Tryz.prog.cellsOf 22=1 by kernel_rfl]; rfl
  have k1':DataW.trod enc Tryz.prog w base spare held n 22 [c1]=some y1:=by rw [←e1]; exact k1
  obtain ⟨z1,g1⟩:=ih n hn c1 y1 k1'
  subst q0'
  exact ⟨.mk z0 z1,by rw [Tm.d_eq]; exact (.cons (.str _ z0 s0) (.cons g1 .nil))⟩
theorem Ol:∀ (fuel:Nat) (v:Value) (x:DataW H × List MemPlace),DataW.trod enc Tryz.prog w base spare held fuel 22 [v]=some x→∃ xs:List Tm,DAt w (.arr (xs.map Tm.d)) v:=by
 intro fuel
 induction fuel using Nat.strongRecOn with
 | _ fuel ih =>
  intro v x h
  obtain ⟨a,len,cap,f,rfl,hl,hm,hS,hr⟩:=KE (P:=Tryz.prog) 2 (by kernel_rfl) (by omega) Tryz.underlying22 h
  exact KF Tm.d hl hm hS fun i hi=>by
   obtain ⟨n,x',hn,h1⟩:=hr i hi
   exact LO (fun n' hn'=>ih n' (by omega)) h1
theorem Vu {fuel:Nat} {cs:List Value} {x:DataW H × List MemPlace} (h:DataW.trod enc Tryz.prog w base spare held fuel 24 cs=some x):∃ X:Tm,Lvs w X.d cs :=
 LO (fun n _=>Ol n) h
theorem Iu {fuel:Nat} (ih:∀ n,n<fuel→∀ v x,DataW.trod enc Tryz.prog w base spare held n 25 [v]=some x→∃ xs:List Fm,DAt w (.arr (xs.map Fm.d)) v) {cs:List Value} {x:DataW H × List MemPlace} (h:DataW.trod enc Tryz.prog w base spare held fuel 27 cs=some x):∃ X:Fm,Lvs w X.d cs:=by
 obtain ⟨n,hn,hlen,hf⟩:=NL Tryz.underlying27 h
 rw [show Tryz.prog.cellsOf 27=5 by kernel_rfl] at hlen
 match cs,hlen with
 | [c0,c1,c2,c3,c4],_ =>
  obtain ⟨y0,k0⟩:=hf 0 _ rfl
  have e0:(([c0,c1,c2,c3,c4].drop 0).take (Tryz.prog.cellsOf 3))=[c0]:=by rw [show Tryz.prog.cellsOf 3=1 by kernel_rfl]; rfl
  obtain ⟨z0,q0,_,_⟩:=DataW.trod_int Tryz.underlying3 k0
  have q0':c0=.int .i64 z0:=by
   have:[c0]=[.int .i64 z0]:=by rw [←e0]; exact q0
   simpa using this
  obtain ⟨y1,k1⟩:=hf 1 _ rfl
  have e1:(([c0,c1,c2,c3,c4].drop 1).take (Tryz.prog.cellsOf 24))=[c1,c2]:=by rw [show Tryz.prog.cellsOf 24=2 by kernel_rfl]; rfl
  have k1':DataW.trod enc Tryz.prog w base spare held n 24 [c1,c2]=some y1:=by rw [←e1]; exact k1
  obtain ⟨z1,g1⟩:=Vu k1'
  rw [Tm.d_eq] at g1
  obtain ⟨g1_0,g1⟩:=Fw g1
  obtain ⟨g1_1,g1⟩:=Fw g1
  obtain ⟨y2,k2⟩:=hf 2 _ rfl
  have e2:(([c0,c1,c2,c3,c4].drop 3).take (Tryz.prog.cellsOf 9))=[c3]:=by rw [show Tryz.prog.cellsOf 9=1 by kernel_rfl]; rfl
  obtain ⟨z2,q2,_,s2⟩:=DataW.trod_string Tryz.underlying9 k2
  have q2':c3=.string z2:=by
   have:[c3]=[.string z2]:=by rw [←e2]; exact q2
   simpa using this
  obtain ⟨y3,k3⟩:=hf 3 _ rfl
  have e3:(([c0,c1,c2,c3,c4].drop 4).take (Tryz.prog.cellsOf 25))=[c4]:=by rw [show Tryz.prog.cellsOf 25=1 by kernel_rfl]; rfl
  have k3':DataW.trod enc Tryz.prog w base spare held n 25 [c4]=some y3:=by rw [←e3]; exact k3
  obtain ⟨z3,g3⟩:=ih n hn c4 y3 k3'
  subst q0' q2'
  exact ⟨.mk z0 z1 z2 z3,by rw [Fm.d_eq]; exact (.cons (.int _ z0) (.cons g1_0 (.cons g1_1 (.cons (.str _ z2 s2) (.cons g3 .nil)))))⟩
theorem Lq:∀ (fuel:Nat) (v:Value) (x:DataW H × List MemPlace),DataW.trod enc Tryz.prog w base spare held fuel 25 [v]=some x→∃ xs:List Fm,DAt w (.arr (xs.map Fm.d)) v:=by
 intro fuel
 induction fuel using Nat.strongRecOn with
 | _ fuel ih =>
  intro v x h
  obtain ⟨a,len,cap,f,rfl,hl,hm,hS,hr⟩:=KE (P:=Tryz.prog) 5 (by kernel_rfl) (by omega) Tryz.underlying25 h
  exact KF Fm.d hl hm hS fun i hi=>by
   obtain ⟨n,x',hn,h1⟩:=hr i hi
   exact Iu (fun n' hn'=>ih n' (by omega)) h1
theorem LP {fuel:Nat} {cs:List Value} {x:DataW H × List MemPlace} (h:DataW.trod enc Tryz.prog w base spare held fuel 27 cs=some x):∃ X:Fm,Lvs w X.d cs :=
 Iu (fun n _=>Lq n) h
theorem NM {fuel:Nat} {cs:List Value} {x:DataW H × List MemPlace} (h:DataW.trod enc Tryz.prog w base spare held fuel 66 cs=some x):∃ X:Df,Lvs w X.d cs:=by
 obtain ⟨n,hn,hlen,hf⟩:=NL Tryz.underlying66 h
 rw [show Tryz.prog.cellsOf 66=7 by kernel_rfl] at hlen
 match cs,hlen with
 | [c0,c1,c2,c3,c4,c5,c6],_ =>
  obtain ⟨y0,k0⟩:=hf 0 _ rfl
  have e0:(([c0,c1,c2,c3,c4,c5,c6].drop 0).take (Tryz.prog.cellsOf 9))=[c0]:=by rw [show Tryz.prog.cellsOf 9=1 by kernel_rfl]; rfl
  obtain ⟨z0,q0,_,s0⟩:=DataW.trod_string Tryz.underlying9 k0
  have q0':c0=.string z0:=by
   have:[c0]=[.string z0]:=by rw [←e0]; exact q0
   simpa using this
  obtain ⟨y1,k1⟩:=hf 1 _ rfl
  have e1:(([c0,c1,c2,c3,c4,c5,c6].drop 1).take (Tryz.prog.cellsOf 64))=[c1]:=by rw [show Tryz.prog.cellsOf 64=1 by kernel_rfl]; rfl
  have k1':DataW.trod enc Tryz.prog w base spare held n 64 [c1]=some y1:=by rw [←e1]; exact k1
  obtain ⟨z1,g1⟩:=Rp k1'
  obtain ⟨y2,k2⟩:=hf 2 _ rfl
  have e2:(([c0,c1,c2,c3,c4,c5,c6].drop 2).take (Tryz.prog.cellsOf 27))=[c2,c3,c4,c5,c6]:=by rw [show Tryz.prog.cellsOf 27=5 by kernel_rfl]; rfl
  have k2':DataW.trod enc Tryz.prog w base spare held n 27 [c2,c3,c4,c5,c6]=some y2:=by rw [←e2]; exact k2
  obtain ⟨z2,g2⟩:=LP k2'
  rw [Fm.d_eq] at g2
  obtain ⟨g2_0,g2⟩:=Fw g2
  obtain ⟨g2_1,g2⟩:=Fw g2
  obtain ⟨g2_2,g2⟩:=Fw g2
  obtain ⟨g2_3,g2⟩:=Fw g2
  obtain ⟨g2_4,g2⟩:=Fw g2
  subst q0'
  exact ⟨⟨z0,z1,z2⟩,by rw [Df.d_eq]; exact (.cons (.str _ z0 s0) (.cons g1 (.cons g2_0 (.cons g2_1 (.cons g2_2 (.cons g2_3 (.cons g2_4 .nil)))))))⟩
theorem Mg {fuel:Nat} {v:Value} {x:DataW H × List MemPlace} (h:DataW.trod enc Tryz.prog w base spare held fuel 28 [v]=some x):∃ xs:List Df,DAt w (.arr (xs.map Df.d)) v:=by
 obtain ⟨a,len,cap,f,rfl,hl,hm,hS,hr⟩:=KE (P:=Tryz.prog) 7 (by kernel_rfl) (by omega) Tryz.underlying28 h
 exact KF Df.d hl hm hS fun i hi=>by
  obtain ⟨n,x',hn,h1⟩:=hr i hi
  exact NM h1
end
end Go.Proofs.YtmhjhclgihoaeaaGreat
