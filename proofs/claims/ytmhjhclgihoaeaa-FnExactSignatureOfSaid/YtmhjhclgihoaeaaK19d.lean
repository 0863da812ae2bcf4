/-
  Texts of this claim, one behind the other, each built on those ahead of it. No condition.
-/
import Derived.Test.YtmhjhclgihoaeaaK19b
import Derived.Test.YtmhjhclgihoaeaaK19c
import Derived.ProofKit
import Derived.Deep.Slices
import Derived.Deep.Fields
import Derived.ChangeSame
import Derived.OpenShut
import Derived.ShutString
import Derived.ChangeOld
set_option maxHeartbeats 16000000
open List renaming drop_eq_getElem_cons → zA, drop_eq_nil_of_le → zB, drop_zero → zC, getElem_mem → zD, length_cons → zG, length_append → zH, append_assoc → zI, length_map → zJ, mem_append → zK, getElem?_append_right → zL, length_nil → zM, getElem?_set_self → zN, getElem?_map → zP, getElem?_eq_getElem → zQ, take_of_length_le → zR, append_nil → zS, getElem_of_mem → zU, length_set → zW, map → zY, length_take → zZ, length_drop → z2, range → z3, set_set → z6
open Nat renaming lt_or_ge → zE, zero_le → zF, le_refl → zX, sub_self → z5
open Int renaming toNat_zero → zO
open Bool renaming and_eq_true → zT, false_or → zV, or_eq_false_iff → z4, true_and → z8
open Array renaming getElem?_eq_some_iff → z7
set_option maxRecDepth 100000
set_option linter.unusedSimpArgs false
set_option linter.unusedVariables false
set_option linter.unusedSectionVars false
namespace Go.Proofs.Ytmhjhclgihoaeaa
open Go.RowKit
theorem Jf:(false == true)=false:=rfl
theorem Jg:(true == false)=false:=rfl
theorem Iv (a b:Tl):B3 a b=(strLt a.name b.name || (dec (a.name=b.name)&&dec (a.arity<b.arity))):=rfl
theorem N5 (n:ByteArray) (ar:Int) (p:Bool):([[OT.str n,OT.int ar,OT.bool p,OT.ow []]].all fun l=>l.length == 4)=true:=rfl
theorem N6 (a:List Tl) (x:Tl) (hx:x.vals=[]) (M:List (List OT)) (hM:M=((a.take (Au a x)).map fun b=>b.d.map D.ot)++([[OT.str x.name,OT.int x.arity,OT.bool x.pred,OT.ow []]]++(a.drop (Au a x)).map fun b=>b.d.map D.ot)):OT.At M=true∧OT.erss M=(Cf a x).map Tl.d:=by
 subst hM
 refine ⟨?_,?_⟩
 ·rw [HJ,HJ,Tl.dfu,Tl.dfu]; simp [OT.At,OT.C3,OT.full]
 ·rw [Ll,Ll,Tl.der,Tl.der]
  unfold Cf
  rw [List.map_append,List.map_cons,Tl.d_eq x,hx]
  simp [OT.erss,OT.ers,OT.er]
theorem OQ (x:Tm) (p:Bool) (a:List Tl):Ar a (x.sgR p)=bif AY x.name then (a,true) else bif p&&dec (x.name=⟨#[61]⟩) then Ar a (Tm.B9 x.args) else bif GS a (Bw x p) then (a,false) else Ar (HI a (Bw x p)) (Tm.B9 x.args):=by
 rw [Tm.PV]
 cases AY x.name with
 | true=>rfl
 | false =>
  rw [cond_false,cond_false]
  cases (p&&dec (x.name=⟨#[61]⟩)) with
  | true=>rfl
  | false=>rfl
abbrev VD (x:Tm):Prop:=∀ (tb:List Tl) (p:Bool),upT tb→tb.length+x.nodes≤1048576→E 15 [.arr (tb.map Tl.d),x.sv,.bool p] []=some (.tup [.arr ((Ar tb (x.sgR p)).1.map Tl.d),.bool (Ar tb (x.sgR p)).2],[])
theorem RE (x:Tm) (ih:∀ y∈x.args,VD y):VD x:=by
 intro tb p hup hn
 have hnd:=Tm.A6 x
 have hpl:=Tm.length_le x.args
 have hxs:x.sv=.agg [.str x.name,.arr (x.args.map Tm.d)]:=rfl
 have hv:=Kg x.name
 rw [hxs,OQ]
 cases hvb:AY x.name with
 | true =>
  rw [hvb] at hv
  rw [cond_true]
  refine Ab AL Ae (of_decide_eq_true rfl) ?_
  simp (disch:=omega) only [AC,go_sem,Aa,hv,Aq]
  first | done | rfl | exact ⟨rfl,rfl⟩
 | false =>
 rw [hvb] at hv
 rw [cond_false]
 cases hpe:p&&dec (x.name=⟨#[61]⟩) with
 | true =>
  rw [zT] at hpe
  obtain ⟨rfl,heqn⟩:=hpe
  have hupU:=hup
  rw [cond_true]
  refine Ab AL Ae (of_decide_eq_true rfl) ?_
  simp (disch:=omega) only [AC,go_sem,Aa,hv,Aq,heqn]
  have hfull:∃ full,full=Ar tb (Tm.B9 x.args):=⟨_,rfl⟩
  obtain ⟨full,hfull⟩:=hfull
  rw [←hfull]
  refine go_loop (α:=Int × (List Tl)) (fun a=>⟨slots 128 0 [(0,.arr ((a.2).map Tl.d)),(4,.ptr 0 0),(12,.int .i64 (a.1))],[.box 45 [.str x.name,.arr (x.args.map Tm.d)]]⟩) (fun a=>∃ k:Nat,a.1=k∧k≤(x.args).length∧Ar (a.2) (Tm.B9 (x.args.drop k))=full∧upT (a.2)∧(a.2).length+Tm.A9 (x.args.drop k)≤1048576) (fun a=>(x.args).length-(a.1).toNat) (0,tb) ⟨0,rfl,zF _,by rw [zC,hfull],hupU,by rw [zC]; dsimp only; omega⟩ (by simp (disch:=omega) only [go_sem,Aa]) ?_
  rintro ⟨i,ac⟩ ⟨k,hi,hk,hR⟩
  dsimp only at hi hR
  have hni:i.toNat=k:=by omega
  have hni1:(i+1).toNat=k+1:=by omega
  rcases zE k (x.args).length with hlt | hge
  ·have hg:=get_at Tm.d hlt
   rw [Tm.d_eq] at hg
   obtain ⟨hR1,hR2,hR3⟩:=hR
   rw [zA hlt,Tm.B9,By] at hR1
   rw [zA hlt,Tm.A9] at hR3
   have hc2:=ih x.args[k] (zD hlt) ac false hR2 (by omega)
   have hys:(x.args[k]).sv=.agg [.str (x.args[k]).name,.arr ((x.args[k]).args.map Tm.d)]:=rfl
   rw [hys] at hc2
   have hu2:=BQ ((x.args[k]).sgR false) hR2
   have hl2:=B7 ((x.args[k]).sgR false) ac
   have hs2:=Tm.CS x.args[k] false
   obtain ⟨a2,ok,hr⟩:∃ a2 ok,Ar ac ((x.args[k]).sgR false)=(a2,ok):=⟨_,_,rfl⟩
   rw [hr] at hc2 hR1 hu2 hl2
   dsimp only at hc2 hR1 hu2 hl2
   cases ok with
   | true =>
    rw [cond_true] at hR1
    simp (disch:=omega) only [go_sem,Aa,hni,hg,hc2,Ae]
    refine ⟨(i+1,a2),⟨k+1,by dsimp only; omega,hlt,hR1,hu2,by dsimp only; omega⟩,by dsimp only; omega,?_⟩
    first | done | simp (disch:=omega) only [go_sem,Aa,hni1]
   | false =>
    rw [cond_false] at hR1
    rw [←hR1]
    simp (disch:=omega) only [go_sem,Aa,hni,hg,hc2,Ae]
    first | done | rfl | exact ⟨rfl,rfl⟩
  ·rw [zB hge,Tm.B9] at hR
   obtain ⟨hR1,hR2,hR3⟩:=hR
   have hR1:(ac,true)=full:=hR1
   rw [←hR1]
   simp (disch:=omega) only [go_sem,Aa,hni]
   first | done | rfl | exact ⟨rfl,rfl⟩
 | false =>
  rw [cond_false]
  cases p with
  | false =>
   have heqn:=trivial
   have hsn:(Bw x false).name=x.name:=rfl
   have hsa:(Bw x false).arity=(x.args.length:Int):=rfl
   have hsp:(Bw x false).pred=false:=rfl
   have hsv:(Bw x false).vals=[]:=rfl
   have hfind:=MQ tb (Bw x false) (by omega)
   rw [hsn,hsa] at hfind
   generalize Bw x false=sy at *
   have hlo:=Iq sy tb
   rcases Lk (fun t=>B4 t sy) tb 0 with ⟨hf1,hf2⟩ | ⟨m,hm,hf1,hf2⟩
   ·rw [hf2] at hfind
    have hck:GS tb sy=dec ((3:Int)<(x.args.length:Int)):=by unfold GS; rw [hf1,hsa,zV]
    have hpk:HI tb sy=Cf tb sy:=by unfold HI; rw [hf1]
    rw [hck,hpk]
    have hupU:=N4 hup sy
    rw [hpk] at hupU
    have hil:=Gg sy tb
    cases h3:dec ((3:Int)<(x.args.length:Int)) with
    | true =>
     rw [cond_true]
     refine Ab AL Ae (of_decide_eq_true rfl) ?_
     simp (disch:=omega) only [AC,go_sem,Aa,hv,Aq,heqn,hfind,AI,h3]
     first | done | rfl | exact ⟨rfl,rfl⟩
    | false =>
     rw [cond_false]
     refine Ab AL Ae (of_decide_eq_true rfl) ?_
     simp (disch:=omega) only [AC,go_sem,Aa,hv,Aq,heqn,hfind,AI,h3]
     refine go_loop (α:=Int) (fun a=>⟨slots 128 0 [(0,.arr (tb.map Tl.d)),(2,.bool false),(4,.ptr 0 0),(10,.int .i64 a)],[.box 45 [.str x.name,.arr (x.args.map Tm.d)]]⟩) (fun a=>∃ k:Nat,a=k∧k≤(tb).length∧k+Au (tb.drop k) sy=Au tb sy) (fun a=>(tb).length-(a).toNat) 0 ⟨0,rfl,zF _,by rw [zC,Nat.zero_add]⟩ (by simp (disch:=omega) only [go_sem,Aa]) ?_
     rintro i ⟨k,hi,hk,hR⟩
     have hni:i.toNat=k:=by omega
     have hni1:(i+1).toNat=k+1:=by omega
     rcases zE k (tb).length with hlt | hge
     ·have hg:=Tl.getD hlt
      rcases MP hR hlt with ⟨q,hR'⟩ | ⟨q,hk'⟩
      ·rw [Iv,hsn,hsa] at q
       cases s1:strLt tb[k].name x.name with
       | true =>
        have s2:=trivial
        have s3:=trivial
        simp (disch:=omega) only [go_sem,Aa,hni,hg,s1,s2,s3]
        exact ⟨i+1,⟨k+1,by omega,hlt,hR'⟩,by omega,by first | trivial | rfl⟩
       | false =>
        rw [s1,zV,zT] at q
        obtain ⟨s2,s3⟩:=q
        simp (disch:=omega) only [go_sem,Aa,hni,hg,s1,s2,s3]
        exact ⟨i+1,⟨k+1,by omega,hlt,hR'⟩,by omega,by first | trivial | rfl⟩
      ·subst hk'
       rw [Iv,hsn,hsa,z4] at q
       obtain ⟨s1,q⟩:=q
       have e1:=Tl.Kk tb (Au tb sy)
       have e2:=Tl.Kl tb (Au tb sy)
       have e3:=Tl.al4 (tb.take (Au tb sy))
       have e4:=Tl.al4 (tb.drop (Au tb sy))
       have e5:=Tl.U3 tb
       have e6:(tb.map Tl.d).take tb.length=tb.map Tl.d:=zR (by simp)
       have e7:(tb.take (Au tb sy)).length=Au tb sy:=by rw [zZ]; omega
       have e8:(tb.drop (Au tb sy)).length=tb.length-Au tb sy:=z2
       have e9:=N5 x.name (x.args.length:Int) false
       obtain ⟨hMf,hMe⟩:=N6 tb sy hsv ((tb.take (Au tb sy)).map (fun b=>b.d.map D.ot)++([OT.str x.name,OT.int (x.args.length:Int),OT.bool false,OT.ow []] :: (tb.drop (Au tb sy)).map fun b=>b.d.map D.ot)) (by rw [hsn,hsa,hsp]; rfl)
       cases s2:dec (tb[Au tb sy].name=x.name) with
       | false =>
        have s3:=trivial
        simp (disch:=omega) only [go_sem,Aa,hni,hg,s1,s2,s3,e1,e2,e3,e4,e5,e6,e7,e8,e9,zH,zI]
        have hfull:∃ full,full=Ar (Cf tb sy) (Tm.B9 x.args):=⟨_,rfl⟩
        obtain ⟨full,hfull⟩:=hfull
        rw [←hfull]
        refine go_loop (α:=Int × (List Tl)) (fun a=>⟨slots 128 0 [(0,.arr ((a.2).map Tl.d)),(4,.ptr 0 0),(12,.int .i64 (a.1))],[.box 45 [.str x.name,.arr (x.args.map Tm.d)]]⟩) (fun a=>∃ k:Nat,a.1=k∧k≤(x.args).length∧Ar (a.2) (Tm.B9 (x.args.drop k))=full∧upT (a.2)∧(a.2).length+Tm.A9 (x.args.drop k)≤1048576) (fun a=>(x.args).length-(a.1).toNat) (0,(Cf tb sy)) ⟨0,rfl,zF _,by rw [zC,hfull],hupU,by rw [zC]; dsimp only; omega⟩ (by simp (disch:=omega) only [go_sem,Aa,hMf,hMe,e1,e2,e3,e4,e5,e6,e7,e8,e9,zH,zI,zG,zM]) ?_
        rintro ⟨i,ac⟩ ⟨k,hi,hk,hR⟩
        dsimp only at hi hR
        have hni:i.toNat=k:=by omega
        have hni1:(i+1).toNat=k+1:=by omega
        rcases zE k (x.args).length with hlt | hge
        ·have hg:=get_at Tm.d hlt
         rw [Tm.d_eq] at hg
         obtain ⟨hR1,hR2,hR3⟩:=hR
         rw [zA hlt,Tm.B9,By] at hR1
         rw [zA hlt,Tm.A9] at hR3
         have hc2:=ih x.args[k] (zD hlt) ac false hR2 (by omega)
         have hys:(x.args[k]).sv=.agg [.str (x.args[k]).name,.arr ((x.args[k]).args.map Tm.d)]:=rfl
         rw [hys] at hc2
         have hu2:=BQ ((x.args[k]).sgR false) hR2
         have hl2:=B7 ((x.args[k]).sgR false) ac
         have hs2:=Tm.CS x.args[k] false
         obtain ⟨a2,ok,hr⟩:∃ a2 ok,Ar ac ((x.args[k]).sgR false)=(a2,ok):=⟨_,_,rfl⟩
         rw [hr] at hc2 hR1 hu2 hl2
         dsimp only at hc2 hR1 hu2 hl2
         cases ok with
         | true =>
          rw [cond_true] at hR1
          simp (disch:=omega) only [go_sem,Aa,hni,hg,hc2,Ae]
          refine ⟨(i+1,a2),⟨k+1,by dsimp only; omega,hlt,hR1,hu2,by dsimp only; omega⟩,by dsimp only; omega,?_⟩
          first | done | simp (disch:=omega) only [go_sem,Aa,hni1]
         | false =>
          rw [cond_false] at hR1
          rw [←hR1]
          simp (disch:=omega) only [go_sem,Aa,hni,hg,hc2,Ae]
          first | done | rfl | exact ⟨rfl,rfl⟩
        ·rw [zB hge,Tm.B9] at hR
         obtain ⟨hR1,hR2,hR3⟩:=hR
         have hR1:(ac,true)=full:=hR1
         rw [←hR1]
         simp (disch:=omega) only [go_sem,Aa,hni]
         first | done | rfl | exact ⟨rfl,rfl⟩
       | true =>
        rw [s2,z8] at q
        have s3:=q
        simp (disch:=omega) only [go_sem,Aa,hni,hg,s1,s2,s3,e1,e2,e3,e4,e5,e6,e7,e8,e9,zH,zI]
        have hfull:∃ full,full=Ar (Cf tb sy) (Tm.B9 x.args):=⟨_,rfl⟩
        obtain ⟨full,hfull⟩:=hfull
        rw [←hfull]
        refine go_loop (α:=Int × (List Tl)) (fun a=>⟨slots 128 0 [(0,.arr ((a.2).map Tl.d)),(4,.ptr 0 0),(12,.int .i64 (a.1))],[.box 45 [.str x.name,.arr (x.args.map Tm.d)]]⟩) (fun a=>∃ k:Nat,a.1=k∧k≤(x.args).length∧Ar (a.2) (Tm.B9 (x.args.drop k))=full∧upT (a.2)∧(a.2).length+Tm.A9 (x.args.drop k)≤1048576) (fun a=>(x.args).length-(a.1).toNat) (0,(Cf tb sy)) ⟨0,rfl,zF _,by rw [zC,hfull],hupU,by rw [zC]; dsimp only; omega⟩ (by simp (disch:=omega) only [go_sem,Aa,hMf,hMe,e1,e2,e3,e4,e5,e6,e7,e8,e9,zH,zI,zG,zM]) ?_
        rintro ⟨i,ac⟩ ⟨k,hi,hk,hR⟩
        dsimp only at hi hR
        have hni:i.toNat=k:=by omega
        have hni1:(i+1).toNat=k+1:=by omega
        rcases zE k (x.args).length with hlt | hge
        ·have hg:=get_at Tm.d hlt
         rw [Tm.d_eq] at hg
         obtain ⟨hR1,hR2,hR3⟩:=hR
         rw [zA hlt,Tm.B9,By] at hR1
         rw [zA hlt,Tm.A9] at hR3
         have hc2:=ih x.args[k] (zD hlt) ac false hR2 (by omega)
         have hys:(x.args[k]).sv=.agg [.str (x.args[k]).name,.arr ((x.args[k]).args.map Tm.d)]:=rfl
         rw [hys] at hc2
         have hu2:=BQ ((x.args[k]).sgR false) hR2
         have hl2:=B7 ((x.args[k]).sgR false) ac
         have hs2:=Tm.CS x.args[k] false
         obtain ⟨a2,ok,hr⟩:∃ a2 ok,Ar ac ((x.args[k]).sgR false)=(a2,ok):=⟨_,_,rfl⟩
         rw [hr] at hc2 hR1 hu2 hl2
         dsimp only at hc2 hR1 hu2 hl2
         cases ok with
         | true =>
          rw [cond_true] at hR1
          simp (disch:=omega) only [go_sem,Aa,hni,hg,hc2,Ae]
          refine ⟨(i+1,a2),⟨k+1,by dsimp only; omega,hlt,hR1,hu2,by dsimp only; omega⟩,by dsimp only; omega,?_⟩
          first | done | simp (disch:=omega) only [go_sem,Aa,hni1]
         | false =>
          rw [cond_false] at hR1
          rw [←hR1]
          simp (disch:=omega) only [go_sem,Aa,hni,hg,hc2,Ae]
          first | done | rfl | exact ⟨rfl,rfl⟩
        ·rw [zB hge,Tm.B9] at hR
         obtain ⟨hR1,hR2,hR3⟩:=hR
         have hR1:(ac,true)=full:=hR1
         rw [←hR1]
         simp (disch:=omega) only [go_sem,Aa,hni]
         first | done | rfl | exact ⟨rfl,rfl⟩
     ·have hk2:tb.length=Au tb sy:=by
       obtain rfl:k=tb.length:=by omega
       rw [←hR,zB (zX _)]; simp [Au]
      obtain rfl:k=Au tb sy:=by omega
      have e1:=Tl.Kk tb (Au tb sy)
      have e2:=Tl.Kl tb (Au tb sy)
      have e3:=Tl.al4 (tb.take (Au tb sy))
      have e4:=Tl.al4 (tb.drop (Au tb sy))
      have e5:=Tl.U3 tb
      have e6:(tb.map Tl.d).take tb.length=tb.map Tl.d:=zR (by simp)
      have e7:(tb.take (Au tb sy)).length=Au tb sy:=by rw [zZ]; omega
      have e8:(tb.drop (Au tb sy)).length=tb.length-Au tb sy:=z2
      have e9:=N5 x.name (x.args.length:Int) false
      obtain ⟨hMf,hMe⟩:=N6 tb sy hsv ((tb.take (Au tb sy)).map (fun b=>b.d.map D.ot)++([OT.str x.name,OT.int (x.args.length:Int),OT.bool false,OT.ow []] :: (tb.drop (Au tb sy)).map fun b=>b.d.map D.ot)) (by rw [hsn,hsa,hsp]; rfl)
      simp (disch:=omega) only [go_sem,Aa,hni,e1,e2,e3,e4,e5,e6,e7,e8,e9,zH,zI]
      have hfull:∃ full,full=Ar (Cf tb sy) (Tm.B9 x.args):=⟨_,rfl⟩
      obtain ⟨full,hfull⟩:=hfull
      rw [←hfull]
      refine go_loop (α:=Int × (List Tl)) (fun a=>⟨slots 128 0 [(0,.arr ((a.2).map Tl.d)),(4,.ptr 0 0),(12,.int .i64 (a.1))],[.box 45 [.str x.name,.arr (x.args.map Tm.d)]]⟩) (fun a=>∃ k:Nat,a.1=k∧k≤(x.args).length∧Ar (a.2) (Tm.B9 (x.args.drop k))=full∧upT (a.2)∧(a.2).length+Tm.A9 (x.args.drop k)≤1048576) (fun a=>(x.args).length-(a.1).toNat) (0,(Cf tb sy)) ⟨0,rfl,zF _,by rw [zC,hfull],hupU,by rw [zC]; dsimp only; omega⟩ (by simp (disch:=omega) only [go_sem,Aa,hMf,hMe,e1,e2,e3,e4,e5,e6,e7,e8,e9,zH,zI,zG,zM]) ?_
      rintro ⟨i,ac⟩ ⟨k,hi,hk,hR⟩
      dsimp only at hi hR
      have hni:i.toNat=k:=by omega
      have hni1:(i+1).toNat=k+1:=by omega
      rcases zE k (x.args).length with hlt | hge
      ·have hg:=get_at Tm.d hlt
       rw [Tm.d_eq] at hg
       obtain ⟨hR1,hR2,hR3⟩:=hR
       rw [zA hlt,Tm.B9,By] at hR1
       rw [zA hlt,Tm.A9] at hR3
       have hc2:=ih x.args[k] (zD hlt) ac false hR2 (by omega)
       have hys:(x.args[k]).sv=.agg [.str (x.args[k]).name,.arr ((x.args[k]).args.map Tm.d)]:=rfl
       rw [hys] at hc2
       have hu2:=BQ ((x.args[k]).sgR false) hR2
       have hl2:=B7 ((x.args[k]).sgR false) ac
       have hs2:=Tm.CS x.args[k] false
       obtain ⟨a2,ok,hr⟩:∃ a2 ok,Ar ac ((x.args[k]).sgR false)=(a2,ok):=⟨_,_,rfl⟩
       rw [hr] at hc2 hR1 hu2 hl2
       dsimp only at hc2 hR1 hu2 hl2
       cases ok with
       | true =>
        rw [cond_true] at hR1
        simp (disch:=omega) only [go_sem,Aa,hni,hg,hc2,Ae]
        refine ⟨(i+1,a2),⟨k+1,by dsimp only; omega,hlt,hR1,hu2,by dsimp only; omega⟩,by dsimp only; omega,?_⟩
        first | done | simp (disch:=omega) only [go_sem,Aa,hni1]
       | false =>
        rw [cond_false] at hR1
        rw [←hR1]
        simp (disch:=omega) only [go_sem,Aa,hni,hg,hc2,Ae]
        first | done | rfl | exact ⟨rfl,rfl⟩
      ·rw [zB hge,Tm.B9] at hR
       obtain ⟨hR1,hR2,hR3⟩:=hR
       have hR1:(ac,true)=full:=hR1
       rw [←hR1]
       simp (disch:=omega) only [go_sem,Aa,hni]
       first | done | rfl | exact ⟨rfl,rfl⟩
   ·rw [hf2,Int.zero_add] at hfind
    have hgm:=Tl.getD hm
    have hnm:((m:Nat):Int).toNat=m:=Int.toNat_natCast m
    have hck:GS tb sy=(!(tb[m].pred == false) || dec ((3:Int)<(x.args.length:Int))):=by unfold GS; rw [hf1,hsa,hsp]
    have hpk:HI tb sy=tb:=by unfold HI; rw [hf1]
    have hupU:=hup
    rw [hck,hpk]
    generalize tb[m].pred=pr at *
    cases h3:dec ((3:Int)<(x.args.length:Int)) with
    | true =>
     rw [Bool.or_true,cond_true]
     cases pr
     all_goals
      refine Ab AL Ae (of_decide_eq_true rfl) ?_
      simp (disch:=omega) only [AC,go_sem,Aa,hv,Aq,heqn,hfind,AI,h3,hgm,hnm,Jf,Jg]
      first | done | rfl | exact ⟨rfl,rfl⟩
    | false =>
     rw [Bool.or_false]
     cases pr with
     | true =>
      rw [show (!(true == false))=true from rfl,cond_true]
      refine Ab AL Ae (of_decide_eq_true rfl) ?_
      simp (disch:=omega) only [AC,go_sem,Aa,hv,Aq,heqn,hfind,AI,h3,hgm,hnm,Jf,Jg]
      first | done | rfl | exact ⟨rfl,rfl⟩
     | false =>
      rw [show (!(false == false))=false from rfl,cond_false]
      refine Ab AL Ae (of_decide_eq_true rfl) ?_
      simp (disch:=omega) only [AC,go_sem,Aa,hv,Aq,heqn,hfind,AI,h3,hgm,hnm,Jf,Jg]
      have hfull:∃ full,full=Ar tb (Tm.B9 x.args):=⟨_,rfl⟩
      obtain ⟨full,hfull⟩:=hfull
      rw [←hfull]
      refine go_loop (α:=Int × (List Tl)) (fun a=>⟨slots 128 0 [(0,.arr ((a.2).map Tl.d)),(4,.ptr 0 0),(12,.int .i64 (a.1))],[.box 45 [.str x.name,.arr (x.args.map Tm.d)]]⟩) (fun a=>∃ k:Nat,a.1=k∧k≤(x.args).length∧Ar (a.2) (Tm.B9 (x.args.drop k))=full∧upT (a.2)∧(a.2).length+Tm.A9 (x.args.drop k)≤1048576) (fun a=>(x.args).length-(a.1).toNat) (0,tb) ⟨0,rfl,zF _,by rw [zC,hfull],hupU,by rw [zC]; dsimp only; omega⟩ (by simp (disch:=omega) only [go_sem,Aa]) ?_
      rintro ⟨i,ac⟩ ⟨k,hi,hk,hR⟩
      dsimp only at hi hR
      have hni:i.toNat=k:=by omega
      have hni1:(i+1).toNat=k+1:=by omega
      rcases zE k (x.args).length with hlt | hge
      ·have hg:=get_at Tm.d hlt
       rw [Tm.d_eq] at hg
       obtain ⟨hR1,hR2,hR3⟩:=hR
       rw [zA hlt,Tm.B9,By] at hR1
       rw [zA hlt,Tm.A9] at hR3
       have hc2:=ih x.args[k] (zD hlt) ac false hR2 (by omega)
       have hys:(x.args[k]).sv=.agg [.str (x.args[k]).name,.arr ((x.args[k]).args.map Tm.d)]:=rfl
       rw [hys] at hc2
       have hu2:=BQ ((x.args[k]).sgR false) hR2
       have hl2:=B7 ((x.args[k]).sgR false) ac
       have hs2:=Tm.CS x.args[k] false
       obtain ⟨a2,ok,hr⟩:∃ a2 ok,Ar ac ((x.args[k]).sgR false)=(a2,ok):=⟨_,_,rfl⟩
       rw [hr] at hc2 hR1 hu2 hl2
       dsimp only at hc2 hR1 hu2 hl2
       cases ok with
       | true =>
        rw [cond_true] at hR1
        simp (disch:=omega) only [go_sem,Aa,hni,hg,hc2,Ae]
        refine ⟨(i+1,a2),⟨k+1,by dsimp only; omega,hlt,hR1,hu2,by dsimp only; omega⟩,by dsimp only; omega,?_⟩
        first | done | simp (disch:=omega) only [go_sem,Aa,hni1]
       | false =>
        rw [cond_false] at hR1
        rw [←hR1]
        simp (disch:=omega) only [go_sem,Aa,hni,hg,hc2,Ae]
        first | done | rfl | exact ⟨rfl,rfl⟩
      ·rw [zB hge,Tm.B9] at hR
       obtain ⟨hR1,hR2,hR3⟩:=hR
       have hR1:(ac,true)=full:=hR1
       rw [←hR1]
       simp (disch:=omega) only [go_sem,Aa,hni]
       first | done | rfl | exact ⟨rfl,rfl⟩
  | true =>
   have heqn:dec (x.name=⟨#[61]⟩)=false:=by simpa using hpe
   have hsn:(Bw x true).name=x.name:=rfl
   have hsa:(Bw x true).arity=(x.args.length:Int):=rfl
   have hsp:(Bw x true).pred=true:=rfl
   have hsv:(Bw x true).vals=[]:=rfl
   have hfind:=MQ tb (Bw x true) (by omega)
   rw [hsn,hsa] at hfind
   generalize Bw x true=sy at *
   have hlo:=Iq sy tb
   rcases Lk (fun t=>B4 t sy) tb 0 with ⟨hf1,hf2⟩ | ⟨m,hm,hf1,hf2⟩
   ·rw [hf2] at hfind
    have hck:GS tb sy=dec ((3:Int)<(x.args.length:Int)):=by unfold GS; rw [hf1,hsa,zV]
    have hpk:HI tb sy=Cf tb sy:=by unfold HI; rw [hf1]
    rw [hck,hpk]
    have hupU:=N4 hup sy
    rw [hpk] at hupU
    have hil:=Gg sy tb
    cases h3:dec ((3:Int)<(x.args.length:Int)) with
    | true =>
     rw [cond_true]
     refine Ab AL Ae (of_decide_eq_true rfl) ?_
     simp (disch:=omega) only [AC,go_sem,Aa,hv,Aq,heqn,hfind,AI,h3]
     first | done | rfl | exact ⟨rfl,rfl⟩
    | false =>
     rw [cond_false]
     refine Ab AL Ae (of_decide_eq_true rfl) ?_
     simp (disch:=omega) only [AC,go_sem,Aa,hv,Aq,heqn,hfind,AI,h3]
     refine go_loop (α:=Int) (fun a=>⟨slots 128 0 [(0,.arr (tb.map Tl.d)),(2,.bool true),(4,.ptr 0 0),(10,.int .i64 a)],[.box 45 [.str x.name,.arr (x.args.map Tm.d)]]⟩) (fun a=>∃ k:Nat,a=k∧k≤(tb).length∧k+Au (tb.drop k) sy=Au tb sy) (fun a=>(tb).length-(a).toNat) 0 ⟨0,rfl,zF _,by rw [zC,Nat.zero_add]⟩ (by simp (disch:=omega) only [go_sem,Aa]) ?_
     rintro i ⟨k,hi,hk,hR⟩
     have hni:i.toNat=k:=by omega
     have hni1:(i+1).toNat=k+1:=by omega
     rcases zE k (tb).length with hlt | hge
     ·have hg:=Tl.getD hlt
      rcases MP hR hlt with ⟨q,hR'⟩ | ⟨q,hk'⟩
      ·rw [Iv,hsn,hsa] at q
       cases s1:strLt tb[k].name x.name with
       | true =>
        have s2:=trivial
        have s3:=trivial
        simp (disch:=omega) only [go_sem,Aa,hni,hg,s1,s2,s3]
        exact ⟨i+1,⟨k+1,by omega,hlt,hR'⟩,by omega,by first | trivial | rfl⟩
       | false =>
        rw [s1,zV,zT] at q
        obtain ⟨s2,s3⟩:=q
        simp (disch:=omega) only [go_sem,Aa,hni,hg,s1,s2,s3]
        exact ⟨i+1,⟨k+1,by omega,hlt,hR'⟩,by omega,by first | trivial | rfl⟩
      ·subst hk'
       rw [Iv,hsn,hsa,z4] at q
       obtain ⟨s1,q⟩:=q
       have e1:=Tl.Kk tb (Au tb sy)
       have e2:=Tl.Kl tb (Au tb sy)
       have e3:=Tl.al4 (tb.take (Au tb sy))
       have e4:=Tl.al4 (tb.drop (Au tb sy))
       have e5:=Tl.U3 tb
       have e6:(tb.map Tl.d).take tb.length=tb.map Tl.d:=zR (by simp)
       have e7:(tb.take (Au tb sy)).length=Au tb sy:=by rw [zZ]; omega
       have e8:(tb.drop (Au tb sy)).length=tb.length-Au tb sy:=z2
       have e9:=N5 x.name (x.args.length:Int) true
       obtain ⟨hMf,hMe⟩:=N6 tb sy hsv ((tb.take (Au tb sy)).map (fun b=>b.d.map D.ot)++([OT.str x.name,OT.int (x.args.length:Int),OT.bool true,OT.ow []] :: (tb.drop (Au tb sy)).map fun b=>b.d.map D.ot)) (by rw [hsn,hsa,hsp]; rfl)
       cases s2:dec (tb[Au tb sy].name=x.name) with
       | false =>
        have s3:=trivial
        simp (disch:=omega) only [go_sem,Aa,hni,hg,s1,s2,s3,e1,e2,e3,e4,e5,e6,e7,e8,e9,zH,zI]
        have hfull:∃ full,full=Ar (Cf tb sy) (Tm.B9 x.args):=⟨_,rfl⟩
        obtain ⟨full,hfull⟩:=hfull
        rw [←hfull]
        refine go_loop (α:=Int × (List Tl)) (fun a=>⟨slots 128 0 [(0,.arr ((a.2).map Tl.d)),(4,.ptr 0 0),(12,.int .i64 (a.1))],[.box 45 [.str x.name,.arr (x.args.map Tm.d)]]⟩) (fun a=>∃ k:Nat,a.1=k∧k≤(x.args).length∧Ar (a.2) (Tm.B9 (x.args.drop k))=full∧upT (a.2)∧(a.2).length+Tm.A9 (x.args.drop k)≤1048576) (fun a=>(x.args).length-(a.1).toNat) (0,(Cf tb sy)) ⟨0,rfl,zF _,by rw [zC,hfull],hupU,by rw [zC]; dsimp only; omega⟩ (by simp (disch:=omega) only [go_sem,Aa,hMf,hMe,e1,e2,e3,e4,e5,e6,e7,e8,e9,zH,zI,zG,zM]) ?_
        rintro ⟨i,ac⟩ ⟨k,hi,hk,hR⟩
        dsimp only at hi hR
        have hni:i.toNat=k:=by omega
        have hni1:(i+1).toNat=k+1:=by omega
        rcases zE k (x.args).length with hlt | hge
        ·have hg:=get_at Tm.d hlt
         rw [Tm.d_eq] at hg
         obtain ⟨hR1,hR2,hR3⟩:=hR
         rw [zA hlt,Tm.B9,By] at hR1
         rw [zA hlt,Tm.A9] at hR3
         have hc2:=ih x.args[k] (zD hlt) ac false hR2 (by omega)
         have hys:(x.args[k]).sv=.agg [.str (x.args[k]).name,.arr ((x.args[k]).args.map Tm.d)]:=rfl
         rw [hys] at hc2
         have hu2:=BQ ((x.args[k]).sgR false) hR2
         have hl2:=B7 ((x.args[k]).sgR false) ac
         have hs2:=Tm.CS x.args[k] false
         obtain ⟨a2,ok,hr⟩:∃ a2 ok,Ar ac ((x.args[k]).sgR false)=(a2,ok):=⟨_,_,rfl⟩
         rw [hr] at hc2 hR1 hu2 hl2
         dsimp only at hc2 hR1 hu2 hl2
         cases ok with
         | true =>
          rw [cond_true] at hR1
          simp (disch:=omega) only [go_sem,Aa,hni,hg,hc2,Ae]
          refine ⟨(i+1,a2),⟨k+1,by dsimp only; omega,hlt,hR1,hu2,by dsimp only; omega⟩,by dsimp only; omega,?_⟩
          first | done | simp (disch:=omega) only [go_sem,Aa,hni1]
         | false =>
          rw [cond_false] at hR1
          rw [←hR1]
          simp (disch:=omega) only [go_sem,Aa,hni,hg,hc2,Ae]
          first | done | rfl | exact ⟨rfl,rfl⟩
        ·rw [zB hge,Tm.B9] at hR
         obtain ⟨hR1,hR2,hR3⟩:=hR
         have hR1:(ac,true)=full:=hR1
         rw [←hR1]
         simp (disch:=omega) only [go_sem,Aa,hni]
         first | done | rfl | exact ⟨rfl,rfl⟩
       | true =>
        rw [s2,z8] at q
        have s3:=q
        simp (disch:=omega) only [go_sem,Aa,hni,hg,s1,s2,s3,e1,e2,e3,e4,e5,e6,e7,e8,e9,zH,zI]
        have hfull:∃ full,full=Ar (Cf tb sy) (Tm.B9 x.args):=⟨_,rfl⟩
        obtain ⟨full,hfull⟩:=hfull
        rw [←hfull]
        refine go_loop (α:=Int × (List Tl)) (fun a=>⟨slots 128 0 [(0,.arr ((a.2).map Tl.d)),(4,.ptr 0 0),(12,.int .i64 (a.1))],[.box 45 [.str x.name,.arr (x.args.map Tm.d)]]⟩) (fun a=>∃ k:Nat,a.1=k∧k≤(x.args).length∧Ar (a.2) (Tm.B9 (x.args.drop k))=full∧upT (a.2)∧(a.2).length+Tm.A9 (x.args.drop k)≤1048576) (fun a=>(x.args).length-(a.1).toNat) (0,(Cf tb sy)) ⟨0,rfl,zF _,by rw [zC,hfull],hupU,by rw [zC]; dsimp only; omega⟩ (by simp (disch:=omega) only [go_sem,Aa,hMf,hMe,e1,e2,e3,e4,e5,e6,e7,e8,e9,zH,zI,zG,zM]) ?_
        rintro ⟨i,ac⟩ ⟨k,hi,hk,hR⟩
        dsimp only at hi hR
        have hni:i.toNat=k:=by omega
        have hni1:(i+1).toNat=k+1:=by omega
        rcases zE k (x.args).length with hlt | hge
        ·have hg:=get_at Tm.d hlt
         rw [Tm.d_eq] at hg
         obtain ⟨hR1,hR2,hR3⟩:=hR
         rw [zA hlt,Tm.B9,By] at hR1
         rw [zA hlt,Tm.A9] at hR3
         have hc2:=ih x.args[k] (zD hlt) ac false hR2 (by omega)
         have hys:(x.args[k]).sv=.agg [.str (x.args[k]).name,.arr ((x.args[k]).args.map Tm.d)]:=rfl
         rw [hys] at hc2
         have hu2:=BQ ((x.args[k]).sgR false) hR2
         have hl2:=B7 ((x.args[k]).sgR false) ac
         have hs2:=Tm.CS x.args[k] false
         obtain ⟨a2,ok,hr⟩:∃ a2 ok,Ar ac ((x.args[k]).sgR false)=(a2,ok):=⟨_,_,rfl⟩
         rw [hr] at hc2 hR1 hu2 hl2
         dsimp only at hc2 hR1 hu2 hl2
         cases ok with
         | true =>
          rw [cond_true] at hR1
          simp (disch:=omega) only [go_sem,Aa,hni,hg,hc2,Ae]
          refine ⟨(i+1,a2),⟨k+1,by dsimp only; omega,hlt,hR1,hu2,by dsimp only; omega⟩,by dsimp only; omega,?_⟩
          first | done | simp (disch:=omega) only [go_sem,Aa,hni1]
         | false =>
          rw [cond_false] at hR1
          rw [←hR1]
          simp (disch:=omega) only [go_sem,Aa,hni,hg,hc2,Ae]
          first | done | rfl | exact ⟨rfl,rfl⟩
        ·rw [zB hge,Tm.B9] at hR
         obtain ⟨hR1,hR2,hR3⟩:=hR
         have hR1:(ac,true)=full:=hR1
         rw [←hR1]
         simp (disch:=omega) only [go_sem,Aa,hni]
         first | done | rfl | exact ⟨rfl,rfl⟩
     ·have hk2:tb.length=Au tb sy:=by
       obtain rfl:k=tb.length:=by omega
       rw [←hR,zB (zX _)]; simp [Au]
      obtain rfl:k=Au tb sy:=by omega
      have e1:=Tl.Kk tb (Au tb sy)
      have e2:=Tl.Kl tb (Au tb sy)
      have e3:=Tl.al4 (tb.take (Au tb sy))
      have e4:=Tl.al4 (tb.drop (Au tb sy))
      have e5:=Tl.U3 tb
      have e6:(tb.map Tl.d).take tb.length=tb.map Tl.d:=zR (by simp)
      have e7:(tb.take (Au tb sy)).length=Au tb sy:=by rw [zZ]; omega
      have e8:(tb.drop (Au tb sy)).length=tb.length-Au tb sy:=z2
      have e9:=N5 x.name (x.args.length:Int) true
      obtain ⟨hMf,hMe⟩:=N6 tb sy hsv ((tb.take (Au tb sy)).map (fun b=>b.d.map D.ot)++([OT.str x.name,OT.int (x.args.length:Int),OT.bool true,OT.ow []] :: (tb.drop (Au tb sy)).map fun b=>b.d.map D.ot)) (by rw [hsn,hsa,hsp]; rfl)
      simp (disch:=omega) only [go_sem,Aa,hni,e1,e2,e3,e4,e5,e6,e7,e8,e9,zH,zI]
      have hfull:∃ full,full=Ar (Cf tb sy) (Tm.B9 x.args):=⟨_,rfl⟩
      obtain ⟨full,hfull⟩:=hfull
      rw [←hfull]
      refine go_loop (α:=Int × (List Tl)) (fun a=>⟨slots 128 0 [(0,.arr ((a.2).map Tl.d)),(4,.ptr 0 0),(12,.int .i64 (a.1))],[.box 45 [.str x.name,.arr (x.args.map Tm.d)]]⟩) (fun a=>∃ k:Nat,a.1=k∧k≤(x.args).length∧Ar (a.2) (Tm.B9 (x.args.drop k))=full∧upT (a.2)∧(a.2).length+Tm.A9 (x.args.drop k)≤1048576) (fun a=>(x.args).length-(a.1).toNat) (0,(Cf tb sy)) ⟨0,rfl,zF _,by rw [zC,hfull],hupU,by rw [zC]; dsimp only; omega⟩ (by simp (disch:=omega) only [go_sem,Aa,hMf,hMe,e1,e2,e3,e4,e5,e6,e7,e8,e9,zH,zI,zG,zM]) ?_
      rintro ⟨i,ac⟩ ⟨k,hi,hk,hR⟩
      dsimp only at hi hR
      have hni:i.toNat=k:=by omega
      have hni1:(i+1).toNat=k+1:=by omega
      rcases zE k (x.args).length with hlt | hge
      ·have hg:=get_at Tm.d hlt
       rw [Tm.d_eq] at hg
       obtain ⟨hR1,hR2,hR3⟩:=hR
       rw [zA hlt,Tm.B9,By] at hR1
       rw [zA hlt,Tm.A9] at hR3
       have hc2:=ih x.args[k] (zD hlt) ac false hR2 (by omega)
       have hys:(x.args[k]).sv=.agg [.str (x.args[k]).name,.arr ((x.args[k]).args.map Tm.d)]:=rfl
       rw [hys] at hc2
       have hu2:=BQ ((x.args[k]).sgR false) hR2
       have hl2:=B7 ((x.args[k]).sgR false) ac
       have hs2:=Tm.CS x.args[k] false
       obtain ⟨a2,ok,hr⟩:∃ a2 ok,Ar ac ((x.args[k]).sgR false)=(a2,ok):=⟨_,_,rfl⟩
       rw [hr] at hc2 hR1 hu2 hl2
       dsimp only at hc2 hR1 hu2 hl2
       cases ok with
       | true =>
        rw [cond_true] at hR1
        simp (disch:=omega) only [go_sem,Aa,hni,hg,hc2,Ae]
        refine ⟨(i+1,a2),⟨k+1,by dsimp only; omega,hlt,hR1,hu2,by dsimp only; omega⟩,by dsimp only; omega,?_⟩
        first | done | simp (disch:=omega) only [go_sem,Aa,hni1]
       | false =>
        rw [cond_false] at hR1
        rw [←hR1]
        simp (disch:=omega) only [go_sem,Aa,hni,hg,hc2,Ae]
        first | done | rfl | exact ⟨rfl,rfl⟩
      ·rw [zB hge,Tm.B9] at hR
       obtain ⟨hR1,hR2,hR3⟩:=hR
       have hR1:(ac,true)=full:=hR1
       rw [←hR1]
       simp (disch:=omega) only [go_sem,Aa,hni]
       first | done | rfl | exact ⟨rfl,rfl⟩
   ·rw [hf2,Int.zero_add] at hfind
    have hgm:=Tl.getD hm
    have hnm:((m:Nat):Int).toNat=m:=Int.toNat_natCast m
    have hck:GS tb sy=(!(tb[m].pred == true) || dec ((3:Int)<(x.args.length:Int))):=by unfold GS; rw [hf1,hsa,hsp]
    have hpk:HI tb sy=tb:=by unfold HI; rw [hf1]
    have hupU:=hup
    rw [hck,hpk]
    generalize tb[m].pred=pr at *
    cases h3:dec ((3:Int)<(x.args.length:Int)) with
    | true =>
     rw [Bool.or_true,cond_true]
     cases pr
     all_goals
      refine Ab AL Ae (of_decide_eq_true rfl) ?_
      simp (disch:=omega) only [AC,go_sem,Aa,hv,Aq,heqn,hfind,AI,h3,hgm,hnm,Jf,Jg]
      first | done | rfl | exact ⟨rfl,rfl⟩
    | false =>
     rw [Bool.or_false]
     cases pr with
     | false =>
      rw [show (!(false == true))=true from rfl,cond_true]
      refine Ab AL Ae (of_decide_eq_true rfl) ?_
      simp (disch:=omega) only [AC,go_sem,Aa,hv,Aq,heqn,hfind,AI,h3,hgm,hnm,Jf,Jg]
      first | done | rfl | exact ⟨rfl,rfl⟩
     | true =>
      rw [show (!(true == true))=false from rfl,cond_false]
      refine Ab AL Ae (of_decide_eq_true rfl) ?_
      simp (disch:=omega) only [AC,go_sem,Aa,hv,Aq,heqn,hfind,AI,h3,hgm,hnm,Jf,Jg]
      have hfull:∃ full,full=Ar tb (Tm.B9 x.args):=⟨_,rfl⟩
      obtain ⟨full,hfull⟩:=hfull
      rw [←hfull]
      refine go_loop (α:=Int × (List Tl)) (fun a=>⟨slots 128 0 [(0,.arr ((a.2).map Tl.d)),(4,.ptr 0 0),(12,.int .i64 (a.1))],[.box 45 [.str x.name,.arr (x.args.map Tm.d)]]⟩) (fun a=>∃ k:Nat,a.1=k∧k≤(x.args).length∧Ar (a.2) (Tm.B9 (x.args.drop k))=full∧upT (a.2)∧(a.2).length+Tm.A9 (x.args.drop k)≤1048576) (fun a=>(x.args).length-(a.1).toNat) (0,tb) ⟨0,rfl,zF _,by rw [zC,hfull],hupU,by rw [zC]; dsimp only; omega⟩ (by simp (disch:=omega) only [go_sem,Aa]) ?_
      rintro ⟨i,ac⟩ ⟨k,hi,hk,hR⟩
      dsimp only at hi hR
      have hni:i.toNat=k:=by omega
      have hni1:(i+1).toNat=k+1:=by omega
      rcases zE k (x.args).length with hlt | hge
      ·have hg:=get_at Tm.d hlt
       rw [Tm.d_eq] at hg
       obtain ⟨hR1,hR2,hR3⟩:=hR
       rw [zA hlt,Tm.B9,By] at hR1
       rw [zA hlt,Tm.A9] at hR3
       have hc2:=ih x.args[k] (zD hlt) ac false hR2 (by omega)
       have hys:(x.args[k]).sv=.agg [.str (x.args[k]).name,.arr ((x.args[k]).args.map Tm.d)]:=rfl
       rw [hys] at hc2
       have hu2:=BQ ((x.args[k]).sgR false) hR2
       have hl2:=B7 ((x.args[k]).sgR false) ac
       have hs2:=Tm.CS x.args[k] false
       obtain ⟨a2,ok,hr⟩:∃ a2 ok,Ar ac ((x.args[k]).sgR false)=(a2,ok):=⟨_,_,rfl⟩
       rw [hr] at hc2 hR1 hu2 hl2
       dsimp only at hc2 hR1 hu2 hl2
       cases ok with
       | true =>
        rw [cond_true] at hR1
        simp (disch:=omega) only [go_sem,Aa,hni,hg,hc2,Ae]
        refine ⟨(i+1,a2),⟨k+1,by dsimp only; omega,hlt,hR1,hu2,by dsimp only; omega⟩,by dsimp only; omega,?_⟩
        first | done | simp (disch:=omega) only [go_sem,Aa,hni1]
       | false =>
        rw [cond_false] at hR1
        rw [←hR1]
        simp (disch:=omega) only [go_sem,Aa,hni,hg,hc2,Ae]
        first | done | rfl | exact ⟨rfl,rfl⟩
      ·rw [zB hge,Tm.B9] at hR
       obtain ⟨hR1,hR2,hR3⟩:=hR
       have hR1:(ac,true)=full:=hR1
       rw [←hR1]
       simp (disch:=omega) only [go_sem,Aa,hni]
       first | done | rfl | exact ⟨rfl,rfl⟩
theorem Ln (x:Tm):VD x:=RE x fun y hy=>Ln y
termination_by SizeOf.sizeOf x
decreasing_by exact Tm.Av hy
noncomputable def Lo:List Lt→List Tl
 | []=>[]
 | l :: ls=>l.atom.sgR true++Lo ls
noncomputable def OR:List Cl→List Tl
 | []=>[]
 | c :: cs=>Lo c.lits++OR cs
noncomputable def OS:List Tl→List Cl→Option (List Tl)
 | a,[]=>some a
 | a,c :: cs=>bif c.ok then (bif (Ar a (Lo c.lits)).2 then OS (Ar a (Lo c.lits)).1 cs else none) else none
noncomputable def To (cs:List Cl):Option (List Tl):=bif dec (30 < cs.length) then none else match OS [] cs with
 | some a=>bif dec (12 < a.length) then none else some a
 | none=>none
theorem QH:∀ (cs:List Cl) (a:List Tl),OS a cs=bif cs.all (fun c=>c.ok) then (bif (Ar a (OR cs)).2 then some (Ar a (OR cs)).1 else none) else none
 | [],a=>rfl
 | c :: cs,a=>by
  rw [OS,List.all_cons,OR,By]
  cases c.ok with
  | false=>rfl
  | true =>
   rw [cond_true,z8]
   cases h:(Ar a (Lo c.lits)).2 with
   | true=>rw [cond_true,cond_true]; exact QH cs _
   | false =>
    rw [cond_false,cond_false,h,cond_false]
    cases cs.all (fun c=>c.ok) <;> rfl
theorem Tm.OU:∀ (x:Tm) (p:Bool),∀ t∈x.sgI p,t.vals=[]
 | x,p,t,h=>by
  rw [Tm.Jb,zK,Tm.EV] at h
  rcases h with ⟨z,hz,h⟩ | h
  ·exact Tm.OU z false t h
  ·revert h
   cases (dec (x.name=⟨#[61]⟩) || AY x.name) with
   | true=>intro h; cases h
   | false=>intro h; rw [cond_false,List.mem_singleton] at h; rw [h]; rfl
termination_by x=>SizeOf.sizeOf x
decreasing_by exact Tm.Av hz
theorem MR:∀ (ls:List Lt),∀ t∈JO ls,t.vals=[]
 | [],t,h=>by cases h
 | l :: ls,t,h=>by
  rw [JO,zK] at h
  rcases h with h | h
  ·exact Tm.OU _ _ t h
  ·exact MR ls t h
theorem GO:∀ (cs:List Cl),∀ t∈GR cs,t.vals=[]
 | [],t,h=>by cases h
 | c :: cs,t,h=>by
  rw [GR,zK] at h
  rcases h with h | h
  ·exact MR _ t h
  ·exact GO cs t h
theorem QI (y:Tl):∀ (ls:List Lt),(∀ l∈ls,l.atom.atom=true)→(y∈JO ls ↔ y∈Lo ls)
 | [],_=>Iff.rfl
 | l :: ls,h=>by
  rw [JO,Lo,zK,zK,U0 l.atom (Tm.GN (h l (by simp))) y,QI y ls fun m hm=>h m (by simp [hm])]
theorem QJ (y:Tl):∀ (cs:List Cl),(∀ c∈cs,c.ok=true)→(y∈GR cs ↔ y∈OR cs)
 | [],_=>Iff.rfl
 | c :: cs,h=>by
  have hc:∀ l∈c.lits,l.atom.atom=true:=fun l hl=>by
   obtain ⟨k,hk,rfl⟩:=zU hl
   exact Cl.QG (h c (by simp)) hk
  rw [GR,OR,zK,zK,QI y c.lits hc,QJ y cs fun m hm=>h m (by simp [hm])]
theorem U4 (cs:List Cl):To cs=Hm cs:=by
 unfold To Hm Gm
 cases dec (30<cs.length) with
 | true=>rfl
 | false =>
  rw [cond_false,zV,QH]
  have hna:(cs.any fun c=>!c.ok)=!(cs.all fun c=>c.ok):=by rw [List.not_all_eq_any_not]
  rw [hna]
  cases hall:cs.all fun c=>c.ok with
  | false=>rfl
  | true =>
   rw [cond_true,Bool.not_true,cond_false]
   rw [List.all_eq_true] at hall
   have hp:=Uz (GO cs) (S':=OR cs) fun y=>QJ y cs hall
   obtain ⟨h1,h2⟩:=MO (OR cs) []
   cases hf:(A7 ([],false) (GR cs)).2 with
   | true =>
    rw [←hp.1,hf] at h1
    rw [h1]; rfl
   | false =>
    rw [←hp.1,hf] at h1
    have e:=h2 h1
    rw [h1,Bool.not_false,cond_true,e,← hp.2 hf,zV]
def CH:SC:=(.seq (.reg [⟨some 2,none,.mv (.c .nil)⟩,⟨some 3,none,.mv (.c (.bool false))⟩]) (.seq (.reg [⟨(some 8),none,(.mkrow 57 4 [(.str ⟨#[]⟩),(.int .i64 0),(.bool false),.nil] 0 [])⟩,⟨some 4,none,.mv (.t 8)⟩]) (.seq (.seq (.reg [⟨some 9,none,.mv (.t 0)⟩,⟨some 10,none,.len false (.t 9)⟩,⟨some 11,none,.bin .gtr false (.t 10) (.c (.int .i64 30))⟩]) (.cond (.t 11) (.seq (.reg [⟨some 12,none,.mv (.t 4)⟩,⟨some 2,none,.mv (.t 12)⟩,⟨some 3,none,.mv (.c (.bool false))⟩]) .ret) .skip)) (.seq (.reg [⟨some 5,none,.mv (.c (.bool true))⟩]) (.seq (.seq (.reg [⟨some 6,none,.mv (.c (.int .i64 0))⟩]) (.block 0 (.loop [1,0,0,0,1,0,1,0,0,0,0,0,0,0,0,0,0,0,0,0,0,0,0,0,0,0,0,0,0,0,0,0,0,0,0,0,0,0,0,0,0,0,0,0,0,0,0,0,0,0,0,0,0,0,0,0,0,0] (.seq (.seq (.reg [⟨some 13,none,.mv (.t 6)⟩,⟨some 14,none,.mv (.t 0)⟩,⟨some 15,none,.len false (.t 14)⟩,⟨some 16,none,.bin .lss false (.t 13) (.t 15)⟩]) (.cond (.t 16) .skip (.exit 0))) (.seq (.block 1 (.seq (.seq (.reg [⟨some 19,none,.mv (.t 0)⟩,⟨some 20,none,.mv (.t 6)⟩,⟨some 21,none,.iaddr 1 (.t 19) (.t 20)⟩,⟨some 22,none,.load true 1 (.t 21)⟩,⟨some 23,none,.call 14 [(.t 22)]⟩,⟨some 24,none,.un .not (.t 23)⟩]) (.cond (.t 24) (.seq (.reg [⟨(some 25),none,(.mkrow 57 4 [(.str ⟨#[]⟩),(.int .i64 0),(.bool false),.nil] 0 [])⟩,⟨some 2,none,.mv (.t 25)⟩,⟨some 3,none,.mv (.c (.bool false))⟩]) .ret) .skip)) (.seq (.reg [⟨some 7,none,.mv (.c (.int .i64 0))⟩]) (.block 2 (.loop [1,0,0,0,1,0,1,1,0,0,0,0,0,0,0,0,0,0,0,0,0,0,0,0,0,0,0,0,0,0,0,0,0,0,0,0,0,0,0,0,0,0,0,0,0,0,0,0,0,0,0,0,0,0,0,0,0,0] (.seq (.seq (.reg [⟨some 26,none,.mv (.t 7)⟩,⟨some 27,none,.mv (.t 0)⟩,⟨some 28,none,.mv (.t 6)⟩,⟨some 29,none,.iaddr 1 (.t 27) (.t 28)⟩,⟨some 30,none,.faddr 0 (.t 29)⟩,⟨some 31,none,.load false 1 (.t 30)⟩,⟨some 32,none,.len false (.t 31)⟩,⟨some 33,none,.bin .lss false (.t 26) (.t 32)⟩]) (.cond (.t 33) .skip (.exit 2))) (.seq (.block 3 (.seq (.reg [⟨some 37,none,.mv (.t 4)⟩,⟨some 38,none,.mv (.t 0)⟩,⟨some 39,none,.mv (.t 6)⟩,⟨some 40,none,.iaddr 1 (.t 38) (.t 39)⟩,⟨some 41,none,.faddr 0 (.t 40)⟩,⟨some 42,none,.load false 1 (.t 41)⟩,⟨some 43,none,.mv (.t 7)⟩,⟨some 44,none,.iaddr 3 (.t 42) (.t 43)⟩,⟨some 45,none,.faddr 1 (.t 44)⟩,⟨some 46,none,.load true 2 (.t 45)⟩,⟨some 47,none,.call 15 [(.t 37),(.t 46),(.c (.bool true))]⟩,⟨some 36,none,.mv (.t 47)⟩,⟨some 48,none,.ext (.t 36) 0⟩,⟨some 49,none,.ext (.t 36) 1⟩,⟨some 4,none,.mv (.t 48)⟩,⟨some 5,none,.mv (.t 49)⟩]) (.seq (.reg [⟨some 50,none,.mv (.t 5)⟩,⟨some 51,none,.un .not (.t 50)⟩]) (.cond (.t 51) (.seq (.reg [⟨(some 52),none,(.mkrow 57 4 [(.str ⟨#[]⟩),(.int .i64 0),(.bool false),.nil] 0 [])⟩,⟨some 2,none,.mv (.t 52)⟩,⟨some 3,none,.mv (.c (.bool false))⟩]) .ret) .skip)))) (.reg [⟨some 34,none,.mv (.t 7)⟩,⟨some 35,none,.bin .add false (.t 34) (.c (.int .i64 1))⟩,⟨some 7,none,.mv (.t 35)⟩])))))))) (.reg [⟨some 17,none,.mv (.t 6)⟩,⟨some 18,none,.bin .add false (.t 17) (.c (.int .i64 1))⟩,⟨some 6,none,.mv (.t 18)⟩])))))) (.seq (.seq (.reg [⟨some 53,none,.mv (.t 4)⟩,⟨some 54,none,.len false (.t 53)⟩,⟨some 55,none,.bin .gtr false (.t 54) (.c (.int .i64 12))⟩]) (.cond (.t 55) (.seq (.reg [⟨(some 56),none,(.mkrow 57 4 [(.str ⟨#[]⟩),(.int .i64 0),(.bool false),.nil] 0 [])⟩,⟨some 2,none,.mv (.t 56)⟩,⟨some 3,none,.mv (.c (.bool false))⟩]) .ret) .skip)) (.seq (.reg [⟨some 57,none,.mv (.t 4)⟩,⟨some 2,none,.mv (.t 57)⟩,⟨some 3,none,.mv (.c (.bool true))⟩]) .ret)))))))
theorem Ed:Aj Try.prog 5=some ⟨58,CH,[(.tmp 2),(.tmp 3)]⟩:=by kernel_rfl
theorem Bo:modes 5=⟨[],.frl [11],none,false⟩:=by unfold modes; rfl
theorem Iw (cs:List Cl) (hl:cs.length≤1048576) (hx:∀ x∈cs,x.tame):E 5 [.arr (cs.map Cl.d)] []=some (.tup [.arr (((To cs).getD []).map Tl.d),.bool (To cs).isSome],[]):=by
 have hm0:([]:List Tl).map Tl.d=[]:=rfl
 unfold To
 rcases zE 30 cs.length with h30 | h30
 ·have hq:dec ((30:Int)<(cs.length:Int))=true:=AM (by omega)
  rw [AM h30,cond_true]
  refine Ab Ed Bo (of_decide_eq_true rfl) ?_
  simp (disch:=omega) only [CH,go_sem,Aa,hq]
  first | done | rfl | exact ⟨rfl,rfl⟩
 have hq:dec ((30:Int)<(cs.length:Int))=false:=AG (by omega)
 rw [AG (Nat.not_lt.2 h30),cond_false]
 obtain ⟨full,hfull⟩:∃ full,full=OS [] cs:=⟨_,rfl⟩
 rw [←hfull]
 refine Ab Ed Bo (of_decide_eq_true rfl) ?_
 simp (disch:=omega) only [CH,go_sem,Aa,hq]
 refine go_loop (α:=Int × (List Tl)) (fun a=>⟨slots 58 0 [(0,.arr (cs.map Cl.d)),(4,.arr ((a.2).map Tl.d)),(6,.int .i64 (a.1))],[]⟩) (fun a=>∃ k:Nat,a.1=k∧k≤(cs).length∧OS (a.2) (cs.drop k)=full∧upT (a.2)∧(a.2).length+240*(cs.length-k)≤7200) (fun a=>(cs).length-(a.1).toNat) (0,[]) ⟨0,rfl,zF _,by rw [zC]; exact hfull.symm,List.Pairwise.nil,by simp only [zM]; omega⟩ (by simp (disch:=omega) only [go_sem,Aa,hm0]) ?_
 rintro ⟨i,ac⟩ ⟨k,hi,hk,hR⟩
 dsimp only at hi hR
 have hni:i.toNat=k:=by omega
 have hni1:(i+1).toNat=k+1:=by omega
 rcases zE k (cs).length with hlt | hge
 ·have hg:=get_at Cl.d hlt
  rw [Cl.d_eq] at hg
  obtain ⟨hR1,hR2,hR3⟩:=hR
  rw [zA hlt,OS] at hR1
  have hgd:=Tj cs[k] (hx _ (zD hlt))
  have hsv:(cs[k]).sv=.agg [.arr ((cs[k]).lits.map Lt.d)]:=rfl
  rw [hsv] at hgd
  obtain ⟨c,hcd⟩:∃ c,c=cs[k]:=⟨_,rfl⟩
  rw [←hcd] at hg hR1 hgd
  cases hck:c.ok with
  | false =>
   rw [hck] at hR1 hgd
   rw [cond_false] at hR1
   rw [←hR1]
   simp (disch:=omega) only [go_sem,Aa,hni,hg,hgd,Dp]
   first | done | rfl | exact ⟨rfl,rfl⟩
  | true =>
  rw [hck] at hR1 hgd
  rw [cond_true] at hR1
  have hc8:=Cl.Tk hck
  obtain ⟨left,hleft⟩:∃ n:Nat,n=240*(cs.length-(k+1)):=⟨_,rfl⟩
  have hleft0:240*(cs.length-k)=240+left:=by omega
  rw [hleft0] at hR3
  obtain ⟨io,hio⟩:∃ io,io=i:=⟨_,rfl⟩
  subst hio
  obtain ⟨ko,hko⟩:∃ ko,ko=k:=⟨_,rfl⟩
  subst hko
  obtain ⟨a0,ha0⟩:∃ a0,a0=ac:=⟨_,rfl⟩
  subst ha0
  have hlto:=hlt
  have hnio:=hni
  have hio1:=hni1
  have hgo:=hg
  have hR1o:=hR1
  obtain ⟨run,hrun⟩:∃ r,r=Ar a0 (Lo c.lits):=⟨_,rfl⟩
  rw [←hrun] at hR1o
  clear hR1
  simp (disch:=omega) only [go_sem,Aa,hni,hg,hgd,Dp]
  refine go_loop (α:=Int × (List Tl)) (fun a=>⟨slots 58 0 [(0,.arr (cs.map Cl.d)),(4,.arr ((a.2).map Tl.d)),(6,.int .i64 io),(7,.int .i64 (a.1))],[]⟩) (fun a=>∃ k:Nat,a.1=k∧k≤(c.lits).length∧Ar (a.2) (Lo (c.lits.drop k))=run∧upT (a.2)∧(a.2).length+(30*(c.lits.length-k)+left)≤7200) (fun a=>(c.lits).length-(a.1).toNat) (0,a0) ⟨0,rfl,zF _,by rw [zC]; exact hrun.symm,hR2,by dsimp only; omega⟩ (by simp (disch:=omega) only [go_sem,Aa]) ?_
  rintro ⟨i,ac⟩ ⟨k,hi,hk,hR⟩
  dsimp only at hi hR
  have hni:i.toNat=k:=by omega
  have hni1:(i+1).toNat=k+1:=by omega
  rcases zE k (c.lits).length with hlt | hge
  ·have hgt:=get_at Lt.d hlt
   rw [Lt.d_eq] at hgt
   obtain ⟨hR1,hR2',hR3'⟩:=hR
   rw [zA hlt,Lo,By] at hR1
   have hat:=Cl.QG hck hlt
   have hnod:=Tm.KX (Tm.GN hat)
   have hys:(c.lits[k]).atom.sv=.agg [.str (c.lits[k]).atom.name,.arr ((c.lits[k]).atom.args.map Tm.d)]:=rfl
   have hc2:=Ln (c.lits[k]).atom ac true hR2' (by omega)
   rw [hys] at hc2
   have hu2:=BQ ((c.lits[k]).atom.sgR true) hR2'
   have hl2:=B7 ((c.lits[k]).atom.sgR true) ac
   have hs2:=Tm.CS (c.lits[k]).atom true
   obtain ⟨a2,ok,hr⟩:∃ a2 ok,Ar ac ((c.lits[k]).atom.sgR true)=(a2,ok):=⟨_,_,rfl⟩
   rw [hr] at hc2 hR1 hu2 hl2
   dsimp only at hc2 hR1 hu2 hl2
   cases ok with
   | true =>
    rw [cond_true] at hR1
    simp (disch:=omega) only [go_sem,Aa,hni,hnio,hgo,hgt,hc2,Ae]
    refine ⟨(i+1,a2),⟨k+1,by dsimp only; omega,hlt,hR1,hu2,by dsimp only; omega⟩,by dsimp only; omega,?_⟩
    first | done | simp (disch:=omega) only [go_sem,Aa]
   | false =>
    rw [cond_false] at hR1
    rw [←hR1] at hR1o
    dsimp only at hR1o
    rw [cond_false] at hR1o
    rw [←hR1o]
    simp (disch:=omega) only [go_sem,Aa,hni,hnio,hgo,hgt,hc2,Ae]
    first | done | rfl | exact ⟨rfl,rfl⟩
  ·rw [zB hge,Lo] at hR
   obtain ⟨hR1,hR2',hR3'⟩:=hR
   have hR1:(ac,true)=run:=hR1
   rw [←hR1] at hR1o
   dsimp only at hR1o
   rw [cond_true] at hR1o
   simp (disch:=omega) only [go_sem,Aa,hni,hnio,hgo]
   refine ⟨(io+1,ac),⟨ko+1,by dsimp only; omega,hlto,hR1o,hR2',by dsimp only; omega⟩,by dsimp only; omega,?_⟩
   first | done | simp (disch:=omega) only [go_sem,Aa]
 ·rw [zB hge,OS] at hR
  obtain ⟨hR1,hR2,hR3⟩:=hR
  rw [←hR1]
  dsimp only
  rcases zE 12 ac.length with q2 | q2
  ·have q3:dec ((12:Int)<(ac.length:Int))=true:=AM (by omega)
   rw [AM q2,cond_true]
   simp (disch:=omega) only [go_sem,Aa,hni,q3]
   first | done | rfl | exact ⟨rfl,rfl⟩
  ·have q3:dec ((12:Int)<(ac.length:Int))=false:=AG (by omega)
   rw [AG (Nat.not_lt.2 q2),cond_false]
   simp (disch:=omega) only [go_sem,Aa,hni,q3]
   first | done | rfl | exact ⟨rfl,rfl⟩
def In.wtS (xs:List Int):Nat:=xs.length
noncomputable def In.mkS:List Int→Int→List Int × Int
 | [],k=>([],k)
 | _ :: xs,k=>(k :: (In.mkS xs (k+1)).1,(In.mkS xs (k+1)).2)
theorem In.mkS_end:∀ (xs:List Int) (k:Int),(In.mkS xs k).2=k+In.wtS xs
 | [],k=>by simp [In.mkS,In.wtS]
 | x :: xs,k=>by
  have h:=In.mkS_end xs (k+1)
  unfold In.wtS at h ⊢
  rw [In.mkS]
  simp only [zG]
  omega
theorem In.mkS_len:∀ (xs:List Int) (k:Int),(In.mkS xs k).1.length=xs.length
 | [],k=>by rw [In.mkS]
 | x :: xs,k=>by rw [In.mkS]; simp only [zG]; rw [In.mkS_len xs]
theorem In.wtS_bulk (xs:List Int):In.wtS xs≤5*xs.length:=by
 unfold In.wtS
 omega
def F2:SC:=(.seq (.reg [⟨some 4,none,.mv (.c (.int .i64 0))⟩]) (.seq (.seq (.reg [⟨some 5,none,.mv (.c (.int .i64 0))⟩]) (.block 0 (.loop [1,1,0,0,0,1,0,0,0,0,0,0,0,0,0,0,0,0,0] (.seq (.seq (.reg [⟨some 6,none,.mv (.t 5)⟩,⟨some 7,none,.mv (.t 0)⟩,⟨some 8,none,.len false (.t 7)⟩,⟨some 9,none,.bin .lss false (.t 6) (.t 8)⟩]) (.cond (.t 9) .skip (.exit 0))) (.seq (.block 1 (.seq (.reg [⟨some 12,none,.mv (.t 0)⟩,⟨some 13,none,.mv (.t 5)⟩,⟨some 14,none,.mv (.t 1)⟩,⟨some 15,none,.iaddr 1 (.t 12) (.t 13)⟩,⟨none,none,(.store 1 (.t 15) (.t 14))⟩]) (.reg [⟨some 16,none,.mv (.t 1)⟩,⟨some 17,none,.bin .add false (.t 16) (.c (.int .i64 1))⟩,⟨some 1,none,.mv (.t 17)⟩]))) (.reg [⟨some 10,none,.mv (.t 5)⟩,⟨some 11,none,.bin .add false (.t 10) (.c (.int .i64 1))⟩,⟨some 5,none,.mv (.t 11)⟩])))))) (.seq (.reg [⟨some 18,none,.mv (.t 1)⟩,⟨some 4,none,.mv (.t 18)⟩]) .ret)))
theorem JP:Aj Try.prog 25=some ⟨19,F2,[(.tmp 4)]⟩:=by kernel_rfl
theorem F3:modes 25=⟨[true],.asis,none,true⟩:=by unfold modes; rfl
abbrev PX (xs:List Int):Prop:=∀ (k:Int) (ob:List Ob),1≤k→k+In.wtS xs≤1099511627776→toTree ob=[.tree (xs.map (fun s=>[OT.int s])) []]→E 25 [.ref 0,.int .i64 k] ob=some (.int .i64 (In.mkS xs k).2,[.tree ((In.mkS xs k).1.map (fun s=>[OT.int s])) []])
theorem PY (xs:List Int):PX xs:=by
 intro k0 ob h1 h2 hob
 have hlen:ob.length=1:=by rw [←CC,hob]; rfl
 have hwt:In.wtS xs=xs.length:=rfl
 refine Ab JP F3 (of_decide_eq_true rfl) ?_
 simp (disch:=omega) only [F2,go_sem,Aa,hob,hlen]
 refine go_loop (α:=Int × (Int) × (List Int)) (fun a=>⟨slots 19 0 [(0,.ref 0),(1,.int .i64 (a.2.1)),(5,.int .i64 (a.1))],[.tree (((a.2.2)++xs.drop (a.1).toNat).map (fun s=>[OT.int s])) []]⟩) (fun a=>∃ k:Nat,a.1=k∧k≤(xs).length∧(a.2.2).length=k∧(a.2.1)=k0+k∧In.mkS xs k0=((a.2.2)++(In.mkS (xs.drop k) (a.2.1)).1,(In.mkS (xs.drop k) (a.2.1)).2)) (fun a=>(xs).length-(a.1).toNat) (0,k0,[]) ⟨0,rfl,zF _,rfl,by simp,by simp⟩ (by simp (disch:=omega) only [go_sem,Aa,zO]) ?_
 rintro ⟨i,kk,dn⟩ ⟨k,hi,hk,hR⟩
 dsimp only at hi hR
 have hni:i.toNat=k:=by omega
 have hni1:(i+1).toNat=k+1:=by omega
 rcases zE k (xs).length with hlt | hge
 ·obtain ⟨hd,hk1,hm⟩:=hR
  have hdr:xs.drop k=xs[k] :: xs.drop (k+1):=zA hlt
  have hel:(dn++xs.drop k).length=xs.length:=by simp; omega
  have hg:(zY (fun s=>[OT.int s]) (dn++xs.drop k))[k]?=some [OT.int xs[k]]:=by
   rw [hdr,zP,zL (by omega),hd,z5]; rfl
  rw [hdr,In.mkS] at hm
  have hs:=Dy (fun s=>[OT.int s]) dn (xs.drop (k+1)) xs[k] (kk) hd
  rw [←hdr] at hs
  have hgs:∀ a,((zY (fun s=>[OT.int s]) (dn++xs.drop k)).set k a)[k]?=some a:=fun a=>zN (by rw [zJ,hel]; exact hlt)
  simp (disch:=omega) only [go_sem,Aa,hni,hel,hg,hgs,zW,z6,hs]
  refine ⟨(i+1,kk+1,dn++[kk]),⟨k+1,by dsimp only; omega,hlt,by dsimp only; simp [hd],by dsimp only; omega,by rw [hm]; simp⟩,by dsimp only; omega,?_⟩
  dsimp only
  rw [hni1]
  try first | rfl | simp only [and_self]
 ·obtain ⟨hd,hk1,hm⟩:=hR
  have hdr:xs.drop k=[]:=zB hge
  rw [hdr,In.mkS] at hm
  rw [hm]
  simp (disch:=omega) only [go_sem,Aa,hni,hdr,zS]
mutual
def Tm.wt:Tm→Nat
 | .mk name args=>1+Tm.wtS args
def Tm.wtS:List Tm→Nat
 | []=>0
 | x :: xs=>Tm.wt x+Tm.wtS xs
end
theorem Tm.wt_eq (x:Tm):x.wt=1+Tm.wtS x.args:=by
 obtain ⟨name,args⟩:=x
 rw [Tm.wt]; rfl
mutual
noncomputable def Tm.mk1:Tm→Int→Tm × Int
 | .mk name args,k=>((Tm.mk (D8 k) ((Tm.mkS args (k+1)).1)),(Tm.mkS args (k+1)).2)
noncomputable def Tm.mkS:List Tm→Int→List Tm × Int
 | [],k=>([],k)
 | x :: xs,k=>((Tm.mk1 x k).1 :: (Tm.mkS xs (Tm.mk1 x k).2).1,(Tm.mkS xs (Tm.mk1 x k).2).2)
end
theorem Tm.mk1_eq (x:Tm) (k:Int):x.mk1 k=((Tm.mk (D8 k) ((Tm.mkS x.args (k+1)).1)),(Tm.mkS x.args (k+1)).2):=by
 obtain ⟨name,args⟩:=x
 rw [Tm.mk1]; rfl
theorem Tm.mk1_o (x:Tm) (k:Int):Tm.o (x.mk1 k).1=[.str (D8 k),.ow ((Tm.mkS x.args (k+1)).1.map Tm.o)]:=by
 rw [Tm.mk1_eq,Tm.o_eq]
 try rfl
theorem Tm.HK:∀ (xs:List Tm) (k:Int),(∀ x∈xs,∀ k,(x.mk1 k).2=k+x.wt)→(Tm.mkS xs k).2=k+Tm.wtS xs
 | [],k,_=>by simp [Tm.mkS,Tm.wtS]
 | x :: xs,k,h=>by
  rw [Tm.mkS,Tm.wtS]
  have h1:=h x (by simp) k
  have h2:=Tm.HK xs (x.mk1 k).2 fun y hy=>h y (by simp [hy])
  dsimp only
  omega
theorem Tm.mk1_end (x:Tm) (k:Int):(x.mk1 k).2=k+x.wt:=by
 rw [Tm.mk1_eq,Tm.wt_eq]
 have h:=fun k=>Tm.HK x.args k fun y hy k=>Tm.mk1_end y k
 simp only [h]
 omega
termination_by SizeOf.sizeOf x
decreasing_by exact Tm.Av hy
theorem Tm.mkS_end (xs:List Tm) (k:Int):(Tm.mkS xs k).2=k+Tm.wtS xs:=Tm.HK xs k fun x _ k=>Tm.mk1_end x k
theorem Tm.PZ:∀ xs:List Tm,(∀ x∈xs,x.wt≤5*(1+x.bulk))→Tm.wtS xs≤5*(xs.length+Tm.sumB xs)
 | [],_=>by simp [Tm.wtS]
 | x :: xs,h=>by
  have h1:=h x (by simp)
  have h2:=Tm.PZ xs fun y hy=>h y (by simp [hy])
  rw [Tm.wtS,Tm.sumB]; simp only [zG]; omega
theorem Tm.wt_bulk (x:Tm):x.wt≤5*(1+x.bulk):=by
 rw [Tm.wt_eq,Tm.bulk_eq]
 have h:=Tm.PZ x.args fun y hy=>Tm.wt_bulk y
 omega
termination_by SizeOf.sizeOf x
decreasing_by exact Tm.Av hy
theorem Tm.wtS_bulk (xs:List Tm):Tm.wtS xs≤5*(xs.length+Tm.sumB xs):=Tm.PZ xs fun x _=>Tm.wt_bulk x
theorem Tm.length_wt:∀ xs:List Tm,xs.length≤Tm.wtS xs
 | []=>zX _
 | x :: xs=>by
  have:=Tm.length_wt xs
  have:=Tm.wt_eq x
  rw [Tm.wtS]; simp only [zG]; omega
def EX:SC:=(.seq (.reg [⟨some 4,none,.mv (.c (.int .i64 0))⟩]) (.seq (.seq (.reg [⟨some 5,none,.mv (.c (.int .i64 0))⟩]) (.block 0 (.loop [1,1,0,0,0,1,0,0,0,0,0,0,0,0,0,0,0,0,0,0,0,0,0,0,0,0,0,0] (.seq (.seq (.reg [⟨some 6,none,.mv (.t 5)⟩,⟨some 7,none,.mv (.t 0)⟩,⟨some 8,none,.len false (.t 7)⟩,⟨some 9,none,.bin .lss false (.t 6) (.t 8)⟩]) (.cond (.t 9) .skip (.exit 0))) (.seq (.block 1 (.seq (.reg [⟨some 12,none,.mv (.t 0)⟩,⟨some 13,none,.mv (.t 5)⟩,⟨some 14,none,.mv (.t 1)⟩,⟨some 15,none,.call 24 [(.t 14)]⟩,⟨some 16,none,.iaddr 2 (.t 12) (.t 13)⟩,⟨some 17,none,.faddr 0 (.t 16)⟩,⟨none,none,(.store 1 (.t 17) (.t 15))⟩]) (.seq (.reg [⟨some 18,none,.mv (.t 1)⟩,⟨some 19,none,.bin .add false (.t 18) (.c (.int .i64 1))⟩,⟨some 1,none,.mv (.t 19)⟩]) (.reg [⟨some 20,none,.mv (.t 0)⟩,⟨some 21,none,.mv (.t 5)⟩,⟨some 22,none,.iaddr 2 (.t 20) (.t 21)⟩,⟨some 23,none,.faddr 1 (.t 22)⟩,⟨some 24,none,.load false 1 (.t 23)⟩,⟨some 25,none,.mv (.t 1)⟩,⟨some 26,none,.call 43 [(.t 24),(.t 25)]⟩,⟨some 1,none,.mv (.t 26)⟩])))) (.reg [⟨some 10,none,.mv (.t 5)⟩,⟨some 11,none,.bin .add false (.t 10) (.c (.int .i64 1))⟩,⟨some 5,none,.mv (.t 11)⟩])))))) (.seq (.reg [⟨some 27,none,.mv (.t 1)⟩,⟨some 4,none,.mv (.t 27)⟩]) .ret)))
theorem Jh:Aj Try.prog 43=some ⟨28,EX,[(.tmp 4)]⟩:=by kernel_rfl
theorem Dk:modes 43=⟨[true],.asis,none,true⟩:=by unfold modes; rfl
abbrev Es (xs:List Tm):Prop:=∀ (k:Int) (ob:List Ob),1≤k→k+Tm.wtS xs≤1099511627776→toTree ob=[.tree (xs.map Tm.o) []]→E 43 [.ref 0,.int .i64 k] ob=some (.int .i64 (Tm.mkS xs k).2,[.tree ((Tm.mkS xs k).1.map Tm.o) []])
theorem Gr (xs:List Tm) (ih:∀ x∈xs,Es x.args):Es xs:=by
 intro k0 ob h1 h2 hob
 have hlen:ob.length=1:=by rw [←CC,hob]; rfl
 have hL:=Tm.length_wt xs
 refine Ab Jh Dk (of_decide_eq_true rfl) ?_
 simp (disch:=omega) only [EX,go_sem,Aa,hob,hlen]
 refine go_loop (α:=Int × (Int) × (List Tm)) (fun a=>⟨slots 28 0 [(0,.ref 0),(1,.int .i64 (a.2.1)),(5,.int .i64 (a.1))],[.tree (((a.2.2)++xs.drop (a.1).toNat).map Tm.o) []]⟩) (fun a=>∃ k:Nat,a.1=k∧k≤(xs).length∧(a.2.2).length=k∧1≤(a.2.1)∧(a.2.1)+Tm.wtS (xs.drop k)=k0+Tm.wtS xs∧Tm.mkS xs k0=((a.2.2)++(Tm.mkS (xs.drop k) (a.2.1)).1,(Tm.mkS (xs.drop k) (a.2.1)).2)) (fun a=>(xs).length-(a.1).toNat) (0,k0,[]) ⟨0,rfl,zF _,rfl,h1,by rw [zC],by simp⟩ (by simp (disch:=omega) only [go_sem,Aa,zO]) ?_
 rintro ⟨i,kk,dn⟩ ⟨k,hi,hk,hR⟩
 dsimp only at hi hR
 have hni:i.toNat=k:=by omega
 have hni1:(i+1).toNat=k+1:=by omega
 rcases zE k (xs).length with hlt | hge
 ·obtain ⟨hd,hk1,hkn,hm⟩:=hR
  have hdr:xs.drop k=xs[k] :: xs.drop (k+1):=zA hlt
  have hel:(dn++xs.drop k).length=xs.length:=by simp; omega
  have hg:(zY Tm.o (dn++xs.drop k))[k]?=some [.str xs[k].name,.ow (xs[k].args.map Tm.o)]:=by
   rw [←Tm.o_eq,hdr,zP,zL (by omega),hd,z5]; rfl
  rw [hdr,Tm.wtS] at hkn
  rw [hdr,Tm.mkS] at hm
  have hn1:=Tm.wt_eq xs[k]
  have e1:=Tm.mkS_end xs[k].args ((kk+1))
  have t0:=Fu (k:=kk) (by omega) (by omega)
  have c58:=ih xs[k] (zD hlt) ((kk+1)) [.tree (xs[k].args.map Tm.o) []] (by omega) (by omega) rfl
  have hs:=Dy Tm.o dn (xs.drop (k+1)) xs[k] (xs[k].mk1 kk).1 hd
  rw [Tm.mk1_o,← hdr] at hs
  have hgs:∀ a,((zY Tm.o (dn++xs.drop k)).set k a)[k]?=some a:=fun a=>zN (by rw [zJ,hel]; exact hlt)
  have he:=Tm.mk1_end xs[k] kk
  have three:∀ z:Int,dec ((3:Int)=0)=false:=fun _=>AG (by omega)
  simp (disch:=omega) only [go_sem,Aa,hni,hel,hg,t0,c58,Dk,Cc,hgs,zW,z6,hs,three 0]
  refine ⟨(i+1,(xs[k].mk1 kk).2,dn++[(xs[k].mk1 kk).1]),⟨k+1,by dsimp only; omega,hlt,by dsimp only; simp [hd],by dsimp only; omega,by dsimp only; omega,by rw [hm]; simp⟩,by dsimp only; omega,?_⟩
  dsimp only
  rw [hni1,Tm.mk1_eq]
  refine ⟨⟨?_,rfl⟩,rfl⟩
  first | rfl | omega
 ·obtain ⟨hd,hk1,hkn,hm⟩:=hR
  have hdr:xs.drop k=[]:=zB hge
  rw [hdr,Tm.mkS] at hm
  rw [hm]
  simp (disch:=omega) only [go_sem,Aa,hni,hdr,zS]
theorem Ix (x:Tm):Es x.args:=Gr x.args fun y hy=>Ix y
termination_by SizeOf.sizeOf x
decreasing_by exact Tm.Av hy
theorem OV (xs:List Tm):Es xs:=Gr xs fun y _=>Ix y
def Lt.wt (x:Lt):Nat:=2+Tm.wtS x.atom.args
theorem Lt.wt_eq (x:Lt):x.wt=2+Tm.wtS x.atom.args:=rfl
noncomputable def Lt.mk1 (x:Lt) (k:Int):Lt × Int:=((Lt.mk (dec (k.tmod 3=0)) (Tm.mk (D8 (k+1)) ((Tm.mkS x.atom.args (k+1+1)).1))),(Tm.mkS x.atom.args (k+1+1)).2)
theorem Lt.mk1_eq (x:Lt) (k:Int):x.mk1 k=((Lt.mk (dec (k.tmod 3=0)) (Tm.mk (D8 (k+1)) ((Tm.mkS x.atom.args (k+1+1)).1))),(Tm.mkS x.atom.args (k+1+1)).2):=rfl
def Lt.wtS:List Lt→Nat
 | []=>0
 | x :: xs=>Lt.wt x+Lt.wtS xs
noncomputable def Lt.mkS:List Lt→Int→List Lt × Int
 | [],k=>([],k)
 | x :: xs,k=>((Lt.mk1 x k).1 :: (Lt.mkS xs (Lt.mk1 x k).2).1,(Lt.mkS xs (Lt.mk1 x k).2).2)
theorem Lt.mk1_o (x:Lt) (k:Int):Lt.o (x.mk1 k).1=[.bool (dec (k.tmod 3=0)),.str (D8 (k+1)),.ow ((Tm.mkS x.atom.args (k+1+1)).1.map Tm.o)]:=by
 rw [Lt.mk1_eq,Lt.o_eq]
 try rfl
theorem Lt.mk1_end (x:Lt) (k:Int):(x.mk1 k).2=k+x.wt:=by
 rw [Lt.mk1_eq,Lt.wt_eq]
 first
  |omega
  |(simp only [Tm.mkS_end]; done)
  |(simp only [Tm.mkS_end]; omega)
  |simp
theorem Lt.mkS_end:∀ (xs:List Lt) (k:Int),(Lt.mkS xs k).2=k+Lt.wtS xs
 | [],k=>by simp [Lt.mkS,Lt.wtS]
 | x :: xs,k=>by
  rw [Lt.mkS,Lt.wtS]
  have h1:=Lt.mk1_end x k
  have h2:=Lt.mkS_end xs (x.mk1 k).2
  dsimp only
  omega
theorem Lt.wt_bulk (x:Lt):x.wt≤5*(1+x.bulk):=by
 rw [Lt.wt_eq,Lt.bulk_eq]
 have h0:=Tm.wtS_bulk x.atom.args
 have q1:=Tm.bulk_eq x.atom
 omega
theorem Lt.wtS_bulk:∀ xs:List Lt,Lt.wtS xs≤5*(xs.length+Lt.sumB xs)
 | []=>by simp [Lt.wtS]
 | x :: xs=>by
  have h1:=Lt.wt_bulk x
  have h2:=Lt.wtS_bulk xs
  rw [Lt.wtS,Lt.sumB]; simp only [zG]; omega
theorem Lt.length_wt:∀ xs:List Lt,xs.length≤Lt.wtS xs
 | []=>zX _
 | x :: xs=>by
  have:=Lt.length_wt xs
  have:=Lt.wt_eq x
  rw [Lt.wtS]; simp only [zG]; omega
def DB:SC:=(.seq (.reg [⟨some 4,none,.mv (.c (.int .i64 0))⟩]) (.seq (.seq (.reg [⟨some 5,none,.mv (.c (.int .i64 0))⟩]) (.block 0 (.loop [1,1,0,0,0,1,0,0,0,0,0,0,0,0,0,0,0,0,0,0,0,0,0,0,0,0,0,0,0,0,0,0,0,0,0,0,0,0,0] (.seq (.seq (.reg [⟨some 6,none,.mv (.t 5)⟩,⟨some 7,none,.mv (.t 0)⟩,⟨some 8,none,.len false (.t 7)⟩,⟨some 9,none,.bin .lss false (.t 6) (.t 8)⟩]) (.cond (.t 9) .skip (.exit 0))) (.seq (.block 1 (.seq (.reg [⟨some 12,none,.mv (.t 0)⟩,⟨some 13,none,.mv (.t 5)⟩,⟨some 14,none,.mv (.t 1)⟩,⟨some 15,none,.bin .rem false (.t 14) (.c (.int .i64 3))⟩,⟨some 16,none,.bin .eql false (.t 15) (.c (.int .i64 0))⟩,⟨some 17,none,.iaddr 3 (.t 12) (.t 13)⟩,⟨some 18,none,.faddr 0 (.t 17)⟩,⟨none,none,(.store 1 (.t 18) (.t 16))⟩]) (.seq (.reg [⟨some 19,none,.mv (.t 1)⟩,⟨some 20,none,.bin .add false (.t 19) (.c (.int .i64 1))⟩,⟨some 1,none,.mv (.t 20)⟩]) (.seq (.reg [⟨some 21,none,.mv (.t 0)⟩,⟨some 22,none,.mv (.t 5)⟩,⟨some 23,none,.mv (.t 1)⟩,⟨some 24,none,.call 24 [(.t 23)]⟩,⟨some 25,none,.iaddr 3 (.t 21) (.t 22)⟩,⟨some 26,none,.faddr 1 (.t 25)⟩,⟨some 27,none,.faddr 0 (.t 26)⟩,⟨none,none,(.store 1 (.t 27) (.t 24))⟩]) (.seq (.reg [⟨some 28,none,.mv (.t 1)⟩,⟨some 29,none,.bin .add false (.t 28) (.c (.int .i64 1))⟩,⟨some 1,none,.mv (.t 29)⟩]) (.reg [⟨some 30,none,.mv (.t 0)⟩,⟨some 31,none,.mv (.t 5)⟩,⟨some 32,none,.iaddr 3 (.t 30) (.t 31)⟩,⟨some 33,none,.faddr 1 (.t 32)⟩,⟨some 34,none,.faddr 1 (.t 33)⟩,⟨some 35,none,.load false 1 (.t 34)⟩,⟨some 36,none,.mv (.t 1)⟩,⟨some 37,none,.call 43 [(.t 35),(.t 36)]⟩,⟨some 1,none,.mv (.t 37)⟩])))))) (.reg [⟨some 10,none,.mv (.t 5)⟩,⟨some 11,none,.bin .add false (.t 10) (.c (.int .i64 1))⟩,⟨some 5,none,.mv (.t 11)⟩])))))) (.seq (.reg [⟨some 38,none,.mv (.t 1)⟩,⟨some 4,none,.mv (.t 38)⟩]) .ret)))
theorem GT:Aj Try.prog 23=some ⟨39,DB,[(.tmp 4)]⟩:=by kernel_rfl
theorem DC:modes 23=⟨[true],.asis,none,true⟩:=by unfold modes; rfl
abbrev Gs (xs:List Lt):Prop:=∀ (k:Int) (ob:List Ob),1≤k→k+Lt.wtS xs≤1099511627776→toTree ob=[.tree (xs.map Lt.o) []]→E 23 [.ref 0,.int .i64 k] ob=some (.int .i64 (Lt.mkS xs k).2,[.tree ((Lt.mkS xs k).1.map Lt.o) []])
theorem Iy (xs:List Lt):Gs xs:=by
 intro k0 ob h1 h2 hob
 have hlen:ob.length=1:=by rw [←CC,hob]; rfl
 have hL:=Lt.length_wt xs
 refine Ab GT DC (of_decide_eq_true rfl) ?_
 simp (disch:=omega) only [DB,go_sem,Aa,hob,hlen]
 refine go_loop (α:=Int × (Int) × (List Lt)) (fun a=>⟨slots 39 0 [(0,.ref 0),(1,.int .i64 (a.2.1)),(5,.int .i64 (a.1))],[.tree (((a.2.2)++xs.drop (a.1).toNat).map Lt.o) []]⟩) (fun a=>∃ k:Nat,a.1=k∧k≤(xs).length∧(a.2.2).length=k∧1≤(a.2.1)∧(a.2.1)+Lt.wtS (xs.drop k)=k0+Lt.wtS xs∧Lt.mkS xs k0=((a.2.2)++(Lt.mkS (xs.drop k) (a.2.1)).1,(Lt.mkS (xs.drop k) (a.2.1)).2)) (fun a=>(xs).length-(a.1).toNat) (0,k0,[]) ⟨0,rfl,zF _,rfl,h1,by rw [zC],by simp⟩ (by simp (disch:=omega) only [go_sem,Aa,zO]) ?_
 rintro ⟨i,kk,dn⟩ ⟨k,hi,hk,hR⟩
 dsimp only at hi hR
 have hni:i.toNat=k:=by omega
 have hni1:(i+1).toNat=k+1:=by omega
 rcases zE k (xs).length with hlt | hge
 ·obtain ⟨hd,hk1,hkn,hm⟩:=hR
  have hdr:xs.drop k=xs[k] :: xs.drop (k+1):=zA hlt
  have hel:(dn++xs.drop k).length=xs.length:=by simp; omega
  have hg:(zY Lt.o (dn++xs.drop k))[k]?=some [.bool xs[k].pos,.str xs[k].atom.name,.ow (xs[k].atom.args.map Tm.o)]:=by
   rw [←Lt.o_eq,hdr,zP,zL (by omega),hd,z5]; rfl
  rw [hdr,Lt.wtS] at hkn
  rw [hdr,Lt.mkS] at hm
  have hn1:=Lt.wt_eq xs[k]
  have e2:=Tm.mkS_end xs[k].atom.args ((kk+1+1))
  have t0:=Fu (k:=(kk+1)) (by omega) (by omega)
  have c64:=OV xs[k].atom.args ((kk+1+1)) [.tree (xs[k].atom.args.map Tm.o) []] (by omega) (by omega) rfl
  have hs:=Dy Lt.o dn (xs.drop (k+1)) xs[k] (xs[k].mk1 kk).1 hd
  rw [Lt.mk1_o,← hdr] at hs
  have hgs:∀ a,((zY Lt.o (dn++xs.drop k)).set k a)[k]?=some a:=fun a=>zN (by rw [zJ,hel]; exact hlt)
  have he:=Lt.mk1_end xs[k] kk
  have three:∀ z:Int,dec ((3:Int)=0)=false:=fun _=>AG (by omega)
  simp (disch:=omega) only [go_sem,Aa,hni,hel,hg,t0,c64,Dk,Cc,hgs,zW,z6,hs,three 0]
  refine ⟨(i+1,(xs[k].mk1 kk).2,dn++[(xs[k].mk1 kk).1]),⟨k+1,by dsimp only; omega,hlt,by dsimp only; simp [hd],by dsimp only; omega,by dsimp only; omega,by rw [hm]; simp⟩,by dsimp only; omega,?_⟩
  dsimp only
  rw [hni1,Lt.mk1_eq]
  refine ⟨⟨?_,rfl⟩,rfl⟩
  first | rfl | omega
 ·obtain ⟨hd,hk1,hkn,hm⟩:=hR
  have hdr:xs.drop k=[]:=zB hge
  rw [hdr,Lt.mkS] at hm
  rw [hm]
  simp (disch:=omega) only [go_sem,Aa,hni,hdr,zS]
theorem Lp (xs:List Lt):Gs xs:=Iy xs
def Tl.wt (x:Tl):Nat:=3+In.wtS x.vals
theorem Tl.wt_eq (x:Tl):x.wt=3+In.wtS x.vals:=rfl
noncomputable def Tl.mk1 (x:Tl) (k:Int):Tl × Int:=((Tl.mk (D8 k) ((k+1)) (dec ((k+1+1).tmod 3=0)) ((In.mkS x.vals (k+1+1+1)).1)),(In.mkS x.vals (k+1+1+1)).2)
theorem Tl.mk1_eq (x:Tl) (k:Int):x.mk1 k=((Tl.mk (D8 k) ((k+1)) (dec ((k+1+1).tmod 3=0)) ((In.mkS x.vals (k+1+1+1)).1)),(In.mkS x.vals (k+1+1+1)).2):=rfl
def Tl.wtS:List Tl→Nat
 | []=>0
 | x :: xs=>Tl.wt x+Tl.wtS xs
noncomputable def Tl.mkS:List Tl→Int→List Tl × Int
 | [],k=>([],k)
 | x :: xs,k=>((Tl.mk1 x k).1 :: (Tl.mkS xs (Tl.mk1 x k).2).1,(Tl.mkS xs (Tl.mk1 x k).2).2)
theorem Tl.VW (x:Tl) (k:Int):Tl.d (x.mk1 k).1=[.str (D8 k),.int (k+1),.bool (dec ((k+1+1).tmod 3=0)),.arr ((In.mkS x.vals (k+1+1+1)).1.map (fun n=>[D.int n]))]:=by
 rw [Tl.mk1_eq,Tl.d_eq]
 try rfl
theorem Tl.mk1_o (x:Tl) (k:Int):Tl.o (x.mk1 k).1=[.str (D8 k),.int (k+1),.bool (dec ((k+1+1).tmod 3=0)),.ow ((In.mkS x.vals (k+1+1+1)).1.map (fun n=>[OT.int n]))]:=by
 rw [Tl.mk1_eq,Tl.o_eq]
 try rfl
theorem Tl.mk1_end (x:Tl) (k:Int):(x.mk1 k).2=k+x.wt:=by
 rw [Tl.mk1_eq,Tl.wt_eq]
 first
  |omega
  |(simp only [In.mkS_end]; done)
  |(simp only [In.mkS_end]; omega)
  |simp
theorem Tl.mkS_end:∀ (xs:List Tl) (k:Int),(Tl.mkS xs k).2=k+Tl.wtS xs
 | [],k=>by simp [Tl.mkS,Tl.wtS]
 | x :: xs,k=>by
  rw [Tl.mkS,Tl.wtS]
  have h1:=Tl.mk1_end x k
  have h2:=Tl.mkS_end xs (x.mk1 k).2
  dsimp only
  omega
theorem Tl.wt_bulk (x:Tl):x.wt≤5*(1+x.bulk):=by
 rw [Tl.wt_eq,Tl.bulk_eq]
 have h0:=In.wtS_bulk x.vals
 omega
theorem Tl.wtS_bulk:∀ xs:List Tl,Tl.wtS xs≤5*(xs.length+Tl.sumB xs)
 | []=>by simp [Tl.wtS]
 | x :: xs=>by
  have h1:=Tl.wt_bulk x
  have h2:=Tl.wtS_bulk xs
  rw [Tl.wtS,Tl.sumB]; simp only [zG]; omega
theorem Tl.length_wt:∀ xs:List Tl,xs.length≤Tl.wtS xs
 | []=>zX _
 | x :: xs=>by
  have:=Tl.length_wt xs
  have:=Tl.wt_eq x
  rw [Tl.wtS]; simp only [zG]; omega
def Et:SC:=(.seq (.reg [⟨some 4,none,.mv (.c (.int .i64 0))⟩]) (.seq (.seq (.reg [⟨some 5,none,.mv (.c (.int .i64 0))⟩]) (.block 0 (.loop [1,1,0,0,0,1,0,0,0,0,0,0,0,0,0,0,0,0,0,0,0,0,0,0,0,0,0,0,0,0,0,0,0,0,0,0,0,0,0,0,0,0,0,0] (.seq (.seq (.reg [⟨some 6,none,.mv (.t 5)⟩,⟨some 7,none,.mv (.t 0)⟩,⟨some 8,none,.len false (.t 7)⟩,⟨some 9,none,.bin .lss false (.t 6) (.t 8)⟩]) (.cond (.t 9) .skip (.exit 0))) (.seq (.block 1 (.seq (.reg [⟨some 12,none,.mv (.t 0)⟩,⟨some 13,none,.mv (.t 5)⟩,⟨some 14,none,.mv (.t 1)⟩,⟨some 15,none,.call 24 [(.t 14)]⟩,⟨some 16,none,.iaddr 4 (.t 12) (.t 13)⟩,⟨some 17,none,.faddr 0 (.t 16)⟩,⟨none,none,(.store 1 (.t 17) (.t 15))⟩]) (.seq (.reg [⟨some 18,none,.mv (.t 1)⟩,⟨some 19,none,.bin .add false (.t 18) (.c (.int .i64 1))⟩,⟨some 1,none,.mv (.t 19)⟩]) (.seq (.reg [⟨some 20,none,.mv (.t 0)⟩,⟨some 21,none,.mv (.t 5)⟩,⟨some 22,none,.mv (.t 1)⟩,⟨some 23,none,.iaddr 4 (.t 20) (.t 21)⟩,⟨some 24,none,.faddr 1 (.t 23)⟩,⟨none,none,(.store 1 (.t 24) (.t 22))⟩]) (.seq (.reg [⟨some 25,none,.mv (.t 1)⟩,⟨some 26,none,.bin .add false (.t 25) (.c (.int .i64 1))⟩,⟨some 1,none,.mv (.t 26)⟩]) (.seq (.reg [⟨some 27,none,.mv (.t 0)⟩,⟨some 28,none,.mv (.t 5)⟩,⟨some 29,none,.mv (.t 1)⟩,⟨some 30,none,.bin .rem false (.t 29) (.c (.int .i64 3))⟩,⟨some 31,none,.bin .eql false (.t 30) (.c (.int .i64 0))⟩,⟨some 32,none,.iaddr 4 (.t 27) (.t 28)⟩,⟨some 33,none,.faddr 2 (.t 32)⟩,⟨none,none,(.store 1 (.t 33) (.t 31))⟩]) (.seq (.reg [⟨some 34,none,.mv (.t 1)⟩,⟨some 35,none,.bin .add false (.t 34) (.c (.int .i64 1))⟩,⟨some 1,none,.mv (.t 35)⟩]) (.reg [⟨some 36,none,.mv (.t 0)⟩,⟨some 37,none,.mv (.t 5)⟩,⟨some 38,none,.iaddr 4 (.t 36) (.t 37)⟩,⟨some 39,none,.faddr 3 (.t 38)⟩,⟨some 40,none,.load false 1 (.t 39)⟩,⟨some 41,none,.mv (.t 1)⟩,⟨some 42,none,.call 25 [(.t 40),(.t 41)]⟩,⟨some 1,none,.mv (.t 42)⟩])))))))) (.reg [⟨some 10,none,.mv (.t 5)⟩,⟨some 11,none,.bin .add false (.t 10) (.c (.int .i64 1))⟩,⟨some 5,none,.mv (.t 11)⟩])))))) (.seq (.reg [⟨some 43,none,.mv (.t 1)⟩,⟨some 4,none,.mv (.t 43)⟩]) .ret)))
theorem Iz:Aj Try.prog 11=some ⟨44,Et,[(.tmp 4)]⟩:=by kernel_rfl
theorem BG:modes 11=⟨[true],.asis,none,true⟩:=by unfold modes; rfl
abbrev I1 (xs:List Tl):Prop:=∀ (k:Int) (ob:List Ob),1≤k→k+Tl.wtS xs≤1099511627776→toTree ob=[.tree (xs.map Tl.o) []]→E 11 [.ref 0,.int .i64 k] ob=some (.int .i64 (Tl.mkS xs k).2,[.tree ((Tl.mkS xs k).1.map Tl.o) []])
theorem JQ (xs:List Tl):I1 xs:=by
 intro k0 ob h1 h2 hob
 have hlen:ob.length=1:=by rw [←CC,hob]; rfl
 have hL:=Tl.length_wt xs
 refine Ab Iz BG (of_decide_eq_true rfl) ?_
 simp (disch:=omega) only [Et,go_sem,Aa,hob,hlen]
 refine go_loop (α:=Int × (Int) × (List Tl)) (fun a=>⟨slots 44 0 [(0,.ref 0),(1,.int .i64 (a.2.1)),(5,.int .i64 (a.1))],[.tree (((a.2.2)++xs.drop (a.1).toNat).map Tl.o) []]⟩) (fun a=>∃ k:Nat,a.1=k∧k≤(xs).length∧(a.2.2).length=k∧1≤(a.2.1)∧(a.2.1)+Tl.wtS (xs.drop k)=k0+Tl.wtS xs∧Tl.mkS xs k0=((a.2.2)++(Tl.mkS (xs.drop k) (a.2.1)).1,(Tl.mkS (xs.drop k) (a.2.1)).2)) (fun a=>(xs).length-(a.1).toNat) (0,k0,[]) ⟨0,rfl,zF _,rfl,h1,by rw [zC],by simp⟩ (by simp (disch:=omega) only [go_sem,Aa,zO]) ?_
 rintro ⟨i,kk,dn⟩ ⟨k,hi,hk,hR⟩
 dsimp only at hi hR
 have hni:i.toNat=k:=by omega
 have hni1:(i+1).toNat=k+1:=by omega
 rcases zE k (xs).length with hlt | hge
 ·obtain ⟨hd,hk1,hkn,hm⟩:=hR
  have hdr:xs.drop k=xs[k] :: xs.drop (k+1):=zA hlt
  have hel:(dn++xs.drop k).length=xs.length:=by simp; omega
  have hg:(zY Tl.o (dn++xs.drop k))[k]?=some [.str xs[k].name,.int xs[k].arity,.bool xs[k].pred,.ow (xs[k].vals.map fun n=>[OT.int n])]:=by
   rw [←Tl.o_eq,hdr,zP,zL (by omega),hd,z5]; rfl
  rw [hdr,Tl.wtS] at hkn
  rw [hdr,Tl.mkS] at hm
  have hn1:=Tl.wt_eq xs[k]
  have e3:=In.mkS_end xs[k].vals ((kk+1+1+1))
  have t0:=Fu (k:=kk) (by omega) (by omega)
  have c58:=PY xs[k].vals ((kk+1+1+1)) [.tree (xs[k].vals.map (fun n=>[OT.int n])) []] (by omega) (by omega) rfl
  have hs:=Dy Tl.o dn (xs.drop (k+1)) xs[k] (xs[k].mk1 kk).1 hd
  rw [Tl.mk1_o,← hdr] at hs
  have hgs:∀ a,((zY Tl.o (dn++xs.drop k)).set k a)[k]?=some a:=fun a=>zN (by rw [zJ,hel]; exact hlt)
  have he:=Tl.mk1_end xs[k] kk
  have three:∀ z:Int,dec ((3:Int)=0)=false:=fun _=>AG (by omega)
  simp (disch:=omega) only [go_sem,Aa,hni,hel,hg,t0,c58,F3,Cc,hgs,zW,z6,hs,three 0]
  refine ⟨(i+1,(xs[k].mk1 kk).2,dn++[(xs[k].mk1 kk).1]),⟨k+1,by dsimp only; omega,hlt,by dsimp only; simp [hd],by dsimp only; omega,by dsimp only; omega,by rw [hm]; simp⟩,by dsimp only; omega,?_⟩
  dsimp only
  rw [hni1,Tl.mk1_eq]
  refine ⟨⟨?_,rfl⟩,rfl⟩
  first | rfl | omega
 ·obtain ⟨hd,hk1,hkn,hm⟩:=hR
  have hdr:xs.drop k=[]:=zB hge
  rw [hdr,Tl.mkS] at hm
  rw [hm]
  simp (disch:=omega) only [go_sem,Aa,hni,hdr,zS]
theorem N7 (xs:List Tl):I1 xs:=JQ xs
def F4:SC:=(.seq (.reg [⟨some 4,none,.mv (.c (.int .i64 0))⟩]) (.seq (.seq (.reg [⟨some 5,none,.mv (.c (.int .i64 0))⟩]) (.block 0 (.loop [1,1,0,0,0,1,0,0,0,0,0,0,0,0,0,0,0,0,0,0,0] (.seq (.seq (.reg [⟨some 6,none,.mv (.t 5)⟩,⟨some 7,none,.mv (.t 0)⟩,⟨some 8,none,.len false (.t 7)⟩,⟨some 9,none,.bin .lss false (.t 6) (.t 8)⟩]) (.cond (.t 9) .skip (.exit 0))) (.seq (.block 1 (.seq (.seq (.reg [⟨some 12,none,.mv (.t 0)⟩,⟨some 13,none,.mv (.t 5)⟩,⟨some 14,none,.iaddr 1 (.t 12) (.t 13)⟩,⟨some 15,none,.load false 1 (.t 14)⟩,⟨some 16,none,.mv (.t 1)⟩,⟨some 17,none,.bin .neq false (.t 15) (.t 16)⟩]) (.cond (.t 17) (.seq (.reg [⟨some 4,none,.mv (.c (.int .i64 (-(0+1))))⟩]) .ret) .skip)) (.reg [⟨some 18,none,.mv (.t 1)⟩,⟨some 19,none,.bin .add false (.t 18) (.c (.int .i64 1))⟩,⟨some 1,none,.mv (.t 19)⟩]))) (.reg [⟨some 10,none,.mv (.t 5)⟩,⟨some 11,none,.bin .add false (.t 10) (.c (.int .i64 1))⟩,⟨some 5,none,.mv (.t 11)⟩])))))) (.seq (.reg [⟨some 20,none,.mv (.t 1)⟩,⟨some 4,none,.mv (.t 20)⟩]) .ret)))
theorem JR:Aj Try.prog 26=some ⟨21,F4,[(.tmp 4)]⟩:=by kernel_rfl
theorem F5:modes 26=⟨[],.asis,none,false⟩:=by unfold modes; rfl
theorem Qa (xs:List Int):∀ k:Int,1≤k→k+In.wtS xs≤1099511627776→E 26 [.arr ((In.mkS xs k).1.map (fun s=>[D.int s])),.int .i64 k] []=some (.int .i64 (In.mkS xs k).2,[]):=by
 intro k0 h1 h2
 obtain ⟨ys,hys⟩:∃ ys,ys=(In.mkS xs k0).1:=⟨_,rfl⟩
 have hyl:ys.length=xs.length:=by rw [hys,In.mkS_len]
 rw [←hys]
 have hwt:In.wtS xs=xs.length:=rfl
 refine Ab JR F5 (of_decide_eq_true rfl) ?_
 simp (disch:=omega) only [F4,go_sem,Aa]
 refine go_loop (α:=Int × (Int)) (fun a=>⟨slots 21 0 [(0,.arr (ys.map (fun s=>[D.int s]))),(1,.int .i64 (a.2)),(5,.int .i64 (a.1))],[]⟩) (fun a=>∃ k:Nat,a.1=k∧k≤(ys).length∧(a.2)=k0+k∧ys.drop k=(In.mkS (xs.drop k) (a.2)).1∧(In.mkS xs k0).2=(In.mkS (xs.drop k) (a.2)).2) (fun a=>(ys).length-(a.1).toNat) (0,k0) ⟨0,rfl,zF _,by simp,by rw [zC,zC,hys],by rw [zC]⟩ (by simp (disch:=omega) only [go_sem,Aa]) ?_
 rintro ⟨i,kk⟩ ⟨k,hi,hk,hR⟩
 dsimp only at hi hR
 have hni:i.toNat=k:=by omega
 have hni1:(i+1).toNat=k+1:=by omega
 rcases zE k (ys).length with hlt | hge
 ·obtain ⟨hk1,hy,hm⟩:=hR
  have hlx:k<xs.length:=by omega
  have hdr:xs.drop k=xs[k] :: xs.drop (k+1):=zA hlx
  have hdy:=zA hlt
  rw [hdr,In.mkS] at hm
  rw [hdr,In.mkS,hdy] at hy
  dsimp only at hy hm
  obtain ⟨hy1,hy2⟩:=List.cons.inj hy
  have hg:=get_at (fun s=>[D.int s]) hlt
  rw [hy1] at hg
  simp (disch:=omega) only [go_sem,Aa,hni,hg,Cq]
  exact ⟨(i+1,kk+1),⟨k+1,by dsimp only; omega,hlt,by dsimp only; omega,hy2,hm⟩,by dsimp only; omega,by first | trivial | rfl | exact ⟨rfl,rfl⟩⟩
 ·obtain ⟨hk1,hy,hm⟩:=hR
  have hdr:xs.drop k=[]:=zB (by omega)
  rw [hdr,In.mkS] at hm
  rw [hm]
  simp (disch:=omega) only [go_sem,Aa,hni]
def Eu:SC:=(.seq (.reg [⟨some 4,none,.mv (.c (.int .i64 0))⟩]) (.seq (.seq (.reg [⟨some 5,none,.mv (.c (.int .i64 0))⟩]) (.block 0 (.loop [1,1,0,0,0,1,0,0,0,0,0,0,0,0,0,0,0,0,0,0,0,0,0,0,0,0,0,0,0,0,0,0,0,0,0,0,0,0,0,0,0,0,0,0,0,0,0,0,0,0,0,0] (.seq (.seq (.reg [⟨some 6,none,.mv (.t 5)⟩,⟨some 7,none,.mv (.t 0)⟩,⟨some 8,none,.len false (.t 7)⟩,⟨some 9,none,.bin .lss false (.t 6) (.t 8)⟩]) (.cond (.t 9) .skip (.exit 0))) (.seq (.block 1 (.seq (.seq (.dreg [[],[],[0,1],[2,0,1],[3,2,0,1],[],[5],[4,3,2,0,1,6,5]] [⟨some 12,none,.mv (.t 0)⟩,⟨some 13,none,.mv (.t 5)⟩,⟨some 14,none,.iaddr 4 (.t 12) (.t 13)⟩,⟨some 15,none,.faddr 0 (.t 14)⟩,⟨some 16,none,.load false 1 (.t 15)⟩,⟨some 17,none,.mv (.t 1)⟩,⟨some 18,none,.call 24 [(.t 17)]⟩,⟨some 19,none,.bin .neq false (.t 16) (.t 18)⟩]) (.cond (.t 19) (.seq (.reg [⟨some 4,none,.mv (.c (.int .i64 (-(0+1))))⟩]) .ret) .skip)) (.seq (.reg [⟨some 20,none,.mv (.t 1)⟩,⟨some 21,none,.bin .add false (.t 20) (.c (.int .i64 1))⟩,⟨some 1,none,.mv (.t 21)⟩]) (.seq (.seq (.reg [⟨some 22,none,.mv (.t 0)⟩,⟨some 23,none,.mv (.t 5)⟩,⟨some 24,none,.iaddr 4 (.t 22) (.t 23)⟩,⟨some 25,none,.faddr 1 (.t 24)⟩,⟨some 26,none,.load false 1 (.t 25)⟩,⟨some 27,none,.mv (.t 1)⟩,⟨some 28,none,.bin .neq false (.t 26) (.t 27)⟩]) (.cond (.t 28) (.seq (.reg [⟨some 4,none,.mv (.c (.int .i64 (-(0+1))))⟩]) .ret) .skip)) (.seq (.reg [⟨some 29,none,.mv (.t 1)⟩,⟨some 30,none,.bin .add false (.t 29) (.c (.int .i64 1))⟩,⟨some 1,none,.mv (.t 30)⟩]) (.seq (.seq (.reg [⟨some 31,none,.mv (.t 0)⟩,⟨some 32,none,.mv (.t 5)⟩,⟨some 33,none,.iaddr 4 (.t 31) (.t 32)⟩,⟨some 34,none,.faddr 2 (.t 33)⟩,⟨some 35,none,.load false 1 (.t 34)⟩,⟨some 36,none,.mv (.t 1)⟩,⟨some 37,none,.bin .rem false (.t 36) (.c (.int .i64 3))⟩,⟨some 38,none,.bin .eql false (.t 37) (.c (.int .i64 0))⟩,⟨some 39,none,.bin .neq true (.t 35) (.t 38)⟩]) (.cond (.t 39) (.seq (.reg [⟨some 4,none,.mv (.c (.int .i64 (-(0+1))))⟩]) .ret) .skip)) (.seq (.reg [⟨some 40,none,.mv (.t 1)⟩,⟨some 41,none,.bin .add false (.t 40) (.c (.int .i64 1))⟩,⟨some 1,none,.mv (.t 41)⟩]) (.seq (.reg [⟨some 42,none,.mv (.t 0)⟩,⟨some 43,none,.mv (.t 5)⟩,⟨some 44,none,.iaddr 4 (.t 42) (.t 43)⟩,⟨some 45,none,.faddr 3 (.t 44)⟩,⟨some 46,none,.load false 1 (.t 45)⟩,⟨some 47,none,.mv (.t 1)⟩,⟨some 48,none,.call 26 [(.t 46),(.t 47)]⟩,⟨some 1,none,.mv (.t 48)⟩]) (.seq (.reg [⟨some 49,none,.mv (.t 1)⟩,⟨some 50,none,.bin .lss false (.t 49) (.c (.int .i64 0))⟩]) (.cond (.t 50) (.seq (.reg [⟨some 4,none,.mv (.c (.int .i64 (-(0+1))))⟩]) .ret) .skip)))))))))) (.reg [⟨some 10,none,.mv (.t 5)⟩,⟨some 11,none,.bin .add false (.t 10) (.c (.int .i64 1))⟩,⟨some 5,none,.mv (.t 11)⟩])))))) (.seq (.reg [⟨some 51,none,.mv (.t 1)⟩,⟨some 4,none,.mv (.t 51)⟩]) .ret)))
theorem I3:Aj Try.prog 12=some ⟨52,Eu,[(.tmp 4)]⟩:=by kernel_rfl
theorem BH:modes 12=⟨[],.asis,none,false⟩:=by unfold modes; rfl
theorem Tl.mkS_len:∀ (xs:List Tl) (k:Int),(Tl.mkS xs k).1.length=xs.length
 | [],k=>by rw [Tl.mkS]
 | x :: xs,k=>by rw [Tl.mkS]; simp only [zG]; rw [Tl.mkS_len xs]
abbrev I4 (xs:List Tl):Prop:=∀ k:Int,1≤k→k+Tl.wtS xs≤1099511627776→E 12 [.arr ((Tl.mkS xs k).1.map Tl.d),.int .i64 k] []=some (.int .i64 (Tl.mkS xs k).2,[])
theorem JS (xs:List Tl):I4 xs:=by
 intro k0 h1 h2
 obtain ⟨ys,hys⟩:∃ ys,ys=(Tl.mkS xs k0).1:=⟨_,rfl⟩
 have hyl:ys.length=xs.length:=by rw [hys,Tl.mkS_len]
 rw [←hys]
 have hL:=Tl.length_wt xs
 refine Ab I3 BH (of_decide_eq_true rfl) ?_
 simp (disch:=omega) only [Eu,go_sem,Aa]
 refine go_loop (α:=Int × (Int)) (fun a=>⟨slots 52 0 [(0,.arr (ys.map Tl.d)),(1,.int .i64 (a.2)),(5,.int .i64 (a.1))],[]⟩) (fun a=>∃ k:Nat,a.1=k∧k≤(ys).length∧1≤(a.2)∧(a.2)+Tl.wtS (xs.drop k)=k0+Tl.wtS xs∧ys.drop k=(Tl.mkS (xs.drop k) (a.2)).1∧(Tl.mkS xs k0).2=(Tl.mkS (xs.drop k) (a.2)).2) (fun a=>(ys).length-(a.1).toNat) (0,k0) ⟨0,rfl,zF _,h1,by rw [zC],by rw [zC,zC,hys],by rw [zC]⟩ (by simp (disch:=omega) only [go_sem,Aa]) ?_
 rintro ⟨i,kk⟩ ⟨k,hi,hk,hR⟩
 dsimp only at hi hR
 have hni:i.toNat=k:=by omega
 have hni1:(i+1).toNat=k+1:=by omega
 rcases zE k (ys).length with hlt | hge
 ·obtain ⟨hk1,hkn,hy,hm⟩:=hR
  have hlx:k<xs.length:=by omega
  have hdr:xs.drop k=xs[k] :: xs.drop (k+1):=zA hlx
  have hdy:=zA hlt
  rw [hdr,Tl.wtS] at hkn
  rw [hdr,Tl.mkS] at hm
  rw [hdr,Tl.mkS,hdy] at hy
  dsimp only at hy hm
  obtain ⟨hy1,hy2⟩:=List.cons.inj hy
  have hg:=get_at Tl.d hlt
  rw [hy1,Tl.VW] at hg
  have hn1:=Tl.wt_eq xs[k]
  have e3:=In.mkS_end xs[k].vals ((kk+1+1+1))
  have t0:=Fu (k:=kk) (by omega) (by omega)
  have c58:=Qa xs[k].vals ((kk+1+1+1)) (by omega) (by omega)
  have he:=Tl.mk1_end xs[k] kk
  simp (disch:=omega) only [go_sem,Aa,hni,hg,Cc,Cq,t0,c58,F5]
  refine ⟨(i+1,(xs[k].mk1 kk).2),⟨k+1,by dsimp only; omega,hlt,by dsimp only; omega,by dsimp only; omega,hy2,hm⟩,by dsimp only; omega,?_⟩
  dsimp only
  rw [Tl.mk1_eq]
  simp only [and_self,and_true,true_and]
  try omega
 ·obtain ⟨hk1,hkn,hy,hm⟩:=hR
  have hdr:xs.drop k=[]:=zB (by omega)
  rw [hdr,Tl.mkS] at hm
  rw [hm]
  simp (disch:=omega) only [go_sem,Aa,hni]
theorem N8 (xs:List Tl):I4 xs:=JS xs
def Cl.wt (x:Cl):Nat:=0+Lt.wtS x.lits
theorem Cl.wt_eq (x:Cl):x.wt=0+Lt.wtS x.lits:=rfl
noncomputable def Cl.mk1 (x:Cl) (k:Int):Cl × Int:=((Cl.mk ((Lt.mkS x.lits k).1)),(Lt.mkS x.lits k).2)
theorem Cl.mk1_eq (x:Cl) (k:Int):x.mk1 k=((Cl.mk ((Lt.mkS x.lits k).1)),(Lt.mkS x.lits k).2):=rfl
def Cl.wtS:List Cl→Nat
 | []=>0
 | x :: xs=>Cl.wt x+Cl.wtS xs
noncomputable def Cl.mkS:List Cl→Int→List Cl × Int
 | [],k=>([],k)
 | x :: xs,k=>((Cl.mk1 x k).1 :: (Cl.mkS xs (Cl.mk1 x k).2).1,(Cl.mkS xs (Cl.mk1 x k).2).2)
theorem Cl.mk1_o (x:Cl) (k:Int):Cl.o (x.mk1 k).1=[.ow ((Lt.mkS x.lits k).1.map Lt.o)]:=by
 rw [Cl.mk1_eq,Cl.o_eq]
 try rfl
theorem Cl.mk1_end (x:Cl) (k:Int):(x.mk1 k).2=k+x.wt:=by
 rw [Cl.mk1_eq,Cl.wt_eq]
 first
  |omega
  |(simp only [Lt.mkS_end]; done)
  |(simp only [Lt.mkS_end]; omega)
  |simp
theorem Cl.mkS_end:∀ (xs:List Cl) (k:Int),(Cl.mkS xs k).2=k+Cl.wtS xs
 | [],k=>by simp [Cl.mkS,Cl.wtS]
 | x :: xs,k=>by
  rw [Cl.mkS,Cl.wtS]
  have h1:=Cl.mk1_end x k
  have h2:=Cl.mkS_end xs (x.mk1 k).2
  dsimp only
  omega
theorem Cl.wt_bulk (x:Cl):x.wt≤5*(1+x.bulk):=by
 rw [Cl.wt_eq,Cl.bulk_eq]
 have h0:=Lt.wtS_bulk x.lits
 omega
theorem Cl.wtS_bulk:∀ xs:List Cl,Cl.wtS xs≤5*(xs.length+Cl.sumB xs)
 | []=>by simp [Cl.wtS]
 | x :: xs=>by
  have h1:=Cl.wt_bulk x
  have h2:=Cl.wtS_bulk xs
  rw [Cl.wtS,Cl.sumB]; simp only [zG]; omega
def Ee:SC:=(.seq (.reg [⟨some 4,none,.mv (.c (.int .i64 0))⟩]) (.seq (.seq (.reg [⟨some 5,none,.mv (.c (.int .i64 0))⟩]) (.block 0 (.loop [1,1,0,0,0,1,0,0,0,0,0,0,0,0,0,0,0,0,0,0] (.seq (.seq (.reg [⟨some 6,none,.mv (.t 5)⟩,⟨some 7,none,.mv (.t 0)⟩,⟨some 8,none,.len false (.t 7)⟩,⟨some 9,none,.bin .lss false (.t 6) (.t 8)⟩]) (.cond (.t 9) .skip (.exit 0))) (.seq (.block 1 (.reg [⟨some 12,none,.mv (.t 0)⟩,⟨some 13,none,.mv (.t 5)⟩,⟨some 14,none,.iaddr 1 (.t 12) (.t 13)⟩,⟨some 15,none,.faddr 0 (.t 14)⟩,⟨some 16,none,.load false 1 (.t 15)⟩,⟨some 17,none,.mv (.t 1)⟩,⟨some 18,none,.call 23 [(.t 16),(.t 17)]⟩,⟨some 1,none,.mv (.t 18)⟩])) (.reg [⟨some 10,none,.mv (.t 5)⟩,⟨some 11,none,.bin .add false (.t 10) (.c (.int .i64 1))⟩,⟨some 5,none,.mv (.t 11)⟩])))))) (.seq (.reg [⟨some 19,none,.mv (.t 1)⟩,⟨some 4,none,.mv (.t 19)⟩]) .ret)))
theorem HL:Aj Try.prog 10=some ⟨20,Ee,[(.tmp 4)]⟩:=by kernel_rfl
theorem B8:modes 10=⟨[true],.asis,none,true⟩:=by unfold modes; rfl
abbrev Hn (xs:List Cl):Prop:=∀ (k:Int) (ob:List Ob),1≤k→k+Cl.wtS xs+xs.length≤1099511627776→toTree ob=[.tree (xs.map Cl.o) []]→E 10 [.ref 0,.int .i64 k] ob=some (.int .i64 (Cl.mkS xs k).2,[.tree ((Cl.mkS xs k).1.map Cl.o) []])
theorem Ji (xs:List Cl):Hn xs:=by
 intro k0 ob h1 h2 hob
 have hlen:ob.length=1:=by rw [←CC,hob]; rfl
 have hL:=zX 0
 refine Ab HL B8 (of_decide_eq_true rfl) ?_
 simp (disch:=omega) only [Ee,go_sem,Aa,hob,hlen]
 refine go_loop (α:=Int × (Int) × (List Cl)) (fun a=>⟨slots 20 0 [(0,.ref 0),(1,.int .i64 (a.2.1)),(5,.int .i64 (a.1))],[.tree (((a.2.2)++xs.drop (a.1).toNat).map Cl.o) []]⟩) (fun a=>∃ k:Nat,a.1=k∧k≤(xs).length∧(a.2.2).length=k∧1≤(a.2.1)∧(a.2.1)+Cl.wtS (xs.drop k)=k0+Cl.wtS xs∧Cl.mkS xs k0=((a.2.2)++(Cl.mkS (xs.drop k) (a.2.1)).1,(Cl.mkS (xs.drop k) (a.2.1)).2)) (fun a=>(xs).length-(a.1).toNat) (0,k0,[]) ⟨0,rfl,zF _,rfl,h1,by rw [zC],by simp⟩ (by simp (disch:=omega) only [go_sem,Aa,zO]) ?_
 rintro ⟨i,kk,dn⟩ ⟨k,hi,hk,hR⟩
 dsimp only at hi hR
 have hni:i.toNat=k:=by omega
 have hni1:(i+1).toNat=k+1:=by omega
 rcases zE k (xs).length with hlt | hge
 ·obtain ⟨hd,hk1,hkn,hm⟩:=hR
  have hdr:xs.drop k=xs[k] :: xs.drop (k+1):=zA hlt
  have hel:(dn++xs.drop k).length=xs.length:=by simp; omega
  have hg:(zY Cl.o (dn++xs.drop k))[k]?=some [.ow (xs[k].lits.map Lt.o)]:=by
   rw [←Cl.o_eq,hdr,zP,zL (by omega),hd,z5]; rfl
  rw [hdr,Cl.wtS] at hkn
  rw [hdr,Cl.mkS] at hm
  have hn1:=Cl.wt_eq xs[k]
  have e0:=Lt.mkS_end xs[k].lits (kk)
  have c0:=Lp xs[k].lits (kk) [.tree (xs[k].lits.map Lt.o) []] (by omega) (by omega) rfl
  have hs:=Dy Cl.o dn (xs.drop (k+1)) xs[k] (xs[k].mk1 kk).1 hd
  rw [Cl.mk1_o,← hdr] at hs
  have hgs:∀ a,((zY Cl.o (dn++xs.drop k)).set k a)[k]?=some a:=fun a=>zN (by rw [zJ,hel]; exact hlt)
  have he:=Cl.mk1_end xs[k] kk
  have three:∀ z:Int,dec ((3:Int)=0)=false:=fun _=>AG (by omega)
  simp (disch:=omega) only [go_sem,Aa,hni,hel,hg,c0,DC,Cc,hgs,zW,z6,hs,three 0]
  refine ⟨(i+1,(xs[k].mk1 kk).2,dn++[(xs[k].mk1 kk).1]),⟨k+1,by dsimp only; omega,hlt,by dsimp only; simp [hd],by dsimp only; omega,by dsimp only; omega,by rw [hm]; simp⟩,by dsimp only; omega,?_⟩
  dsimp only
  rw [hni1,Cl.mk1_eq]
  refine ⟨⟨?_,rfl⟩,rfl⟩
  first | rfl | omega
 ·obtain ⟨hd,hk1,hkn,hm⟩:=hR
  have hdr:xs.drop k=[]:=zB hge
  rw [hdr,Cl.mkS] at hm
  rw [hm]
  simp (disch:=omega) only [go_sem,Aa,hni,hdr,zS]
theorem LK (xs:List Cl):Hn xs:=Ji xs
def Ho:SC:=(.seq (.reg [⟨some 2,none,.boxv 81 2 (.t 0)⟩,⟨some 4,none,.mv (.c (.int .i64 0))⟩]) (.seq (.reg [⟨some 5,none,.mv (.t 1)⟩,⟨some 6,none,.faddr 0 (.t 2)⟩,⟨some 7,none,.load false 1 (.t 6)⟩,⟨some 8,none,.len true (.t 7)⟩,⟨some 9,none,.bin .sub false (.t 5) (.t 8)⟩,⟨some 1,none,.mv (.t 9)⟩]) (.seq (.seq (.reg [⟨some 10,none,.mv (.t 1)⟩,⟨some 11,none,.bin .lss false (.t 10) (.c (.int .i64 0))⟩]) (.cond (.t 11) (.seq (.reg [⟨some 4,none,.mv (.c (.int .i64 (-(0+1))))⟩]) .ret) .skip)) (.seq (.reg [⟨some 12,none,.faddr 1 (.t 2)⟩,⟨some 13,none,.load false 1 (.t 12)⟩,⟨some 14,none,.mv (.t 1)⟩,⟨some 15,none,.call 77 [(.t 13),(.t 14)]⟩,⟨some 1,none,.mv (.t 15)⟩]) (.seq (.seq (.reg [⟨some 16,none,.mv (.t 1)⟩,⟨some 17,none,.bin .lss false (.t 16) (.c (.int .i64 0))⟩]) (.cond (.t 17) (.seq (.reg [⟨some 4,none,.mv (.c (.int .i64 (-(0+1))))⟩]) .ret) .skip)) (.seq (.reg [⟨some 18,none,.mv (.t 1)⟩,⟨some 4,none,.mv (.t 18)⟩]) .ret))))))
theorem LL:Aj Try.prog 63=some ⟨19,Ho,[(.tmp 4)]⟩:=by kernel_rfl
theorem Dq:modes 63=⟨[],.asis,none,false⟩:=by unfold modes; rfl
def Gt:SC:=(.seq (.reg [⟨some 4,none,.mv (.c (.int .i64 0))⟩]) (.seq (.reg [⟨some 6,none,.mv (.t 1)⟩,⟨some 7,none,.mv (.t 0)⟩,⟨some 8,none,.len false (.t 7)⟩,⟨some 9,none,.bin .sub false (.t 6) (.t 8)⟩,⟨some 1,none,.mv (.t 9)⟩]) (.seq (.seq (.reg [⟨some 10,none,.mv (.t 1)⟩,⟨some 11,none,.bin .lss false (.t 10) (.c (.int .i64 0))⟩]) (.cond (.t 11) (.seq (.reg [⟨some 4,none,.mv (.c (.int .i64 (-(0+1))))⟩]) .ret) .skip)) (.seq (.seq (.reg [⟨some 5,none,.mv (.c (.int .i64 0))⟩]) (.block 0 (.loop [1,1,0,0,0,1,0,0,0,0,0,0,0,0,0,0,0,0,0,0,0,0,0,0,0,0,0] (.seq (.seq (.reg [⟨some 12,none,.mv (.t 5)⟩,⟨some 13,none,.mv (.t 0)⟩,⟨some 14,none,.len false (.t 13)⟩,⟨some 15,none,.bin .lss false (.t 12) (.t 14)⟩]) (.cond (.t 15) .skip (.exit 0))) (.seq (.block 1 (.seq (.reg [⟨some 18,none,.mv (.t 0)⟩,⟨some 19,none,.mv (.t 5)⟩,⟨some 20,none,.iaddr 2 (.t 18) (.t 19)⟩,⟨some 21,none,.load true 2 (.t 20)⟩,⟨some 22,none,.mv (.t 1)⟩,⟨some 23,none,.call 63 [(.t 21),(.t 22)]⟩,⟨some 1,none,.mv (.t 23)⟩]) (.seq (.reg [⟨some 24,none,.mv (.t 1)⟩,⟨some 25,none,.bin .lss false (.t 24) (.c (.int .i64 0))⟩]) (.cond (.t 25) (.seq (.reg [⟨some 4,none,.mv (.c (.int .i64 (-(0+1))))⟩]) .ret) .skip)))) (.reg [⟨some 16,none,.mv (.t 5)⟩,⟨some 17,none,.bin .add false (.t 16) (.c (.int .i64 1))⟩,⟨some 5,none,.mv (.t 17)⟩])))))) (.seq (.reg [⟨some 26,none,.mv (.t 1)⟩,⟨some 4,none,.mv (.t 26)⟩]) .ret)))))
theorem Lq:Aj Try.prog 77=some ⟨27,Gt,[(.tmp 4)]⟩:=by kernel_rfl
theorem Ef:modes 77=⟨[],.asis,none,false⟩:=by unfold modes; rfl
abbrev I5 (x:Tm):Prop:=D.fits x.d→∀ left:Int,0≤left→left≤1048576→E 63 [x.sv,.int .i64 left] []=some (.int .i64 (szR left x.bulk),[])
abbrev MS (xs:List Tm):Prop:=D.fit (.arr (xs.map Tm.d))→∀ left:Int,0≤left→left≤1048576→E 77 [.arr (xs.map Tm.d),.int .i64 left] []=some (.int .i64 (szR left (xs.length+Tm.sumB xs:Nat)),[])
theorem N9 (xs:List Tm) (h:∀ x∈xs,I5 x):MS xs:=by
 intro hfit left h0 h1
 simp only [D.fit,zJ] at hfit
 have q0:=AA left (xs.length+Tm.sumB xs)
 refine Ab Lq Ef (of_decide_eq_true rfl) ?_
 simp (disch:=omega) only [Gt,go_sem,Aa]
 repeat' (refine Bz (fun hq=>?_) (fun hq=>?_) <;> (first | replace hq:=Ah.1 hq | replace hq:=Bi.1 hq) <;> (try simp (disch:=omega) only [go_sem,Aa]))
 ·omega
 refine go_loop (α:=Int × Int) (fun a=>⟨slots 27 0 [(0,.arr (xs.map Tm.d)),(1,.int .i64 a.2),(5,.int .i64 a.1)],[]⟩) (fun a=>∃ k:Nat,a.1=k∧k≤xs.length∧0≤a.2∧a.2≤1048576∧szR a.2 (Tm.sumB (xs.drop k))=szR left (xs.length+Tm.sumB xs:Nat)) (fun a=>xs.length-a.1.toNat) (0,left-xs.length) ⟨0,rfl,zF _,by omega,by omega,?_⟩ (by simp (disch:=omega) only [go_sem,Aa]) ?_
 ·have q1:=AA (left-xs.length) (Tm.sumB xs)
  rw [zC]
  dsimp only
  omega
 ·rintro ⟨i,l⟩ ⟨k,hi,hk,hl0,hl1,hs⟩
  dsimp only at hi hl0 hl1 hs
  rcases zE k xs.length with hlt | hge
  ·have hg:=get_at Tm.d hlt
   rw [Tm.d_eq] at hg
   have hd:Tm.sumB (xs.drop k)=xs[k].bulk+Tm.sumB (xs.drop (k+1)):=by rw [zA hlt,Tm.sumB]
   rw [hd] at hs
   have hc:=h xs[k] (zD hlt) (D.GF hfit.2 _ (zD hlt)) l hl0 hl1
   have q1:=AA l xs[k].bulk
   have q2:=AA l (xs[k].bulk+Tm.sumB (xs.drop (k+1)))
   have q3:=AA (l-xs[k].bulk) (Tm.sumB (xs.drop (k+1)))
   have hn:i.toNat=k:=by omega
   simp (disch:=omega) only [go_sem,Aa,hn,hg,hc,Dq]
   repeat' (refine Bz (fun hq=>?_) (fun hq=>?_) <;> (first | replace hq:=Ah.1 hq | replace hq:=Bi.1 hq) <;> (try simp (disch:=omega) only [go_sem,Aa]))
   ·omega
   ·refine ⟨(i+1,l-xs[k].bulk),⟨k+1,by dsimp only; omega,hlt,by dsimp only; omega,by dsimp only; omega,by dsimp only; omega⟩,by dsimp only; omega,?_⟩
    have e:szR l xs[k].bulk=l-xs[k].bulk:=by omega
    simp only [e,and_self]
  ·have hd:xs.drop k=[]:=zB hge
   rw [hd] at hs
   have q1:=AA l (Tm.sumB [])
   simp only [Tm.sumB] at hs q1
   simp (disch:=omega) only [go_sem,Aa]
   omega
theorem OW (x:Tm) (h_args:MS x.args):I5 x:=by
 intro hfit left h0 h1
 rw [Tm.d_eq] at hfit
 simp only [D.fits,D.fit] at hfit
 replace h_args:=h_args (by simp only [D.fit,zJ]; simp only [zJ] at hfit; simp only [hfit,and_self])
 have q:=AA left x.bulk
 have qb:=Tm.bulk_eq x
 have q0:=AA (left-(x.name.size:Int)) ((x.args.length+Tm.sumB x.args))
 refine Ab LL Dq (of_decide_eq_true rfl) ?_
 simp (disch:=omega) only [Ho,go_sem,Aa,h_args,Ef]
 repeat' (refine Bz (fun hq=>?_) (fun hq=>?_) <;> (first | replace hq:=Ah.1 hq | replace hq:=Bi.1 hq) <;> (try simp (disch:=omega) only [go_sem,Aa,h_args,Ef]))
 all_goals omega
theorem OX (x:Tm):I5 x:=OW x (N9 x.args fun y hy=>OX y)
termination_by SizeOf.sizeOf x
decreasing_by exact Tm.Av hy
def EY:SC:=(.seq (.reg [⟨some 2,none,.boxv 83 3 (.t 0)⟩,⟨some 4,none,.mv (.c (.int .i64 0))⟩]) (.seq (.reg [⟨some 5,none,.faddr 1 (.t 2)⟩,⟨some 6,none,.load true 2 (.t 5)⟩,⟨some 7,none,.mv (.t 1)⟩,⟨some 8,none,.call 63 [(.t 6),(.t 7)]⟩,⟨some 1,none,.mv (.t 8)⟩]) (.seq (.seq (.reg [⟨some 9,none,.mv (.t 1)⟩,⟨some 10,none,.bin .lss false (.t 9) (.c (.int .i64 0))⟩]) (.cond (.t 10) (.seq (.reg [⟨some 4,none,.mv (.c (.int .i64 (-(0+1))))⟩]) .ret) .skip)) (.seq (.reg [⟨some 11,none,.mv (.t 1)⟩,⟨some 4,none,.mv (.t 11)⟩]) .ret))))
theorem Jj:Aj Try.prog 44=some ⟨12,EY,[(.tmp 4)]⟩:=by kernel_rfl
theorem EZ:modes 44=⟨[],.asis,none,false⟩:=by unfold modes; rfl
def Ev:SC:=(.seq (.reg [⟨some 4,none,.mv (.c (.int .i64 0))⟩]) (.seq (.reg [⟨some 6,none,.mv (.t 1)⟩,⟨some 7,none,.mv (.t 0)⟩,⟨some 8,none,.len false (.t 7)⟩,⟨some 9,none,.bin .sub false (.t 6) (.t 8)⟩,⟨some 1,none,.mv (.t 9)⟩]) (.seq (.seq (.reg [⟨some 10,none,.mv (.t 1)⟩,⟨some 11,none,.bin .lss false (.t 10) (.c (.int .i64 0))⟩]) (.cond (.t 11) (.seq (.reg [⟨some 4,none,.mv (.c (.int .i64 (-(0+1))))⟩]) .ret) .skip)) (.seq (.seq (.reg [⟨some 5,none,.mv (.c (.int .i64 0))⟩]) (.block 0 (.loop [1,1,0,0,0,1,0,0,0,0,0,0,0,0,0,0,0,0,0,0,0,0,0,0,0,0,0] (.seq (.seq (.reg [⟨some 12,none,.mv (.t 5)⟩,⟨some 13,none,.mv (.t 0)⟩,⟨some 14,none,.len false (.t 13)⟩,⟨some 15,none,.bin .lss false (.t 12) (.t 14)⟩]) (.cond (.t 15) .skip (.exit 0))) (.seq (.block 1 (.seq (.reg [⟨some 18,none,.mv (.t 0)⟩,⟨some 19,none,.mv (.t 5)⟩,⟨some 20,none,.iaddr 3 (.t 18) (.t 19)⟩,⟨some 21,none,.load true 3 (.t 20)⟩,⟨some 22,none,.mv (.t 1)⟩,⟨some 23,none,.call 44 [(.t 21),(.t 22)]⟩,⟨some 1,none,.mv (.t 23)⟩]) (.seq (.reg [⟨some 24,none,.mv (.t 1)⟩,⟨some 25,none,.bin .lss false (.t 24) (.c (.int .i64 0))⟩]) (.cond (.t 25) (.seq (.reg [⟨some 4,none,.mv (.c (.int .i64 (-(0+1))))⟩]) .ret) .skip)))) (.reg [⟨some 16,none,.mv (.t 5)⟩,⟨some 17,none,.bin .add false (.t 16) (.c (.int .i64 1))⟩,⟨some 5,none,.mv (.t 17)⟩])))))) (.seq (.reg [⟨some 26,none,.mv (.t 1)⟩,⟨some 4,none,.mv (.t 26)⟩]) .ret)))))
theorem I6:Aj Try.prog 27=some ⟨27,Ev,[(.tmp 4)]⟩:=by kernel_rfl
theorem CT:modes 27=⟨[],.asis,none,false⟩:=by unfold modes; rfl
abbrev Gu (x:Lt):Prop:=D.fits x.d→∀ left:Int,0≤left→left≤1048576→E 44 [x.sv,.int .i64 left] []=some (.int .i64 (szR left x.bulk),[])
abbrev I7 (xs:List Lt):Prop:=D.fit (.arr (xs.map Lt.d))→∀ left:Int,0≤left→left≤1048576→E 27 [.arr (xs.map Lt.d),.int .i64 left] []=some (.int .i64 (szR left (xs.length+Lt.sumB xs:Nat)),[])
theorem JT (xs:List Lt) (h:∀ x∈xs,Gu x):I7 xs:=by
 intro hfit left h0 h1
 simp only [D.fit,zJ] at hfit
 have q0:=AA left (xs.length+Lt.sumB xs)
 refine Ab I6 CT (of_decide_eq_true rfl) ?_
 simp (disch:=omega) only [Ev,go_sem,Aa]
 repeat' (refine Bz (fun hq=>?_) (fun hq=>?_) <;> (first | replace hq:=Ah.1 hq | replace hq:=Bi.1 hq) <;> (try simp (disch:=omega) only [go_sem,Aa]))
 ·omega
 refine go_loop (α:=Int × Int) (fun a=>⟨slots 27 0 [(0,.arr (xs.map Lt.d)),(1,.int .i64 a.2),(5,.int .i64 a.1)],[]⟩) (fun a=>∃ k:Nat,a.1=k∧k≤xs.length∧0≤a.2∧a.2≤1048576∧szR a.2 (Lt.sumB (xs.drop k))=szR left (xs.length+Lt.sumB xs:Nat)) (fun a=>xs.length-a.1.toNat) (0,left-xs.length) ⟨0,rfl,zF _,by omega,by omega,?_⟩ (by simp (disch:=omega) only [go_sem,Aa]) ?_
 ·have q1:=AA (left-xs.length) (Lt.sumB xs)
  rw [zC]
  dsimp only
  omega
 ·rintro ⟨i,l⟩ ⟨k,hi,hk,hl0,hl1,hs⟩
  dsimp only at hi hl0 hl1 hs
  rcases zE k xs.length with hlt | hge
  ·have hg:=get_at Lt.d hlt
   rw [Lt.d_eq] at hg
   have hd:Lt.sumB (xs.drop k)=xs[k].bulk+Lt.sumB (xs.drop (k+1)):=by rw [zA hlt,Lt.sumB]
   rw [hd] at hs
   have hc:=h xs[k] (zD hlt) (D.GF hfit.2 _ (zD hlt)) l hl0 hl1
   have q1:=AA l xs[k].bulk
   have q2:=AA l (xs[k].bulk+Lt.sumB (xs.drop (k+1)))
   have q3:=AA (l-xs[k].bulk) (Lt.sumB (xs.drop (k+1)))
   have hn:i.toNat=k:=by omega
   simp (disch:=omega) only [go_sem,Aa,hn,hg,hc,EZ]
   repeat' (refine Bz (fun hq=>?_) (fun hq=>?_) <;> (first | replace hq:=Ah.1 hq | replace hq:=Bi.1 hq) <;> (try simp (disch:=omega) only [go_sem,Aa]))
   ·omega
   ·refine ⟨(i+1,l-xs[k].bulk),⟨k+1,by dsimp only; omega,hlt,by dsimp only; omega,by dsimp only; omega,by dsimp only; omega⟩,by dsimp only; omega,?_⟩
    have e:szR l xs[k].bulk=l-xs[k].bulk:=by omega
    simp only [e,and_self]
  ·have hd:xs.drop k=[]:=zB hge
   rw [hd] at hs
   have q1:=AA l (Lt.sumB [])
   simp only [Lt.sumB] at hs q1
   simp (disch:=omega) only [go_sem,Aa]
   omega
theorem Lr (x:Lt) (h_atom:I5 x.atom):Gu x:=by
 intro hfit left h0 h1
 rw [Lt.d_eq] at hfit
 simp only [D.fits,D.fit] at hfit
 replace h_atom:=h_atom (by rw [Tm.d_eq]; simp only [D.fits,D.fit,hfit,and_self])
 have q:=AA left x.bulk
 have qb:=Lt.bulk_eq x
 have q0:=AA left (x.atom.bulk)
 refine Ab Jj EZ (of_decide_eq_true rfl) ?_
 simp (disch:=omega) only [EY,go_sem,Aa,h_atom,Dq]
 repeat' (refine Bz (fun hq=>?_) (fun hq=>?_) <;> (first | replace hq:=Ah.1 hq | replace hq:=Bi.1 hq) <;> (try simp (disch:=omega) only [go_sem,Aa,h_atom,Dq]))
 all_goals omega
theorem OY (x:Lt):Gu x:=Lr x (OX x.atom)
def F6:SC:=(.seq (.reg [⟨some 2,none,.boxv 37 1 (.t 0)⟩,⟨some 4,none,.mv (.c (.int .i64 0))⟩]) (.seq (.reg [⟨some 5,none,.faddr 0 (.t 2)⟩,⟨some 6,none,.load false 1 (.t 5)⟩,⟨some 7,none,.mv (.t 1)⟩,⟨some 8,none,.call 27 [(.t 6),(.t 7)]⟩,⟨some 1,none,.mv (.t 8)⟩]) (.seq (.seq (.reg [⟨some 9,none,.mv (.t 1)⟩,⟨some 10,none,.bin .lss false (.t 9) (.c (.int .i64 0))⟩]) (.cond (.t 10) (.seq (.reg [⟨some 4,none,.mv (.c (.int .i64 (-(0+1))))⟩]) .ret) .skip)) (.seq (.reg [⟨some 11,none,.mv (.t 1)⟩,⟨some 4,none,.mv (.t 11)⟩]) .ret))))
theorem JU:Aj Try.prog 13=some ⟨12,F6,[(.tmp 4)]⟩:=by kernel_rfl
theorem F7:modes 13=⟨[],.asis,none,false⟩:=by unfold modes; rfl
def Fa:SC:=(.seq (.reg [⟨some 4,none,.mv (.c (.int .i64 0))⟩]) (.seq (.reg [⟨some 6,none,.mv (.t 1)⟩,⟨some 7,none,.mv (.t 0)⟩,⟨some 8,none,.len false (.t 7)⟩,⟨some 9,none,.bin .sub false (.t 6) (.t 8)⟩,⟨some 1,none,.mv (.t 9)⟩]) (.seq (.seq (.reg [⟨some 10,none,.mv (.t 1)⟩,⟨some 11,none,.bin .lss false (.t 10) (.c (.int .i64 0))⟩]) (.cond (.t 11) (.seq (.reg [⟨some 4,none,.mv (.c (.int .i64 (-(0+1))))⟩]) .ret) .skip)) (.seq (.seq (.reg [⟨some 5,none,.mv (.c (.int .i64 0))⟩]) (.block 0 (.loop [1,1,0,0,0,1,0,0,0,0,0,0,0,0,0,0,0,0,0,0,0,0,0,0,0,0,0] (.seq (.seq (.reg [⟨some 12,none,.mv (.t 5)⟩,⟨some 13,none,.mv (.t 0)⟩,⟨some 14,none,.len false (.t 13)⟩,⟨some 15,none,.bin .lss false (.t 12) (.t 14)⟩]) (.cond (.t 15) .skip (.exit 0))) (.seq (.block 1 (.seq (.reg [⟨some 18,none,.mv (.t 0)⟩,⟨some 19,none,.mv (.t 5)⟩,⟨some 20,none,.iaddr 1 (.t 18) (.t 19)⟩,⟨some 21,none,.load true 1 (.t 20)⟩,⟨some 22,none,.mv (.t 1)⟩,⟨some 23,none,.call 13 [(.t 21),(.t 22)]⟩,⟨some 1,none,.mv (.t 23)⟩]) (.seq (.reg [⟨some 24,none,.mv (.t 1)⟩,⟨some 25,none,.bin .lss false (.t 24) (.c (.int .i64 0))⟩]) (.cond (.t 25) (.seq (.reg [⟨some 4,none,.mv (.c (.int .i64 (-(0+1))))⟩]) .ret) .skip)))) (.reg [⟨some 16,none,.mv (.t 5)⟩,⟨some 17,none,.bin .add false (.t 16) (.c (.int .i64 1))⟩,⟨some 5,none,.mv (.t 17)⟩])))))) (.seq (.reg [⟨some 26,none,.mv (.t 1)⟩,⟨some 4,none,.mv (.t 26)⟩]) .ret)))))
theorem Jk:Aj Try.prog 4=some ⟨27,Fa,[(.tmp 4)]⟩:=by kernel_rfl
theorem B6:modes 4=⟨[],.asis,none,false⟩:=by unfold modes; rfl
abbrev HM (x:Cl):Prop:=D.fits x.d→∀ left:Int,0≤left→left≤1048576→E 13 [x.sv,.int .i64 left] []=some (.int .i64 (szR left x.bulk),[])
abbrev JE (xs:List Cl):Prop:=D.fit (.arr (xs.map Cl.d))→∀ left:Int,0≤left→left≤1048576→E 4 [.arr (xs.map Cl.d),.int .i64 left] []=some (.int .i64 (szR left (xs.length+Cl.sumB xs:Nat)),[])
theorem Ls (xs:List Cl) (h:∀ x∈xs,HM x):JE xs:=by
 intro hfit left h0 h1
 simp only [D.fit,zJ] at hfit
 have q0:=AA left (xs.length+Cl.sumB xs)
 refine Ab Jk B6 (of_decide_eq_true rfl) ?_
 simp (disch:=omega) only [Fa,go_sem,Aa]
 repeat' (refine Bz (fun hq=>?_) (fun hq=>?_) <;> (first | replace hq:=Ah.1 hq | replace hq:=Bi.1 hq) <;> (try simp (disch:=omega) only [go_sem,Aa]))
 ·omega
 refine go_loop (α:=Int × Int) (fun a=>⟨slots 27 0 [(0,.arr (xs.map Cl.d)),(1,.int .i64 a.2),(5,.int .i64 a.1)],[]⟩) (fun a=>∃ k:Nat,a.1=k∧k≤xs.length∧0≤a.2∧a.2≤1048576∧szR a.2 (Cl.sumB (xs.drop k))=szR left (xs.length+Cl.sumB xs:Nat)) (fun a=>xs.length-a.1.toNat) (0,left-xs.length) ⟨0,rfl,zF _,by omega,by omega,?_⟩ (by simp (disch:=omega) only [go_sem,Aa]) ?_
 ·have q1:=AA (left-xs.length) (Cl.sumB xs)
  rw [zC]
  dsimp only
  omega
 ·rintro ⟨i,l⟩ ⟨k,hi,hk,hl0,hl1,hs⟩
  dsimp only at hi hl0 hl1 hs
  rcases zE k xs.length with hlt | hge
  ·have hg:=get_at Cl.d hlt
   rw [Cl.d_eq] at hg
   have hd:Cl.sumB (xs.drop k)=xs[k].bulk+Cl.sumB (xs.drop (k+1)):=by rw [zA hlt,Cl.sumB]
   rw [hd] at hs
   have hc:=h xs[k] (zD hlt) (D.GF hfit.2 _ (zD hlt)) l hl0 hl1
   have q1:=AA l xs[k].bulk
   have q2:=AA l (xs[k].bulk+Cl.sumB (xs.drop (k+1)))
   have q3:=AA (l-xs[k].bulk) (Cl.sumB (xs.drop (k+1)))
   have hn:i.toNat=k:=by omega
   simp (disch:=omega) only [go_sem,Aa,hn,hg,hc,F7]
   repeat' (refine Bz (fun hq=>?_) (fun hq=>?_) <;> (first | replace hq:=Ah.1 hq | replace hq:=Bi.1 hq) <;> (try simp (disch:=omega) only [go_sem,Aa]))
   ·omega
   ·refine ⟨(i+1,l-xs[k].bulk),⟨k+1,by dsimp only; omega,hlt,by dsimp only; omega,by dsimp only; omega,by dsimp only; omega⟩,by dsimp only; omega,?_⟩
    have e:szR l xs[k].bulk=l-xs[k].bulk:=by omega
    simp only [e,and_self]
  ·have hd:xs.drop k=[]:=zB hge
   rw [hd] at hs
   have q1:=AA l (Cl.sumB [])
   simp only [Cl.sumB] at hs q1
   simp (disch:=omega) only [go_sem,Aa]
   omega
theorem LM (x:Cl) (h_lits:I7 x.lits):HM x:=by
 intro hfit left h0 h1
 rw [Cl.d_eq] at hfit
 simp only [D.fits,D.fit] at hfit
 replace h_lits:=h_lits (by simp only [D.fit,zJ]; simp only [zJ] at hfit; simp only [hfit,and_self])
 have q:=AA left x.bulk
 have qb:=Cl.bulk_eq x
 have q0:=AA left ((x.lits.length+Lt.sumB x.lits))
 refine Ab JU F7 (of_decide_eq_true rfl) ?_
 simp (disch:=omega) only [F6,go_sem,Aa,h_lits,CT]
 repeat' (refine Bz (fun hq=>?_) (fun hq=>?_) <;> (first | replace hq:=Ah.1 hq | replace hq:=Bi.1 hq) <;> (try simp (disch:=omega) only [go_sem,Aa,h_lits,CT]))
 all_goals omega
theorem Qb (x:Cl):HM x:=LM x (JT x.lits fun y hy=>OY y)
theorem OZ (xs:List Cl):JE xs:=Ls xs fun x _=>Qb x
def Hp:SC:=(.seq (.reg [⟨some 1,none,.boxv 81 2 (.t 0)⟩,⟨(some 2),none,(.alloc 45 [(.str ⟨#[]⟩),.nil])⟩]) (.seq (.reg [⟨(some 3),none,(.alloc 45 [(.str ⟨#[]⟩),.nil])⟩]) (.seq (.reg [⟨some 4,none,.faddr 0 (.t 1)⟩,⟨some 5,none,.load false 1 (.t 4)⟩,⟨some 6,none,.faddr 0 (.t 3)⟩,⟨none,none,(.store 1 (.t 6) (.t 5))⟩]) (.seq (.reg [⟨some 7,none,.faddr 1 (.t 1)⟩,⟨some 8,none,.load false 1 (.t 7)⟩,⟨some 9,none,.call 79 [(.t 8)]⟩,⟨some 10,none,.faddr 1 (.t 3)⟩,⟨none,none,(.store 1 (.t 10) (.t 9))⟩]) (.seq (.reg [⟨some 11,none,.load true 2 (.t 3)⟩,⟨none,none,(.store 2 (.t 2) (.t 11))⟩]) .ret)))))
theorem LN:Aj Try.prog 67=some ⟨12,Hp,[(.cell 2 true 2)]⟩:=by kernel_rfl
theorem E8:modes 67=⟨[],.asis,none,false⟩:=by unfold modes; rfl
def Gv:SC:=(.seq (.reg [⟨some 2,none,.mv (.c .nil)⟩]) (.seq (.reg [⟨some 5,none,.mv (.t 0)⟩,⟨some 6,none,.len false (.t 5)⟩,⟨(some 7),none,(.mkslice 45 2 40 [(.str ⟨#[]⟩),.nil] (.t 6))⟩,⟨some 3,none,.mv (.t 7)⟩]) (.seq (.seq (.reg [⟨some 4,none,.mv (.c (.int .i64 0))⟩]) (.block 0 (.loop [1,0,0,1,1,0,0,0,0,0,0,0,0,0,0,0,0,0,0,0,0,0,0] (.seq (.seq (.reg [⟨some 8,none,.mv (.t 4)⟩,⟨some 9,none,.mv (.t 0)⟩,⟨some 10,none,.len false (.t 9)⟩,⟨some 11,none,.bin .lss false (.t 8) (.t 10)⟩]) (.cond (.t 11) .skip (.exit 0))) (.seq (.block 1 (.reg [⟨some 14,none,.mv (.t 3)⟩,⟨some 15,none,.mv (.t 4)⟩,⟨some 16,none,.mv (.t 0)⟩,⟨some 17,none,.mv (.t 4)⟩,⟨some 18,none,.iaddr 2 (.t 16) (.t 17)⟩,⟨some 19,none,.load true 2 (.t 18)⟩,⟨some 20,none,.call 67 [(.t 19)]⟩,⟨some 21,none,.iaddr 2 (.t 14) (.t 15)⟩,⟨none,none,(.store 2 (.t 21) (.t 20))⟩])) (.reg [⟨some 12,none,.mv (.t 4)⟩,⟨some 13,none,.bin .add false (.t 12) (.c (.int .i64 1))⟩,⟨some 4,none,.mv (.t 13)⟩])))))) (.seq (.reg [⟨some 22,none,.mv (.t 3)⟩,⟨some 2,none,.mv (.t 22)⟩]) .ret))))
theorem Lu:Aj Try.prog 79=some ⟨23,Gv,[(.tmp 2)]⟩:=by kernel_rfl
theorem Gw:modes 79=⟨[],.asis,none,false⟩:=by unfold modes; rfl
abbrev I8 (x:Tm):Prop:=x.bulk≤1048576→E 67 [x.sv] []=some (x.osv,x.obs)
abbrev MT (xs:List Tm):Prop:=xs.length+Tm.sumB xs≤1048576→E 79 [.arr (xs.map Tm.d)] []=some (.ref 0,[.row 45 2 (xs.map Tm.o)])
theorem NA (xs:List Tm) (h:∀ x∈xs,I8 x):MT xs:=by
 intro hb
 refine Ab Lu Gw (of_decide_eq_true rfl) ?_
 simp (disch:=omega) only [Gv,go_sem,Aa]
 refine go_loop (α:=Int) (fun i=>⟨slots 23 0 [(0,.arr (xs.map Tm.d)),(3,.ref 0),(4,.int .i64 i)],[.row 45 2 (El Tm.o [.str ⟨#[]⟩,.ow []] xs i.toNat)]⟩) (fun i=>∃ k:Nat,i=k∧k≤xs.length) (fun i=>xs.length-i.toNat) 0 ⟨0,rfl,zF _⟩ (by simp (disch:=omega) only [go_sem,Aa,H9,zO]) ?_
 ·rintro i ⟨k,rfl,hk⟩
  obtain ⟨i,hi⟩:∃ i:Int,i=(k:Int):=⟨_,rfl⟩
  rw [←hi]
  have hn:i.toNat=k:=by omega
  have hn1:(i+1).toNat=k+1:=by omega
  rcases zE k xs.length with hlt | hge
  ·have hg:=get_at Tm.d hlt
   rw [Tm.d_eq] at hg
   have hz:=IW Tm.o [.str ⟨#[]⟩,.ow []] hlt
   have hle:=Tm.bulk_le xs k hlt
   have hc:=h xs[k] (zD hlt) (by omega)
   have hs:=IX Tm.o [.str ⟨#[]⟩,.ow []] hlt
   rw [Tm.o_eq] at hs
   simp (disch:=omega) only [go_sem,Aa,hn,hg,hc,hz,IU,E8,Tm.osv,Tm.obs]
   refine ⟨i+1,⟨k+1,by omega,hlt⟩,by omega,?_⟩
   simp (disch:=omega) only [go_sem,Aa,hn1,hs]
  ·obtain rfl:k=xs.length:=by omega
   simp (disch:=omega) only [go_sem,Aa,hn,IV]
theorem Pa (x:Tm) (h_args:MT x.args):I8 x:=by
 intro hb
 have qb:=Tm.bulk_eq x
 replace h_args:=h_args (by omega)
 refine Ab LN E8 (of_decide_eq_true rfl) ?_
 simp (disch:=omega) only [Hp,go_sem,Aa,h_args,Gw]
theorem Pb (x:Tm):I8 x:=Pa x (NA x.args fun y hy=>Pb y)
termination_by SizeOf.sizeOf x
decreasing_by exact Tm.Av hy
def Fb:SC:=(.seq (.reg [⟨some 1,none,.boxv 83 3 (.t 0)⟩,⟨(some 2),none,(.alloc 47 [(.bool false),(.str ⟨#[]⟩),.nil])⟩]) (.seq (.reg [⟨(some 3),none,(.alloc 47 [(.bool false),(.str ⟨#[]⟩),.nil])⟩]) (.seq (.reg [⟨some 4,none,.faddr 0 (.t 1)⟩,⟨some 5,none,.load false 1 (.t 4)⟩,⟨some 6,none,.faddr 0 (.t 3)⟩,⟨none,none,(.store 1 (.t 6) (.t 5))⟩]) (.seq (.reg [⟨some 7,none,.faddr 1 (.t 1)⟩,⟨some 8,none,.load true 2 (.t 7)⟩,⟨some 9,none,.call 67 [(.t 8)]⟩,⟨some 10,none,.faddr 1 (.t 3)⟩,⟨none,none,(.store 2 (.t 10) (.t 9))⟩]) (.seq (.reg [⟨some 11,none,.load true 3 (.t 3)⟩,⟨none,none,(.store 3 (.t 2) (.t 11))⟩]) .ret)))))
theorem Jl:Aj Try.prog 52=some ⟨12,Fb,[(.cell 2 true 3)]⟩:=by kernel_rfl
theorem Fc:modes 52=⟨[],.asis,none,false⟩:=by unfold modes; rfl
def Ew:SC:=(.seq (.reg [⟨some 2,none,.mv (.c .nil)⟩]) (.seq (.reg [⟨some 5,none,.mv (.t 0)⟩,⟨some 6,none,.len false (.t 5)⟩,⟨(some 7),none,(.mkslice 47 3 48 [(.bool false),(.str ⟨#[]⟩),.nil] (.t 6))⟩,⟨some 3,none,.mv (.t 7)⟩]) (.seq (.seq (.reg [⟨some 4,none,.mv (.c (.int .i64 0))⟩]) (.block 0 (.loop [1,0,0,1,1,0,0,0,0,0,0,0,0,0,0,0,0,0,0,0,0,0,0] (.seq (.seq (.reg [⟨some 8,none,.mv (.t 4)⟩,⟨some 9,none,.mv (.t 0)⟩,⟨some 10,none,.len false (.t 9)⟩,⟨some 11,none,.bin .lss false (.t 8) (.t 10)⟩]) (.cond (.t 11) .skip (.exit 0))) (.seq (.block 1 (.reg [⟨some 14,none,.mv (.t 3)⟩,⟨some 15,none,.mv (.t 4)⟩,⟨some 16,none,.mv (.t 0)⟩,⟨some 17,none,.mv (.t 4)⟩,⟨some 18,none,.iaddr 3 (.t 16) (.t 17)⟩,⟨some 19,none,.load true 3 (.t 18)⟩,⟨some 20,none,.call 52 [(.t 19)]⟩,⟨some 21,none,.iaddr 3 (.t 14) (.t 15)⟩,⟨none,none,(.store 3 (.t 21) (.t 20))⟩])) (.reg [⟨some 12,none,.mv (.t 4)⟩,⟨some 13,none,.bin .add false (.t 12) (.c (.int .i64 1))⟩,⟨some 4,none,.mv (.t 13)⟩])))))) (.seq (.reg [⟨some 22,none,.mv (.t 3)⟩,⟨some 2,none,.mv (.t 22)⟩]) .ret))))
theorem I9:Aj Try.prog 32=some ⟨23,Ew,[(.tmp 2)]⟩:=by kernel_rfl
theorem Ex:modes 32=⟨[],.asis,none,false⟩:=by unfold modes; rfl
abbrev Gx (x:Lt):Prop:=x.bulk≤1048576→E 52 [x.sv] []=some (x.osv,x.obs)
abbrev IA (xs:List Lt):Prop:=xs.length+Lt.sumB xs≤1048576→E 32 [.arr (xs.map Lt.d)] []=some (.ref 0,[.row 47 3 (xs.map Lt.o)])
theorem JV (xs:List Lt) (h:∀ x∈xs,Gx x):IA xs:=by
 intro hb
 refine Ab I9 Ex (of_decide_eq_true rfl) ?_
 simp (disch:=omega) only [Ew,go_sem,Aa]
 refine go_loop (α:=Int) (fun i=>⟨slots 23 0 [(0,.arr (xs.map Lt.d)),(3,.ref 0),(4,.int .i64 i)],[.row 47 3 (El Lt.o [.bool false,.str ⟨#[]⟩,.ow []] xs i.toNat)]⟩) (fun i=>∃ k:Nat,i=k∧k≤xs.length) (fun i=>xs.length-i.toNat) 0 ⟨0,rfl,zF _⟩ (by simp (disch:=omega) only [go_sem,Aa,H9,zO]) ?_
 ·rintro i ⟨k,rfl,hk⟩
  obtain ⟨i,hi⟩:∃ i:Int,i=(k:Int):=⟨_,rfl⟩
  rw [←hi]
  have hn:i.toNat=k:=by omega
  have hn1:(i+1).toNat=k+1:=by omega
  rcases zE k xs.length with hlt | hge
  ·have hg:=get_at Lt.d hlt
   rw [Lt.d_eq] at hg
   have hz:=IW Lt.o [.bool false,.str ⟨#[]⟩,.ow []] hlt
   have hle:=Lt.bulk_le xs k hlt
   have hc:=h xs[k] (zD hlt) (by omega)
   have hs:=IX Lt.o [.bool false,.str ⟨#[]⟩,.ow []] hlt
   rw [Lt.o_eq] at hs
   simp (disch:=omega) only [go_sem,Aa,hn,hg,hc,hz,IU,Fc,Lt.osv,Lt.obs]
   refine ⟨i+1,⟨k+1,by omega,hlt⟩,by omega,?_⟩
   simp (disch:=omega) only [go_sem,Aa,hn1,hs]
  ·obtain rfl:k=xs.length:=by omega
   simp (disch:=omega) only [go_sem,Aa,hn,IV]
theorem Lv (x:Lt) (h_atom:I8 x.atom):Gx x:=by
 intro hb
 have qb:=Lt.bulk_eq x
 replace h_atom:=h_atom (by omega)
 refine Ab Jl Fc (of_decide_eq_true rfl) ?_
 simp (disch:=omega) only [Fb,go_sem,Aa,h_atom,E8]
theorem Pc (x:Lt):Gx x:=Lv x (Pb x.atom)
def F8:SC:=(.seq (.reg [⟨some 1,none,.boxv 37 1 (.t 0)⟩,⟨some 2,none,.alloc 41 [.nil]⟩]) (.seq (.reg [⟨some 3,none,.alloc 41 [.nil]⟩]) (.seq (.reg [⟨some 4,none,.faddr 0 (.t 1)⟩,⟨some 5,none,.load false 1 (.t 4)⟩,⟨some 6,none,.call 32 [(.t 5)]⟩,⟨some 7,none,.faddr 0 (.t 3)⟩,⟨none,none,(.store 1 (.t 7) (.t 6))⟩]) (.seq (.reg [⟨some 8,none,.load true 1 (.t 3)⟩,⟨none,none,(.store 1 (.t 2) (.t 8))⟩]) .ret))))
theorem JW:Aj Try.prog 16=some ⟨9,F8,[(.cell 2 true 1)]⟩:=by kernel_rfl
theorem F9:modes 16=⟨[],.asis,none,false⟩:=by unfold modes; rfl
def Fd:SC:=(.seq (.reg [⟨some 2,none,.mv (.c .nil)⟩]) (.seq (.reg [⟨some 5,none,.mv (.t 0)⟩,⟨some 6,none,.len false (.t 5)⟩,⟨some 7,none,.mkslice 41 1 24 [.nil] (.t 6)⟩,⟨some 3,none,.mv (.t 7)⟩]) (.seq (.seq (.reg [⟨some 4,none,.mv (.c (.int .i64 0))⟩]) (.block 0 (.loop [1,0,0,1,1,0,0,0,0,0,0,0,0,0,0,0,0,0,0,0,0,0,0] (.seq (.seq (.reg [⟨some 8,none,.mv (.t 4)⟩,⟨some 9,none,.mv (.t 0)⟩,⟨some 10,none,.len false (.t 9)⟩,⟨some 11,none,.bin .lss false (.t 8) (.t 10)⟩]) (.cond (.t 11) .skip (.exit 0))) (.seq (.block 1 (.reg [⟨some 14,none,.mv (.t 3)⟩,⟨some 15,none,.mv (.t 4)⟩,⟨some 16,none,.mv (.t 0)⟩,⟨some 17,none,.mv (.t 4)⟩,⟨some 18,none,.iaddr 1 (.t 16) (.t 17)⟩,⟨some 19,none,.load true 1 (.t 18)⟩,⟨some 20,none,.call 16 [(.t 19)]⟩,⟨some 21,none,.iaddr 1 (.t 14) (.t 15)⟩,⟨none,none,(.store 1 (.t 21) (.t 20))⟩])) (.reg [⟨some 12,none,.mv (.t 4)⟩,⟨some 13,none,.bin .add false (.t 12) (.c (.int .i64 1))⟩,⟨some 4,none,.mv (.t 13)⟩])))))) (.seq (.reg [⟨some 22,none,.mv (.t 3)⟩,⟨some 2,none,.mv (.t 22)⟩]) .ret))))
theorem Jm:Aj Try.prog 6=some ⟨23,Fd,[(.tmp 2)]⟩:=by kernel_rfl
theorem BR:modes 6=⟨[],.asis,none,false⟩:=by unfold modes; rfl
abbrev HN (x:Cl):Prop:=x.bulk≤1048576→E 16 [x.sv] []=some (x.osv,x.obs)
abbrev JF (xs:List Cl):Prop:=xs.length+Cl.sumB xs≤1048576→E 6 [.arr (xs.map Cl.d)] []=some (.ref 0,[.row 41 1 (xs.map Cl.o)])
theorem Lw (xs:List Cl) (h:∀ x∈xs,HN x):JF xs:=by
 intro hb
 refine Ab Jm BR (of_decide_eq_true rfl) ?_
 simp (disch:=omega) only [Fd,go_sem,Aa]
 refine go_loop (α:=Int) (fun i=>⟨slots 23 0 [(0,.arr (xs.map Cl.d)),(3,.ref 0),(4,.int .i64 i)],[.row 41 1 (El Cl.o [.ow []] xs i.toNat)]⟩) (fun i=>∃ k:Nat,i=k∧k≤xs.length) (fun i=>xs.length-i.toNat) 0 ⟨0,rfl,zF _⟩ (by simp (disch:=omega) only [go_sem,Aa,H9,zO]) ?_
 ·rintro i ⟨k,rfl,hk⟩
  obtain ⟨i,hi⟩:∃ i:Int,i=(k:Int):=⟨_,rfl⟩
  rw [←hi]
  have hn:i.toNat=k:=by omega
  have hn1:(i+1).toNat=k+1:=by omega
  rcases zE k xs.length with hlt | hge
  ·have hg:=get_at Cl.d hlt
   rw [Cl.d_eq] at hg
   have hz:=IW Cl.o [.ow []] hlt
   have hle:=Cl.bulk_le xs k hlt
   have hc:=h xs[k] (zD hlt) (by omega)
   have hs:=IX Cl.o [.ow []] hlt
   rw [Cl.o_eq] at hs
   simp (disch:=omega) only [go_sem,Aa,hn,hg,hc,hz,IU,F9,Cl.osv,Cl.obs]
   refine ⟨i+1,⟨k+1,by omega,hlt⟩,by omega,?_⟩
   simp (disch:=omega) only [go_sem,Aa,hn1,hs]
  ·obtain rfl:k=xs.length:=by omega
   simp (disch:=omega) only [go_sem,Aa,hn,IV]
theorem LO (x:Cl) (h_lits:IA x.lits):HN x:=by
 intro hb
 have qb:=Cl.bulk_eq x
 replace h_lits:=h_lits (by omega)
 refine Ab JW F9 (of_decide_eq_true rfl) ?_
 simp (disch:=omega) only [F8,go_sem,Aa,h_lits,Ex]
theorem Qc (x:Cl):HN x:=LO x (JV x.lits fun y hy=>Pc y)
theorem Pd (xs:List Cl):JF xs:=Lw xs fun x _=>Qc x
def Hq:SC:=(.seq (.reg [⟨some 4,none,.mv (.c (.bool false))⟩]) (.seq (.seq (.reg [⟨some 6,none,.mv (.t 0)⟩,⟨some 7,none,.len false (.t 6)⟩,⟨some 8,none,.mv (.t 1)⟩,⟨some 9,none,.len false (.t 8)⟩,⟨some 10,none,.bin .neq false (.t 7) (.t 9)⟩]) (.cond (.t 10) (.seq (.reg [⟨some 4,none,.mv (.c (.bool false))⟩]) .ret) .skip)) (.seq (.seq (.reg [⟨some 5,none,.mv (.c (.int .i64 0))⟩]) (.block 0 (.loop [1,1,0,0,0,1,0,0,0,0,0,0,0,0,0,0,0,0,0,0,0,0,0,0,0,0] (.seq (.seq (.reg [⟨some 11,none,.mv (.t 5)⟩,⟨some 12,none,.mv (.t 0)⟩,⟨some 13,none,.len false (.t 12)⟩,⟨some 14,none,.bin .lss false (.t 11) (.t 13)⟩]) (.cond (.t 14) .skip (.exit 0))) (.seq (.block 1 (.seq (.dreg [[],[],[0,1],[2,0,1],[],[],[4,5],[6,4,5],[3,2,0,1,7,6,4,5]] [⟨some 17,none,.mv (.t 0)⟩,⟨some 18,none,.mv (.t 5)⟩,⟨some 19,none,.iaddr 1 (.t 17) (.t 18)⟩,⟨some 20,none,.load false 1 (.t 19)⟩,⟨some 21,none,.mv (.t 1)⟩,⟨some 22,none,.mv (.t 5)⟩,⟨some 23,none,.iaddr 1 (.t 21) (.t 22)⟩,⟨some 24,none,.load false 1 (.t 23)⟩,⟨some 25,none,.bin .neq false (.t 20) (.t 24)⟩]) (.cond (.t 25) (.seq (.reg [⟨some 4,none,.mv (.c (.bool false))⟩]) .ret) .skip))) (.reg [⟨some 15,none,.mv (.t 5)⟩,⟨some 16,none,.bin .add false (.t 15) (.c (.int .i64 1))⟩,⟨some 5,none,.mv (.t 16)⟩])))))) (.seq (.reg [⟨some 4,none,.mv (.c (.bool true))⟩]) .ret))))
theorem LP:Aj Try.prog 41=some ⟨26,Hq,[(.tmp 4)]⟩:=by kernel_rfl
theorem Hr:modes 41=⟨[],.asis,none,false⟩:=by unfold modes; rfl
abbrev Pe (xs:List Int):Prop:=xs.length≤1048576→E 41 [.arr (xs.map (fun s=>[D.int s])),.arr (xs.map (fun s=>[D.int s]))] []=some (.bool true,[])
theorem Tp (xs:List Int):Pe xs:=by
 intro hb
 refine Ab LP Hr (of_decide_eq_true rfl) ?_
 simp (disch:=omega) only [Hq,go_sem,Aa]
 refine go_loop (α:=Int) (fun i=>⟨slots 26 0 [(0,.arr (xs.map (fun s=>[D.int s]))),(1,.arr (xs.map (fun s=>[D.int s]))),(5,.int .i64 i)],[]⟩) (fun i=>∃ k:Nat,i=k∧k≤xs.length) (fun i=>xs.length-i.toNat) 0 ⟨0,rfl,zF _⟩ (by simp (disch:=omega) only [go_sem,Aa]) ?_
 ·rintro i ⟨k,rfl,hk⟩
  obtain ⟨i,hi⟩:∃ i:Int,i=(k:Int):=⟨_,rfl⟩
  rw [←hi]
  have hn:i.toNat=k:=by omega
  rcases zE k xs.length with hlt | hge
  ·have hg:=get_at (fun s=>[D.int s]) hlt
   simp (disch:=omega) only [go_sem,Aa,hn,hg,Cq]
   refine ⟨i+1,⟨k+1,by omega,hlt⟩,by omega,?_⟩
   trivial
  ·obtain rfl:k=xs.length:=by omega
   simp (disch:=omega) only [go_sem,Aa,hn]
def Hs:SC:=(.seq (.reg [⟨some 2,none,.boxv 45 2 (.t 0)⟩,⟨some 3,none,.boxv 45 2 (.t 1)⟩,⟨some 4,none,.mv (.c (.bool false))⟩]) (.seq (.seq (.reg [⟨some 5,none,.faddr 0 (.t 2)⟩,⟨some 6,none,.load false 1 (.t 5)⟩,⟨some 7,none,.faddr 0 (.t 3)⟩,⟨some 8,none,.load false 1 (.t 7)⟩,⟨some 9,none,.bin .neq false (.t 6) (.t 8)⟩]) (.cond (.t 9) (.seq (.reg [⟨some 4,none,.mv (.c (.bool false))⟩]) .ret) .skip)) (.seq (.seq (.reg [⟨some 10,none,.faddr 1 (.t 2)⟩,⟨some 11,none,.load false 1 (.t 10)⟩,⟨some 12,none,.faddr 1 (.t 3)⟩,⟨some 13,none,.load false 1 (.t 12)⟩,⟨some 14,none,.call 91 [(.t 11),(.t 13)]⟩,⟨some 15,none,.un .not (.t 14)⟩]) (.cond (.t 15) (.seq (.reg [⟨some 4,none,.mv (.c (.bool false))⟩]) .ret) .skip)) (.seq (.reg [⟨some 4,none,.mv (.c (.bool true))⟩]) .ret))))
theorem LQ:Aj Try.prog 76=some ⟨16,Hs,[(.tmp 4)]⟩:=by kernel_rfl
theorem E9:modes 76=⟨[],.asis,none,false⟩:=by unfold modes; rfl
def Gy:SC:=(.seq (.reg [⟨some 4,none,.mv (.c (.bool false))⟩]) (.seq (.seq (.reg [⟨some 6,none,.mv (.t 0)⟩,⟨some 7,none,.len false (.t 6)⟩,⟨some 8,none,.mv (.t 1)⟩,⟨some 9,none,.len false (.t 8)⟩,⟨some 10,none,.bin .neq false (.t 7) (.t 9)⟩]) (.cond (.t 10) (.seq (.reg [⟨some 4,none,.mv (.c (.bool false))⟩]) .ret) .skip)) (.seq (.seq (.reg [⟨some 5,none,.mv (.c (.int .i64 0))⟩]) (.block 0 (.loop [1,1,0,0,0,1,0,0,0,0,0,0,0,0,0,0,0,0,0,0,0,0,0,0,0,0,0] (.seq (.seq (.reg [⟨some 11,none,.mv (.t 5)⟩,⟨some 12,none,.mv (.t 0)⟩,⟨some 13,none,.len false (.t 12)⟩,⟨some 14,none,.bin .lss false (.t 11) (.t 13)⟩]) (.cond (.t 14) .skip (.exit 0))) (.seq (.block 1 (.seq (.dreg [[],[],[0,1],[2,0,1],[],[],[4,5],[6,4,5],[3,2,0,1,7,6,4,5],[8,3,2,0,1,7,6,4,5]] [⟨some 17,none,.mv (.t 0)⟩,⟨some 18,none,.mv (.t 5)⟩,⟨some 19,none,.iaddr 2 (.t 17) (.t 18)⟩,⟨some 20,none,.load true 2 (.t 19)⟩,⟨some 21,none,.mv (.t 1)⟩,⟨some 22,none,.mv (.t 5)⟩,⟨some 23,none,.iaddr 2 (.t 21) (.t 22)⟩,⟨some 24,none,.load true 2 (.t 23)⟩,⟨some 25,none,.call 76 [(.t 20),(.t 24)]⟩,⟨some 26,none,.un .not (.t 25)⟩]) (.cond (.t 26) (.seq (.reg [⟨some 4,none,.mv (.c (.bool false))⟩]) .ret) .skip))) (.reg [⟨some 15,none,.mv (.t 5)⟩,⟨some 16,none,.bin .add false (.t 15) (.c (.int .i64 1))⟩,⟨some 5,none,.mv (.t 16)⟩])))))) (.seq (.reg [⟨some 4,none,.mv (.c (.bool true))⟩]) .ret))))
theorem Lx:Aj Try.prog 91=some ⟨27,Gy,[(.tmp 4)]⟩:=by kernel_rfl
theorem Gz:modes 91=⟨[],.asis,none,false⟩:=by unfold modes; rfl
abbrev IB (x:Tm):Prop:=x.bulk≤1048576→E 76 [x.sv,x.sv] []=some (.bool true,[])
abbrev MU (xs:List Tm):Prop:=xs.length+Tm.sumB xs≤1048576→E 91 [.arr (xs.map Tm.d),.arr (xs.map Tm.d)] []=some (.bool true,[])
theorem NB (xs:List Tm) (h:∀ x∈xs,IB x):MU xs:=by
 intro hb
 refine Ab Lx Gz (of_decide_eq_true rfl) ?_
 simp (disch:=omega) only [Gy,go_sem,Aa]
 refine go_loop (α:=Int) (fun i=>⟨slots 27 0 [(0,.arr (xs.map Tm.d)),(1,.arr (xs.map Tm.d)),(5,.int .i64 i)],[]⟩) (fun i=>∃ k:Nat,i=k∧k≤xs.length) (fun i=>xs.length-i.toNat) 0 ⟨0,rfl,zF _⟩ (by simp (disch:=omega) only [go_sem,Aa]) ?_
 ·rintro i ⟨k,rfl,hk⟩
  obtain ⟨i,hi⟩:∃ i:Int,i=(k:Int):=⟨_,rfl⟩
  rw [←hi]
  have hn:i.toNat=k:=by omega
  rcases zE k xs.length with hlt | hge
  ·have hg:=get_at Tm.d hlt
   rw [Tm.d_eq] at hg
   have hle:=Tm.bulk_le xs k hlt
   have hc:=h xs[k] (zD hlt) (by omega)
   simp (disch:=omega) only [go_sem,Aa,hn,hg,hc,E9]
   refine ⟨i+1,⟨k+1,by omega,hlt⟩,by omega,?_⟩
   trivial
  ·obtain rfl:k=xs.length:=by omega
   simp (disch:=omega) only [go_sem,Aa,hn]
theorem Pf (x:Tm) (h_args:MU x.args):IB x:=by
 intro hb
 have qb:=Tm.bulk_eq x
 replace h_args:=h_args (by omega)
 refine Ab LQ E9 (of_decide_eq_true rfl) ?_
 simp (disch:=omega) only [Hs,go_sem,Aa,h_args,Gz,Cq]
theorem Pg (x:Tm):IB x:=Pf x (NB x.args fun y hy=>Pg y)
termination_by SizeOf.sizeOf x
decreasing_by exact Tm.Av hy
def Fe:SC:=(.seq (.reg [⟨some 2,none,.boxv 47 3 (.t 0)⟩,⟨some 3,none,.boxv 47 3 (.t 1)⟩,⟨some 4,none,.mv (.c (.bool false))⟩]) (.seq (.seq (.reg [⟨some 5,none,.faddr 0 (.t 2)⟩,⟨some 6,none,.load false 1 (.t 5)⟩,⟨some 7,none,.faddr 0 (.t 3)⟩,⟨some 8,none,.load false 1 (.t 7)⟩,⟨some 9,none,.bin .neq true (.t 6) (.t 8)⟩]) (.cond (.t 9) (.seq (.reg [⟨some 4,none,.mv (.c (.bool false))⟩]) .ret) .skip)) (.seq (.seq (.reg [⟨some 10,none,.faddr 1 (.t 2)⟩,⟨some 11,none,.load true 2 (.t 10)⟩,⟨some 12,none,.faddr 1 (.t 3)⟩,⟨some 13,none,.load true 2 (.t 12)⟩,⟨some 14,none,.call 76 [(.t 11),(.t 13)]⟩,⟨some 15,none,.un .not (.t 14)⟩]) (.cond (.t 15) (.seq (.reg [⟨some 4,none,.mv (.c (.bool false))⟩]) .ret) .skip)) (.seq (.reg [⟨some 4,none,.mv (.c (.bool true))⟩]) .ret))))
theorem Jn:Aj Try.prog 62=some ⟨16,Fe,[(.tmp 4)]⟩:=by kernel_rfl
theorem Ff:modes 62=⟨[],.asis,none,false⟩:=by unfold modes; rfl
def Ey:SC:=(.seq (.reg [⟨some 4,none,.mv (.c (.bool false))⟩]) (.seq (.seq (.reg [⟨some 6,none,.mv (.t 0)⟩,⟨some 7,none,.len false (.t 6)⟩,⟨some 8,none,.mv (.t 1)⟩,⟨some 9,none,.len false (.t 8)⟩,⟨some 10,none,.bin .neq false (.t 7) (.t 9)⟩]) (.cond (.t 10) (.seq (.reg [⟨some 4,none,.mv (.c (.bool false))⟩]) .ret) .skip)) (.seq (.seq (.reg [⟨some 5,none,.mv (.c (.int .i64 0))⟩]) (.block 0 (.loop [1,1,0,0,0,1,0,0,0,0,0,0,0,0,0,0,0,0,0,0,0,0,0,0,0,0,0] (.seq (.seq (.reg [⟨some 11,none,.mv (.t 5)⟩,⟨some 12,none,.mv (.t 0)⟩,⟨some 13,none,.len false (.t 12)⟩,⟨some 14,none,.bin .lss false (.t 11) (.t 13)⟩]) (.cond (.t 14) .skip (.exit 0))) (.seq (.block 1 (.seq (.dreg [[],[],[0,1],[2,0,1],[],[],[4,5],[6,4,5],[3,2,0,1,7,6,4,5],[8,3,2,0,1,7,6,4,5]] [⟨some 17,none,.mv (.t 0)⟩,⟨some 18,none,.mv (.t 5)⟩,⟨some 19,none,.iaddr 3 (.t 17) (.t 18)⟩,⟨some 20,none,.load true 3 (.t 19)⟩,⟨some 21,none,.mv (.t 1)⟩,⟨some 22,none,.mv (.t 5)⟩,⟨some 23,none,.iaddr 3 (.t 21) (.t 22)⟩,⟨some 24,none,.load true 3 (.t 23)⟩,⟨some 25,none,.call 62 [(.t 20),(.t 24)]⟩,⟨some 26,none,.un .not (.t 25)⟩]) (.cond (.t 26) (.seq (.reg [⟨some 4,none,.mv (.c (.bool false))⟩]) .ret) .skip))) (.reg [⟨some 15,none,.mv (.t 5)⟩,⟨some 16,none,.bin .add false (.t 15) (.c (.int .i64 1))⟩,⟨some 5,none,.mv (.t 16)⟩])))))) (.seq (.reg [⟨some 4,none,.mv (.c (.bool true))⟩]) .ret))))
theorem IC:Aj Try.prog 42=some ⟨27,Ey,[(.tmp 4)]⟩:=by kernel_rfl
theorem Ez:modes 42=⟨[],.asis,none,false⟩:=by unfold modes; rfl
abbrev G0 (x:Lt):Prop:=x.bulk≤1048576→E 62 [x.sv,x.sv] []=some (.bool true,[])
abbrev ID (xs:List Lt):Prop:=xs.length+Lt.sumB xs≤1048576→E 42 [.arr (xs.map Lt.d),.arr (xs.map Lt.d)] []=some (.bool true,[])
theorem JX (xs:List Lt) (h:∀ x∈xs,G0 x):ID xs:=by
 intro hb
 refine Ab IC Ez (of_decide_eq_true rfl) ?_
 simp (disch:=omega) only [Ey,go_sem,Aa]
 refine go_loop (α:=Int) (fun i=>⟨slots 27 0 [(0,.arr (xs.map Lt.d)),(1,.arr (xs.map Lt.d)),(5,.int .i64 i)],[]⟩) (fun i=>∃ k:Nat,i=k∧k≤xs.length) (fun i=>xs.length-i.toNat) 0 ⟨0,rfl,zF _⟩ (by simp (disch:=omega) only [go_sem,Aa]) ?_
 ·rintro i ⟨k,rfl,hk⟩
  obtain ⟨i,hi⟩:∃ i:Int,i=(k:Int):=⟨_,rfl⟩
  rw [←hi]
  have hn:i.toNat=k:=by omega
  rcases zE k xs.length with hlt | hge
  ·have hg:=get_at Lt.d hlt
   rw [Lt.d_eq] at hg
   have hle:=Lt.bulk_le xs k hlt
   have hc:=h xs[k] (zD hlt) (by omega)
   simp (disch:=omega) only [go_sem,Aa,hn,hg,hc,Ff]
   refine ⟨i+1,⟨k+1,by omega,hlt⟩,by omega,?_⟩
   trivial
  ·obtain rfl:k=xs.length:=by omega
   simp (disch:=omega) only [go_sem,Aa,hn]
theorem Ly (x:Lt) (h_atom:IB x.atom):G0 x:=by
 intro hb
 have qb:=Lt.bulk_eq x
 replace h_atom:=h_atom (by omega)
 refine Ab Jn Ff (of_decide_eq_true rfl) ?_
 simp (disch:=omega) only [Fe,go_sem,Aa,h_atom,E9,Cq]
theorem Ph (x:Lt):G0 x:=Ly x (Pg x.atom)
def FA:SC:=(.seq (.reg [⟨some 2,none,.boxv 41 1 (.t 0)⟩,⟨some 3,none,.boxv 41 1 (.t 1)⟩,⟨some 4,none,.mv (.c (.bool false))⟩]) (.seq (.seq (.reg [⟨some 5,none,.faddr 0 (.t 2)⟩,⟨some 6,none,.load false 1 (.t 5)⟩,⟨some 7,none,.faddr 0 (.t 3)⟩,⟨some 8,none,.load false 1 (.t 7)⟩,⟨some 9,none,.call 42 [(.t 6),(.t 8)]⟩,⟨some 10,none,.un .not (.t 9)⟩]) (.cond (.t 10) (.seq (.reg [⟨some 4,none,.mv (.c (.bool false))⟩]) .ret) .skip)) (.seq (.reg [⟨some 4,none,.mv (.c (.bool true))⟩]) .ret)))
theorem JY:Aj Try.prog 22=some ⟨11,FA,[(.tmp 4)]⟩:=by kernel_rfl
theorem FB:modes 22=⟨[],.asis,none,false⟩:=by unfold modes; rfl
def Fg:SC:=(.seq (.reg [⟨some 4,none,.mv (.c (.bool false))⟩]) (.seq (.seq (.reg [⟨some 6,none,.mv (.t 0)⟩,⟨some 7,none,.len false (.t 6)⟩,⟨some 8,none,.mv (.t 1)⟩,⟨some 9,none,.len false (.t 8)⟩,⟨some 10,none,.bin .neq false (.t 7) (.t 9)⟩]) (.cond (.t 10) (.seq (.reg [⟨some 4,none,.mv (.c (.bool false))⟩]) .ret) .skip)) (.seq (.seq (.reg [⟨some 5,none,.mv (.c (.int .i64 0))⟩]) (.block 0 (.loop [1,1,0,0,0,1,0,0,0,0,0,0,0,0,0,0,0,0,0,0,0,0,0,0,0,0,0] (.seq (.seq (.reg [⟨some 11,none,.mv (.t 5)⟩,⟨some 12,none,.mv (.t 0)⟩,⟨some 13,none,.len false (.t 12)⟩,⟨some 14,none,.bin .lss false (.t 11) (.t 13)⟩]) (.cond (.t 14) .skip (.exit 0))) (.seq (.block 1 (.seq (.dreg [[],[],[0,1],[2,0,1],[],[],[4,5],[6,4,5],[3,2,0,1,7,6,4,5],[8,3,2,0,1,7,6,4,5]] [⟨some 17,none,.mv (.t 0)⟩,⟨some 18,none,.mv (.t 5)⟩,⟨some 19,none,.iaddr 1 (.t 17) (.t 18)⟩,⟨some 20,none,.load true 1 (.t 19)⟩,⟨some 21,none,.mv (.t 1)⟩,⟨some 22,none,.mv (.t 5)⟩,⟨some 23,none,.iaddr 1 (.t 21) (.t 22)⟩,⟨some 24,none,.load true 1 (.t 23)⟩,⟨some 25,none,.call 22 [(.t 20),(.t 24)]⟩,⟨some 26,none,.un .not (.t 25)⟩]) (.cond (.t 26) (.seq (.reg [⟨some 4,none,.mv (.c (.bool false))⟩]) .ret) .skip))) (.reg [⟨some 15,none,.mv (.t 5)⟩,⟨some 16,none,.bin .add false (.t 15) (.c (.int .i64 1))⟩,⟨some 5,none,.mv (.t 16)⟩])))))) (.seq (.reg [⟨some 4,none,.mv (.c (.bool true))⟩]) .ret))))
theorem Jo:Aj Try.prog 9=some ⟨27,Fg,[(.tmp 4)]⟩:=by kernel_rfl
theorem BS:modes 9=⟨[],.asis,none,false⟩:=by unfold modes; rfl
abbrev HO (x:Cl):Prop:=x.bulk≤1048576→E 22 [x.sv,x.sv] []=some (.bool true,[])
abbrev JG (xs:List Cl):Prop:=xs.length+Cl.sumB xs≤1048576→E 9 [.arr (xs.map Cl.d),.arr (xs.map Cl.d)] []=some (.bool true,[])
theorem Lz (xs:List Cl) (h:∀ x∈xs,HO x):JG xs:=by
 intro hb
 refine Ab Jo BS (of_decide_eq_true rfl) ?_
 simp (disch:=omega) only [Fg,go_sem,Aa]
 refine go_loop (α:=Int) (fun i=>⟨slots 27 0 [(0,.arr (xs.map Cl.d)),(1,.arr (xs.map Cl.d)),(5,.int .i64 i)],[]⟩) (fun i=>∃ k:Nat,i=k∧k≤xs.length) (fun i=>xs.length-i.toNat) 0 ⟨0,rfl,zF _⟩ (by simp (disch:=omega) only [go_sem,Aa]) ?_
 ·rintro i ⟨k,rfl,hk⟩
  obtain ⟨i,hi⟩:∃ i:Int,i=(k:Int):=⟨_,rfl⟩
  rw [←hi]
  have hn:i.toNat=k:=by omega
  rcases zE k xs.length with hlt | hge
  ·have hg:=get_at Cl.d hlt
   rw [Cl.d_eq] at hg
   have hle:=Cl.bulk_le xs k hlt
   have hc:=h xs[k] (zD hlt) (by omega)
   simp (disch:=omega) only [go_sem,Aa,hn,hg,hc,FB]
   refine ⟨i+1,⟨k+1,by omega,hlt⟩,by omega,?_⟩
   trivial
  ·obtain rfl:k=xs.length:=by omega
   simp (disch:=omega) only [go_sem,Aa,hn]
theorem LR (x:Cl) (h_lits:ID x.lits):HO x:=by
 intro hb
 have qb:=Cl.bulk_eq x
 replace h_lits:=h_lits (by omega)
 refine Ab JY FB (of_decide_eq_true rfl) ?_
 simp (disch:=omega) only [FA,go_sem,Aa,h_lits,Ez,Cq]
theorem Qd (x:Cl):HO x:=LR x (JX x.lits fun y hy=>Ph y)
theorem Pi (xs:List Cl):JG xs:=Lz xs fun x _=>Qd x
def G1:SC:=(.seq (.reg [⟨some 2,none,.boxv 57 4 (.t 0)⟩,⟨some 3,none,.boxv 57 4 (.t 1)⟩,⟨some 4,none,.mv (.c (.bool false))⟩]) (.seq (.seq (.reg [⟨some 5,none,.faddr 0 (.t 2)⟩,⟨some 6,none,.load false 1 (.t 5)⟩,⟨some 7,none,.faddr 0 (.t 3)⟩,⟨some 8,none,.load false 1 (.t 7)⟩,⟨some 9,none,.bin .neq false (.t 6) (.t 8)⟩]) (.cond (.t 9) (.seq (.reg [⟨some 4,none,.mv (.c (.bool false))⟩]) .ret) .skip)) (.seq (.seq (.reg [⟨some 10,none,.faddr 1 (.t 2)⟩,⟨some 11,none,.load false 1 (.t 10)⟩,⟨some 12,none,.faddr 1 (.t 3)⟩,⟨some 13,none,.load false 1 (.t 12)⟩,⟨some 14,none,.bin .neq false (.t 11) (.t 13)⟩]) (.cond (.t 14) (.seq (.reg [⟨some 4,none,.mv (.c (.bool false))⟩]) .ret) .skip)) (.seq (.seq (.reg [⟨some 15,none,.faddr 2 (.t 2)⟩,⟨some 16,none,.load false 1 (.t 15)⟩,⟨some 17,none,.faddr 2 (.t 3)⟩,⟨some 18,none,.load false 1 (.t 17)⟩,⟨some 19,none,.bin .neq true (.t 16) (.t 18)⟩]) (.cond (.t 19) (.seq (.reg [⟨some 4,none,.mv (.c (.bool false))⟩]) .ret) .skip)) (.seq (.seq (.reg [⟨some 20,none,.faddr 3 (.t 2)⟩,⟨some 21,none,.load false 1 (.t 20)⟩,⟨some 22,none,.faddr 3 (.t 3)⟩,⟨some 23,none,.load false 1 (.t 22)⟩,⟨some 24,none,.call 41 [(.t 21),(.t 23)]⟩,⟨some 25,none,.un .not (.t 24)⟩]) (.cond (.t 25) (.seq (.reg [⟨some 4,none,.mv (.c (.bool false))⟩]) .ret) .skip)) (.seq (.reg [⟨some 4,none,.mv (.c (.bool true))⟩]) .ret))))))
theorem L1:Aj Try.prog 21=some ⟨26,G1,[(.tmp 4)]⟩:=by kernel_rfl
theorem G2:modes 21=⟨[],.asis,none,false⟩:=by unfold modes; rfl
def FD:SC:=(.seq (.reg [⟨some 4,none,.mv (.c (.bool false))⟩]) (.seq (.seq (.reg [⟨some 6,none,.mv (.t 0)⟩,⟨some 7,none,.len false (.t 6)⟩,⟨some 8,none,.mv (.t 1)⟩,⟨some 9,none,.len false (.t 8)⟩,⟨some 10,none,.bin .neq false (.t 7) (.t 9)⟩]) (.cond (.t 10) (.seq (.reg [⟨some 4,none,.mv (.c (.bool false))⟩]) .ret) .skip)) (.seq (.seq (.reg [⟨some 5,none,.mv (.c (.int .i64 0))⟩]) (.block 0 (.loop [1,1,0,0,0,1,0,0,0,0,0,0,0,0,0,0,0,0,0,0,0,0,0,0,0,0,0] (.seq (.seq (.reg [⟨some 11,none,.mv (.t 5)⟩,⟨some 12,none,.mv (.t 0)⟩,⟨some 13,none,.len false (.t 12)⟩,⟨some 14,none,.bin .lss false (.t 11) (.t 13)⟩]) (.cond (.t 14) .skip (.exit 0))) (.seq (.block 1 (.seq (.dreg [[],[],[0,1],[2,0,1],[],[],[4,5],[6,4,5],[3,2,0,1,7,6,4,5],[8,3,2,0,1,7,6,4,5]] [⟨some 17,none,.mv (.t 0)⟩,⟨some 18,none,.mv (.t 5)⟩,⟨some 19,none,.iaddr 4 (.t 17) (.t 18)⟩,⟨some 20,none,.load true 4 (.t 19)⟩,⟨some 21,none,.mv (.t 1)⟩,⟨some 22,none,.mv (.t 5)⟩,⟨some 23,none,.iaddr 4 (.t 21) (.t 22)⟩,⟨some 24,none,.load true 4 (.t 23)⟩,⟨some 25,none,.call 21 [(.t 20),(.t 24)]⟩,⟨some 26,none,.un .not (.t 25)⟩]) (.cond (.t 26) (.seq (.reg [⟨some 4,none,.mv (.c (.bool false))⟩]) .ret) .skip))) (.reg [⟨some 15,none,.mv (.t 5)⟩,⟨some 16,none,.bin .add false (.t 15) (.c (.int .i64 1))⟩,⟨some 5,none,.mv (.t 16)⟩])))))) (.seq (.reg [⟨some 4,none,.mv (.c (.bool true))⟩]) .ret))))
theorem JZ:Aj Try.prog 8=some ⟨27,FD,[(.tmp 4)]⟩:=by kernel_rfl
theorem Cg:modes 8=⟨[],.asis,none,false⟩:=by unfold modes; rfl
abbrev Jp (x:Tl):Prop:=x.bulk≤1048576→E 21 [x.sv,x.sv] []=some (.bool true,[])
abbrev L2 (xs:List Tl):Prop:=xs.length+Tl.sumB xs≤1048576→E 8 [.arr (xs.map Tl.d),.arr (xs.map Tl.d)] []=some (.bool true,[])
theorem LS (xs:List Tl) (h:∀ x∈xs,Jp x):L2 xs:=by
 intro hb
 refine Ab JZ Cg (of_decide_eq_true rfl) ?_
 simp (disch:=omega) only [FD,go_sem,Aa]
 refine go_loop (α:=Int) (fun i=>⟨slots 27 0 [(0,.arr (xs.map Tl.d)),(1,.arr (xs.map Tl.d)),(5,.int .i64 i)],[]⟩) (fun i=>∃ k:Nat,i=k∧k≤xs.length) (fun i=>xs.length-i.toNat) 0 ⟨0,rfl,zF _⟩ (by simp (disch:=omega) only [go_sem,Aa]) ?_
 ·rintro i ⟨k,rfl,hk⟩
  obtain ⟨i,hi⟩:∃ i:Int,i=(k:Int):=⟨_,rfl⟩
  rw [←hi]
  have hn:i.toNat=k:=by omega
  rcases zE k xs.length with hlt | hge
  ·have hg:=get_at Tl.d hlt
   rw [Tl.d_eq] at hg
   have hle:=Tl.bulk_le xs k hlt
   have hc:=h xs[k] (zD hlt) (by omega)
   simp (disch:=omega) only [go_sem,Aa,hn,hg,hc,G2]
   refine ⟨i+1,⟨k+1,by omega,hlt⟩,by omega,?_⟩
   trivial
  ·obtain rfl:k=xs.length:=by omega
   simp (disch:=omega) only [go_sem,Aa,hn]
theorem NC (x:Tl) (h_vals:Pe x.vals):Jp x:=by
 intro hb
 have qb:=Tl.bulk_eq x
 replace h_vals:=h_vals (by omega)
 refine Ab L1 G2 (of_decide_eq_true rfl) ?_
 simp (disch:=omega) only [G1,go_sem,Aa,h_vals,Hr,Cq]
theorem RF (x:Tl):Jp x:=NC x (Tp x.vals)
theorem Qe (xs:List Tl):L2 xs:=LS xs fun x _=>RF x
def BB:SC:=(.seq (.reg [⟨some 2,none,.mv (.c (.bool false))⟩]) (.seq (.reg [⟨some 3,none,.mv (.c (.int .i64 1048576))⟩]) (.seq (.reg [⟨some 14,none,.mv (.t 0)⟩,⟨some 15,none,.mv (.t 3)⟩,⟨some 16,none,.call 4 [(.t 14),(.t 15)]⟩,⟨some 3,none,.mv (.t 16)⟩]) (.seq (.seq (.reg [⟨some 17,none,.mv (.t 3)⟩,⟨some 18,none,.bin .lss false (.t 17) (.c (.int .i64 0))⟩]) (.cond (.t 18) (.seq (.reg [⟨some 2,none,.mv (.c (.bool true))⟩]) .ret) .skip)) (.seq (.reg [⟨some 20,none,.mv (.t 0)⟩,⟨some 21,none,.call 6 [(.t 20)]⟩,⟨some 22,none,.call 5 [(.t 21)]⟩,⟨some 19,none,.mv (.t 22)⟩,⟨some 23,none,.ext (.t 19) 0⟩,⟨some 24,none,.ext (.t 19) 1⟩,⟨some 4,none,.mv (.t 23)⟩,⟨some 5,none,.mv (.t 24)⟩]) (.seq (.reg [⟨some 25,none,.mv (.t 0)⟩,⟨some 26,none,.call 6 [(.t 25)]⟩,⟨some 6,none,.mv (.t 26)⟩]) (.seq (.reg [⟨some 28,none,.mv (.t 6)⟩,⟨some 29,none,.call 7 [(.t 28)]⟩,⟨some 27,none,.mv (.t 29)⟩,⟨some 30,none,.ext (.t 27) 0⟩,⟨some 31,none,.ext (.t 27) 1⟩,⟨some 7,none,.mv (.t 30)⟩,⟨some 8,none,.mv (.t 31)⟩]) (.seq (.seq (.reg [⟨some 32,none,.mv (.t 7)⟩,⟨some 33,none,.mv (.t 4)⟩,⟨some 34,none,.call 8 [(.t 32),(.t 33)]⟩,⟨some 35,none,.un .not (.t 34)⟩,⟨some 36,none,.mv (.t 35)⟩,⟨(some 37),(some (36,false)),(.mv (.t 8))⟩,⟨(some 38),(some (36,false)),(.mv (.t 5))⟩,⟨(some 39),(some (36,false)),(.bin .neq true (.t 37) (.t 38))⟩,⟨some 40,none,.pick (.t 36) (.c (.bool true)) (.t 39)⟩]) (.cond (.t 40) (.seq (.reg [⟨some 2,none,.mv (.c (.bool false))⟩]) .ret) .skip)) (.seq (.seq (.reg [⟨some 41,none,.mv (.t 6)⟩,⟨some 42,none,.mv (.t 0)⟩,⟨some 43,none,.call 6 [(.t 42)]⟩,⟨some 44,none,.call 9 [(.t 41),(.t 43)]⟩,⟨some 45,none,.un .not (.t 44)⟩]) (.cond (.t 45) (.seq (.reg [⟨some 2,none,.mv (.c (.bool false))⟩]) .ret) .skip)) (.seq (.reg [⟨some 9,none,.mv (.c (.int .i64 1))⟩]) (.seq (.reg [⟨some 46,none,.mv (.t 6)⟩,⟨some 47,none,.mv (.t 9)⟩,⟨some 48,none,.call 10 [(.t 46),(.t 47)]⟩,⟨some 9,none,.mv (.t 48)⟩]) (.seq (.seq (.reg [⟨some 49,none,.mv (.t 9)⟩,⟨some 50,none,.bin .lss false (.t 49) (.c (.int .i64 0))⟩,⟨some 51,none,.mv (.t 50)⟩,⟨(some 52),(some (51,false)),(.mv (.t 7))⟩,⟨(some 53),(some (51,false)),(.mv (.t 4))⟩,⟨(some 54),(some (51,false)),(.call 8 [(.t 52),(.t 53)])⟩,⟨(some 55),(some (51,false)),(.un .not (.t 54))⟩,⟨some 56,none,.pick (.t 51) (.c (.bool true)) (.t 55)⟩,⟨some 57,none,.mv (.t 56)⟩,⟨(some 58),(some (57,false)),(.mv (.t 8))⟩,⟨(some 59),(some (57,false)),(.mv (.t 5))⟩,⟨(some 60),(some (57,false)),(.bin .neq true (.t 58) (.t 59))⟩,⟨some 61,none,.pick (.t 57) (.c (.bool true)) (.t 60)⟩]) (.cond (.t 61) (.seq (.reg [⟨some 2,none,.mv (.c (.bool false))⟩]) .ret) .skip)) (.seq (.reg [⟨some 10,none,.mv (.c (.int .i64 1))⟩]) (.seq (.reg [⟨some 62,none,.mv (.t 7)⟩,⟨some 63,none,.mv (.t 10)⟩,⟨some 64,none,.call 11 [(.t 62),(.t 63)]⟩,⟨some 10,none,.mv (.t 64)⟩]) (.seq (.reg [⟨some 11,none,.mv (.c (.int .i64 1))⟩]) (.seq (.reg [⟨some 65,none,.mv (.t 7)⟩,⟨some 66,none,.mv (.t 11)⟩,⟨some 67,none,.call 12 [(.t 65),(.t 66)]⟩,⟨some 11,none,.mv (.t 67)⟩]) (.seq (.seq (.reg [⟨some 68,none,.mv (.t 11)⟩,⟨some 69,none,.bin .lss false (.t 68) (.c (.int .i64 0))⟩]) (.cond (.t 69) (.seq (.reg [⟨some 2,none,.mv (.c (.bool false))⟩]) .ret) .skip)) (.seq (.seq (.reg [⟨some 70,none,.mv (.t 11)⟩,⟨some 71,none,.mv (.t 10)⟩,⟨some 72,none,.bin .neq false (.t 70) (.t 71)⟩]) (.cond (.t 72) (.seq (.reg [⟨some 2,none,.mv (.c (.bool false))⟩]) .ret) .skip)) (.seq (.reg [⟨some 74,none,.mv (.t 0)⟩,⟨some 75,none,.call 6 [(.t 74)]⟩,⟨some 76,none,.call 7 [(.t 75)]⟩,⟨some 73,none,.mv (.t 76)⟩,⟨some 77,none,.ext (.t 73) 0⟩,⟨some 78,none,.ext (.t 73) 1⟩,⟨some 12,none,.mv (.t 77)⟩,⟨some 13,none,.mv (.t 78)⟩]) (.seq (.seq (.reg [⟨some 79,none,.mv (.t 12)⟩,⟨some 80,none,.mv (.t 4)⟩,⟨some 81,none,.call 8 [(.t 79),(.t 80)]⟩,⟨some 82,none,.un .not (.t 81)⟩,⟨some 83,none,.mv (.t 82)⟩,⟨(some 84),(some (83,false)),(.mv (.t 13))⟩,⟨(some 85),(some (83,false)),(.mv (.t 5))⟩,⟨(some 86),(some (83,false)),(.bin .neq true (.t 84) (.t 85))⟩,⟨some 87,none,.pick (.t 83) (.c (.bool true)) (.t 86)⟩]) (.cond (.t 87) (.seq (.reg [⟨some 2,none,.mv (.c (.bool false))⟩]) .ret) .skip)) (.seq (.reg [⟨some 11,none,.mv (.c (.int .i64 1))⟩]) (.seq (.reg [⟨some 88,none,.mv (.t 7)⟩,⟨some 89,none,.mv (.t 11)⟩,⟨some 90,none,.call 12 [(.t 88),(.t 89)]⟩,⟨some 11,none,.mv (.t 90)⟩]) (.seq (.seq (.reg [⟨some 91,none,.mv (.t 11)⟩,⟨some 92,none,.bin .lss false (.t 91) (.c (.int .i64 0))⟩]) (.cond (.t 92) (.seq (.reg [⟨some 2,none,.mv (.c (.bool false))⟩]) .ret) .skip)) (.seq (.seq (.reg [⟨some 93,none,.mv (.t 11)⟩,⟨some 94,none,.mv (.t 10)⟩,⟨some 95,none,.bin .neq false (.t 93) (.t 94)⟩]) (.cond (.t 95) (.seq (.reg [⟨some 2,none,.mv (.c (.bool false))⟩]) .ret) .skip)) (.seq (.reg [⟨some 2,none,.mv (.c (.bool true))⟩]) .ret)))))))))))))))))))))))))
theorem Cz:Aj Try.prog 3=some ⟨96,BB,[(.tmp 2)]⟩:=by kernel_rfl
theorem C0:modes 3=⟨[],.asis,none,false⟩:=by unfold modes; rfl
theorem Cl.RG (x:Cl) (h:x.bulk≤1048576):x.tame:=by
 rw [Cl.bulk_eq] at h
 refine ⟨by omega,fun y hy=>?_⟩
 obtain ⟨k,hk,rfl⟩:=zU hy
 have h1:=Lt.bulk_le x.lits k hk
 have h2:=Tm.La x.lits[k].atom
 rw [Lt.bulk_eq] at h1
 omega
theorem Cl.RH {cs:List Cl} (h:cs.length+Cl.sumB cs≤1048576):∀ c∈cs,c.tame:=fun c hc=>by
 obtain ⟨k,hk,rfl⟩:=zU hc
 have h1:=Cl.bulk_le cs k hk
 exact Cl.RG _ (by omega)
theorem RI {x:Tm} (h:x.names=true):x.name.size≤6:=by
 rw [Tm.ER] at h
 split at h
 ·rename_i hv; exact Ry hv
 ·rw [zT,zT] at h; exact Rz h.1.1
theorem ND (x:Tm) (h:x.names=true) (p:Bool) (t:Tl) (ht:t∈x.sgI p):t.name.size≤6:=by
 rw [Tm.Jb,zK,Tm.EV] at ht
 rcases ht with ⟨z,hz,ht⟩ | ht
 ·exact ND z (Tm.IZ h hz) false t ht
 ·revert ht
  cases (dec (x.name=⟨#[61]⟩) || AY x.name) with
  | true=>intro h; cases h
  | false =>
   intro ht
   rw [cond_false,List.mem_singleton] at ht
   rw [ht]
   exact RI h
termination_by SizeOf.sizeOf x
decreasing_by exact Tm.Av hz
theorem Tq {x:Tm} (h:x.expr=true) (t:Tl) (ht:t∈x.sgI true):t.name.size≤6:=by
 rcases Tm.HC h with h1 | ⟨h1,h2⟩
 ·exact ND x h1 true t ht
 ·have he:dec (x.name=⟨#[61]⟩)=true:=h1
  rw [Tm.Jb,he,Bool.true_or,cond_true,zS,Tm.EV] at ht
  obtain ⟨z,hz,ht⟩:=ht
  exact ND z (Tm.KY h hz) false t ht
theorem QK:∀ (ls:List Lt),(∀ l∈ls,l.atom.atom=true)→∀ t∈JO ls,t.name.size≤6
 | [],_,t,h=>by cases h
 | l :: ls,hl,t,h=>by
  rw [JO,zK] at h
  rcases h with h | h
  ·exact Tq (Tm.GN (hl l (by simp))) t h
  ·exact QK ls (fun m hm=>hl m (by simp [hm])) t h
theorem QL:∀ (cs:List Cl),(∀ c∈cs,c.ok=true)→∀ t∈GR cs,t.name.size≤6
 | [],_,t,h=>by cases h
 | c :: cs,hc,t,h=>by
  rw [GR,zK] at h
  rcases h with h | h
  ·refine QK c.lits (fun l hl=>?_) t h
   obtain ⟨k,hk,rfl⟩:=zU hl
   exact Cl.QG (hc c (by simp)) hk
  ·exact QL cs (fun m hm=>hc m (by simp [hm])) t h
theorem QM:∀ (ts:List Tl),(∀ t∈ts,t.name.size≤6∧t.vals=[])→Tl.sumB ts≤6*ts.length
 | [],_=>by simp [Tl.sumB]
 | t :: ts,h=>by
  obtain ⟨h1,h2⟩:=h t (by simp)
  have h3:=QM ts fun u hu=>h u (by simp [hu])
  rw [Tl.sumB,Tl.bulk_eq,h2,zG]
  simp only [zM]
  omega
theorem Tr (cs:List Cl):((Hm cs).getD []).length+Tl.sumB ((Hm cs).getD [])≤1048576:=by
 unfold Hm
 cases hq:dec (30<cs.length) || cs.any (fun c=>!c.ok) with
 | true=>simp [Tl.sumB]
 | false =>
  rw [cond_false]
  cases hr:(Gm cs).2 || dec (12<(Gm cs).1.length) with
  | true=>simp [Tl.sumB]
  | false =>
   rw [cond_false,Option.getD_some]
   rw [z4] at hq hr
   have h12:=Bi.1 hr.2
   have hok:∀ c∈cs,c.ok=true:=fun c hc=>by
    have:=List.any_eq_false.1 hq.2 c hc
    simpa using this
   have hs:=Tf (GO cs)
   have h6:=QM (Gm cs).1 fun t ht=>⟨QL cs hok t (hs.sub t ht),GO cs t (hs.sub t ht)⟩
   omega
theorem U5 (cs:List Cl) (hfcs:D.fit (.arr (cs.map Cl.d))):E 3 [.arr (cs.map Cl.d)] []=some (.bool true,[]):=by
 have s0:=OZ cs hfcs 1048576 (by omega) (by omega)
 have q0:=AA 1048576 (cs.length+Cl.sumB cs)
 obtain ⟨l0,hl0⟩:∃ l,l=szR 1048576 ((cs.length+Cl.sumB cs):Nat):=⟨_,rfl⟩
 rw [←hl0] at s0 q0
 rcases Int.lt_or_le l0 0 with h0 | h0_0
 ·refine Ab Cz C0 (of_decide_eq_true rfl) ?_
  simp (disch:=omega) only [BB,go_sem,Aa,s0,B6]
 have hb_cs:(cs.length+Cl.sumB cs)≤1048576:=by omega
 have t_cs:=Pd cs hb_cs
 have hct:=Cl.RH hb_cs
 have a1:=Iw cs (by omega) hct
 rw [U4] at a1
 have a2:=It cs (by omega) hct
 have hb_r:=Tr cs
 obtain ⟨r,hr_r⟩:∃ r,r=(Hm cs).getD []:=⟨_,rfl⟩
 rw [←hr_r] at a1 a2 hb_r
 obtain ⟨o,hr_o⟩:∃ r,r=(Hm cs).isSome:=⟨_,rfl⟩
 rw [←hr_o] at a1 a2
 have eq_cs:=Pi cs (by omega)
 have w_cs:=Cl.wtS_bulk cs
 have eq_r:=Qe r (by omega)
 have w_r:=Tl.wtS_bulk r
 have k_cs:=Cl.mkS_end cs (1)
 have m_cs:=LK cs (1) [.row 41 1 (cs.map Cl.o)] (by omega) (by omega) rfl
 obtain ⟨n_cs,hn_cs⟩:∃ n1,n1=(Cl.mkS cs (1)).2:=⟨_,rfl⟩
 rw [←hn_cs] at k_cs m_cs
 have k_r:=Tl.mkS_end r (1)
 have m_r:=N7 r (1) [.row 57 4 (r.map Tl.o)] (by omega) (by omega) rfl
 have hd_r:=N8 r (1) (by omega) (by omega)
 obtain ⟨n_r,hn_r⟩:∃ n1,n1=(Tl.mkS r (1)).2:=⟨_,rfl⟩
 rw [←hn_r] at k_r m_r hd_r
 refine Ab Cz C0 (of_decide_eq_true rfl) ?_
 simp (disch:=omega) only [BB,go_sem,s0,t_cs,a1,a2,eq_cs,eq_r,m_cs,hd_r,m_r,Cq,B6,BR,BS,Cg,B8,BH,BG,Bo,AS,Cl.osv,Cl.obs,Lt.osv,Lt.obs,Tm.osv,Tm.obs,Tl.osv,Tl.obs,Cl.erss,Cl.noss,Tl.erss,Tl.noss]
 repeat ((first | (refine SI ?_ ?_; (focus (simp (disch:=omega) only [go_sem,s0,t_cs,a1,a2,eq_cs,eq_r,m_cs,hd_r,m_r,Cq,B6,BR,BS,Cg,B8,BH,BG,Bo,AS,Cl.osv,Cl.obs,Lt.osv,Lt.obs,Tm.osv,Tm.obs,Tl.osv,Tl.obs,Cl.erss,Cl.noss,Tl.erss,Tl.noss]; done))) | (refine SJ ?_ ?_; (focus (simp (disch:=omega) only [go_sem,s0,t_cs,a1,a2,eq_cs,eq_r,m_cs,hd_r,m_r,Cq,B6,BR,BS,Cg,B8,BH,BG,Bo,AS,Cl.osv,Cl.obs,Lt.osv,Lt.obs,Tm.osv,Tm.obs,Tl.osv,Tl.obs,Cl.erss,Cl.noss,Tl.erss,Tl.noss]; done)))); (try simp (disch:=omega) only [go_sem,s0,t_cs,a1,a2,eq_cs,eq_r,m_cs,hd_r,m_r,Cq,B6,BR,BS,Cg,B8,BH,BG,Bo,AS,Cl.osv,Cl.obs,Lt.osv,Lt.obs,Tm.osv,Tm.obs,Tl.osv,Tl.obs,Cl.erss,Cl.noss,Tl.erss,Tl.noss]))
end Go.Proofs.Ytmhjhclgihoaeaa
set_option maxRecDepth 100000
set_option linter.unusedSimpArgs false
set_option linter.unusedVariables false
set_option linter.unusedSectionVars false
namespace Go.Proofs.Ytmhjhclgihoaeaa
open Go.RowKit Go.ChangeShapes Go.WideShapes Go.ChangeAt Go.Deep
section
variable {H:Type} {enc:TypeId × Value→H} {P:Program} {w:World} {base:Nat} {spare:Nat→Bool} {held:Bool}
theorem G3 {b o k:Nat}:(⟨b,o,none⟩:Addr).add k=⟨b,o+k,none⟩:=by
 unfold Addr.add; split
 ·subst_vars; rfl
 ·rfl
theorem U6 {a:Addr} {v:Value} (h:w.cell? a=some v):a.block<w.heap.size:=by
 unfold World.cell? at h
 cases hb:w.heap[a.block]? with
 | none=>rw [hb] at h; cases h
 | some o=>exact (z7.1 hb).1
end
section
variable {H:Type} {enc:TypeId × Value→H} {w:World} {base:Nat} {spare:Nat→Bool} {held:Bool}
end
end Go.Proofs.Ytmhjhclgihoaeaa
set_option maxRecDepth 100000
set_option linter.unusedSimpArgs false
set_option linter.unusedVariables false
set_option linter.unusedSectionVars false
namespace Go.Proofs.Ytmhjhclgihoaeaa
open Go.RowKit Go.ChangeShapes Go.WideShapes Go.ChangeAt Go.Deep
section
variable {H:Type} {enc:TypeId × Value→H} {P:Program} {w:World} {base:Nat} {spare:Nat→Bool} {held:Bool}
theorem L3 {t e:TypeId} {fuel:Nat} {v:Value} {x:DataW H × List MemPlace} (sz:Nat) (hsz:P.cellsOf e=sz) (h0:0<sz) (ht:P.underlying t=some (.slice e)) (h:DataW.trod enc P w base spare held fuel t [v]=some x) :
  ∃ (a:Option Addr) (len cap:Nat) (f:Nat→Nat→Value),v=.slice a len cap∧len≤cap∧cap≤9223372036854775807∧SlA w 0 sz len f a ∧
   ∀ i,i<len→∃ n x',n<fuel∧DataW.trod enc P w base spare held n e ((z3 sz).map (f i))=some x':=by
 rcases DataW.trod_slice ht h with ⟨hcs,_⟩ | ⟨a,len,cap,elems,rest,n,hf,hcs,hx,hb,hl,hm,hlen,hel,_,_⟩
 ·simp only [List.cons.injEq,and_true] at hcs
  exact ⟨none,0,0,fun _ _=>undef,hcs,zX _,by omega,.inl rfl,fun i hi=>absurd hi (by omega)⟩
 ·have hi:∀ i,i<len→∃ cs' x',w.cells? base (a.add (i*sz)) sz=some cs'∧DataW.trod enc P w base spare held n e cs'=some x':=by
   intro i hi
   have h1:=hel i hi
   rw [hsz,zQ (by omega)] at h1
   obtain ⟨cs',h2,h3⟩:=Option.bind_eq_some_iff.1 h1
   exact ⟨cs',_,h2,h3⟩
  have hcell:∀ i j,i<len→j<sz→∃ v,w.cell? (a.add (i*sz+j))=some v:=by
   intro i j hil hj
   obtain ⟨cs',x',hc,_⟩:=hi i hil
   obtain ⟨_,hcl,hat⟩:=World.cells?_some hc
   have h1:=hat j hj
   rw [Go.Deep.add_add,zQ (by omega)] at h1
   exact ⟨_,h1⟩
  simp only [List.cons.injEq,and_true] at hcs
  refine ⟨some a,len,cap,fun i j=>(w.cell? (a.add (i*sz+j))).getD undef,hcs,hl,hm,?_,?_⟩
  ·rcases Nat.eq_zero_or_pos len with h | h
   ·exact .inl h
   ·obtain ⟨v,hv⟩:=hcell 0 0 h h0
    rw [Nat.zero_mul,Nat.zero_add] at hv
    have hsp:a.spot=none:=by simpa [Addr.add] using World.cell?_spot hv
    have hlt:=U6 hv
    obtain ⟨b,off,spot⟩:=a
    simp only at hsp
    subst hsp
    refine .inr ⟨b,off,rfl,zF _,by simpa [Addr.add] using hlt,fun i j hil hj=>?_⟩
    obtain ⟨v',hv'⟩:=hcell i j hil hj
    rw [G3] at hv'
    show _=some ((w.cell? ((⟨b,off,none⟩:Addr).add (i*sz+j))).getD undef)
    rw [G3,Nat.add_assoc,hv']
    rfl
  ·intro i hil
   obtain ⟨cs',x',hc,ht'⟩:=hi i hil
   obtain ⟨_,hcl,hat⟩:=World.cells?_some hc
   refine ⟨n,x',by omega,?_⟩
   have hcs':(z3 sz).map (fun j=>(w.cell? (a.add (i*sz+j))).getD undef)=cs':=by
    apply List.ext_getElem?
    intro j
    by_cases hj:j<sz
    ·rw [zP,List.getElem?_range hj]
     have h1:=hat j hj
     rw [Go.Deep.add_add] at h1
     rw [zQ (by omega:j<cs'.length)] at h1 ⊢
     simp [h1]
    ·rw [List.getElem?_eq_none (by simp; omega),List.getElem?_eq_none (by omega)]
   rw [hcs']
   exact ht'
theorem L4 {t:TypeId} {fs:Array Field} {fuel:Nat} {cs:List Value} {x:DataW H × List MemPlace} (ht:P.underlying t=some (.struct fs)) (h:DataW.trod enc P w base spare held fuel t cs=some x) :
  ∃ n,n<fuel∧cs.length=P.cellsOf t∧∀ (i:Nat) (f:Field),fs[i]?=some f→∃ y,DataW.trod enc P w base spare held n f.type ((cs.drop f.offset).take (P.cellsOf f.type))=some y:=by
 obtain ⟨xs,n,hn,hx,hlen,hxl,hf⟩:=DataW.trod_struct ht h
 refine ⟨n,by omega,hlen,fun i f hi=>?_⟩
 have hil:i<fs.size:=(z7.1 hi).1
 have h1:=hf i f hi
 rw [zQ (by omega:i<xs.length)] at h1
 exact ⟨_,h1⟩
end
inductive Lvs (w:World):List D→List Value→Prop
 |nil:Lvs w [] []
 |cons {d:D} {v:Value} {ds:List D} {vs:List Value} (h:DAt w d v) (hs:Lvs w ds vs):Lvs w (d :: ds) (v :: vs)
theorem Lvs.len {w:World} {ds:List D} {vs:List Value} (h:Lvs w ds vs):ds.length=vs.length:=by
 induction h with
 | nil=>rfl
 | cons h hs ih=>simp [ih]
theorem Lvs.get {w:World} {ds:List D} {vs:List Value} (h:Lvs w ds vs):∀ j (h1:j<ds.length) (h2:j<vs.length),DAt w ds[j] vs[j]:=by
 induction h with
 | nil=>intro j h1; simp at h1
 | cons h hs ih =>
  intro j h1 h2
  cases j with
  | zero=>exact h
  | succ j=>exact ih j (by simpa using h1) (by simpa using h2)
theorem L5 {α:Type} [Inhabited α] (dd:α→List D) {w:World} {m len cap:Nat} {f:Nat→Nat→Value} {a:Option Addr} (hl:len≤cap) (hm:cap≤9223372036854775807) (hS:SlA w 0 m len f a)
  (hel:∀ i,i<len→∃ X:α,Lvs w (dd X) ((z3 m).map (f i))):∃ xs:List α,DAt w (.arr (xs.map dd)) (.slice a len cap):=by
 obtain ⟨g,hg⟩:∃ g:Nat→α,∀ i,i<len→Lvs w (dd (g i)) ((z3 m).map (f i)) :=
  ⟨fun i=>if h:i<len then (hel i h).choose else default,fun i hi=>by simp only [hi,dif_pos]; exact (hel i hi).choose_spec⟩
 refine ⟨(z3 len).map g,?_⟩
 have hlen:(((z3 len).map g).map dd).length=len:=by simp
 have:=DAt.UI (w:=w) (es:=((z3 len).map g).map dd) (sz:=m) (cap:=cap) (a:=a) (f:=f) (by rw [hlen]; exact hl) hm (by rw [hlen]; exact hS) (fun i hi=>by
  rw [hlen] at hi
  have:=(hg i hi).len
  simpa using this) (fun i j hi hj=>by
  rw [hlen] at hi
  have h1:=hg i hi
  have h2:=h1.len
  simp only [zJ,List.length_range] at h2
  simp only [List.getElem_map,List.getElem_range] at hj ⊢
  have:=h1.get j hj (by simp; omega)
  simpa using this)
 rw [hlen] at this
 exact this
instance:Inhabited Tm:=⟨Tm.zero⟩
instance:Inhabited Fm:=⟨Fm.zero⟩
section
variable {H:Type} {enc:TypeId × Value→H} {w:World} {base:Nat} {spare:Nat→Bool} {held:Bool}
end
end Go.Proofs.Ytmhjhclgihoaeaa
set_option maxRecDepth 100000
set_option linter.unusedSimpArgs false
set_option linter.unusedVariables false
set_option linter.unusedSectionVars false
namespace Go.Proofs.Ytmhjhclgihoaeaa
open Go.RowKit
theorem DRep.lt_ {own:Bool} {w:World} {S:Nat→Prop} {d:D} {v:Value} (h:DRep own w S d v):DRep own w (fun b=>S b∧b<w.heap.size) d v:=by
 induction h with
 | int S n=>exact .int _ n
 | byte S n=>exact .byte _ n
 | nl S=>exact .nl _
 | bool S b=>exact .bool _ b
 | str S s h=>exact .str _ s h
 | arr S sz es a cap f Sub h1 h2 h3 h4 h5 h6 h7 ih =>
  refine .arr _ sz es a cap f (fun i j x=>Sub i j x∧x<w.heap.size) h1 h2 ?_ h4 (fun i j x h=>⟨h5 i j x h.1,h.2⟩) (fun ho i j i' j' x h h'=>h6 ho i j i' j' x h.1 h'.1) ih
  rcases h3 with h3 | ⟨b,off,ha,hS,hl,hc,ho⟩
  ·exact .inl h3
  ·exact .inr ⟨b,off,ha,⟨hS,hl⟩,hl,hc,fun h=>⟨fun i j hx=>(ho h).1 i j hx.1,(ho h).2⟩⟩
theorem DAt.rep {w:World} {es:List (List D)} {v:Value} (h:DAt w (.arr es) v):RepV w (fun b=>b<w.heap.size) (fun _=>none) (.arr es) v:=by
 simp only [RepV]
 exact (DRep.lt_ h).up fun b hb=>hb.2
theorem Fun.yes {f:FuncId} {args:List SV} (h:Fun Try.prog f args [] (.bool true) []) {w:World} {vs:List Value} (hgl:GL w fun b=>b<w.heap.size) (hvs:RepVs w (fun b=>b<w.heap.size) (fun _=>none) args vs):Calls Try.prog f vs.toArray w (Ret w (.bool true)):=by
 have nl:∀ g,¬ (Ac [] g).live:=fun g hg=>by simp [Ac,Ob.live] at hg
 refine (h w (fun b=>b<w.heap.size) (fun _=>none) (fun _ _=>False) vs ⟨fun b hb=>hb,fun g hg=>absurd hg (nl g),fun g b hg=>absurd hg (nl g),fun g b hg=>absurd hg (nl g),fun g g' b hg=>absurd hg (nl g),fun g _=>rfl,hgl⟩ hvs).mono ?_
 rintro e w' ⟨v,I',V',B',rfl,hr,hp⟩
 simp only [RepV] at hr
 subst hr
 exact ⟨rfl,hp.fr.os,hp.fr.tape.1,hp.fr.output,hp.fr.size,fun b hb=>hp.fr.block b hb fun ⟨g,hg,_⟩=>absurd hg (nl g)⟩
theorem Pj {w:World} {d:D} {ds:List D} {v:Value} {vs:List Value} (h:Lvs w (d :: ds) (v :: vs)):DAt w d v∧Lvs w ds vs:=by
 cases h with
 | cons h1 h2=>exact ⟨h1,h2⟩
theorem DAt.fit {w:World} {d:D} {v:Value} (h:DAt w d v):D.fit d:=DRep.fit h
theorem Ts {w:World} {I:Nat→Prop} {V:Nat→Option Value}:RepVs w I V [] []:=by simp [RepVs]
theorem RJ {w:World} {I:Nat→Prop} {V:Nat→Option Value} {x:SV} {xs:List SV} {v:Value} {vs:List Value} (h:RepV w I V x v) (hs:RepVs w I V xs vs):RepVs w I V (x :: xs) (v :: vs):=by
 simp only [RepVs]; exact ⟨v,vs,rfl,h,hs⟩
instance:Inhabited Lt:=⟨Lt.zero⟩
instance:Inhabited Cl:=⟨Cl.zero⟩
section
variable {H:Type} {enc:TypeId × Value→H} {w:World} {base:Nat} {spare:Nat→Bool} {held:Bool}
theorem JH {fuel:Nat} (ih:∀ n,n<fuel→∀ v x,DataW.trod enc Try.prog w base spare held n 79 [v]=some x→∃ xs:List Tm,DAt w (.arr (xs.map Tm.d)) v) {cs:List Value} {x:DataW H × List MemPlace} (h:DataW.trod enc Try.prog w base spare held fuel 81 cs=some x):∃ X:Tm,Lvs w X.d cs:=by
 obtain ⟨n,hn,hlen,hf⟩:=L4 Try.underlying81 h
 rw [show Try.prog.cellsOf 81=2 by kernel_rfl] at hlen
 match cs,hlen with
 | [c0,c1],_ =>
  obtain ⟨y0,k0⟩:=hf 0 _ rfl
  have e0:(([c0,c1].drop 0).take (Try.prog.cellsOf 9))=[c0]:=by rw [show Try.prog.cellsOf 9=1 by kernel_rfl]; rfl
  obtain ⟨z0,q0,_,s0⟩:=DataW.trod_string Try.underlying9 k0
  have q0':c0=.string z0:=by
   have:[c0]=[.string z0]:=by rw [←e0]; exact q0
   simpa using this
  obtain ⟨y1,k1⟩:=hf 1 _ rfl
  have e1:(([c0,c1].drop 1).take (Try.prog.cellsOf 79))=[c1]:=by rw [show Try.prog.cellsOf 79=1 by kernel_rfl]; rfl
  have k1':DataW.trod enc Try.prog w base spare held n 79 [c1]=some y1:=by rw [←e1]; exact k1
  obtain ⟨z1,g1⟩:=ih n hn c1 y1 k1'
  subst q0'
  exact ⟨.mk z0 z1,by rw [Tm.d_eq]; exact (.cons (.str _ z0 s0) (.cons g1 .nil))⟩
theorem LT:∀ (fuel:Nat) (v:Value) (x:DataW H × List MemPlace),DataW.trod enc Try.prog w base spare held fuel 79 [v]=some x→∃ xs:List Tm,DAt w (.arr (xs.map Tm.d)) v:=by
 intro fuel
 induction fuel using Nat.strongRecOn with
 | _ fuel ih =>
  intro v x h
  obtain ⟨a,len,cap,f,rfl,hl,hm,hS,hr⟩:=L3 (P:=Try.prog) 2 (by kernel_rfl) (by omega) Try.underlying79 h
  exact L5 Tm.d hl hm hS fun i hi=>by
   obtain ⟨n,x',hn,h1⟩:=hr i hi
   exact JH (fun n' hn'=>ih n' (by omega)) h1
theorem Tt {fuel:Nat} {cs:List Value} {x:DataW H × List MemPlace} (h:DataW.trod enc Try.prog w base spare held fuel 81 cs=some x):∃ X:Tm,Lvs w X.d cs :=
 JH (fun n _=>LT n) h
theorem Pk {fuel:Nat} {cs:List Value} {x:DataW H × List MemPlace} (h:DataW.trod enc Try.prog w base spare held fuel 83 cs=some x):∃ X:Lt,Lvs w X.d cs:=by
 obtain ⟨n,hn,hlen,hf⟩:=L4 Try.underlying83 h
 rw [show Try.prog.cellsOf 83=3 by kernel_rfl] at hlen
 match cs,hlen with
 | [c0,c1,c2],_ =>
  obtain ⟨y0,k0⟩:=hf 0 _ rfl
  have e0:(([c0,c1,c2].drop 0).take (Try.prog.cellsOf 4))=[c0]:=by rw [show Try.prog.cellsOf 4=1 by kernel_rfl]; rfl
  obtain ⟨z0,q0,_⟩:=DataW.trod_bool Try.underlying4 k0
  have q0':c0=.bool z0:=by
   have:[c0]=[.bool z0]:=by rw [←e0]; exact q0
   simpa using this
  obtain ⟨y1,k1⟩:=hf 1 _ rfl
  have e1:(([c0,c1,c2].drop 1).take (Try.prog.cellsOf 81))=[c1,c2]:=by rw [show Try.prog.cellsOf 81=2 by kernel_rfl]; rfl
  have k1':DataW.trod enc Try.prog w base spare held n 81 [c1,c2]=some y1:=by rw [←e1]; exact k1
  obtain ⟨z1,g1⟩:=Tt k1'
  rw [Tm.d_eq] at g1
  obtain ⟨g1_0,g1⟩:=Pj g1
  obtain ⟨g1_1,g1⟩:=Pj g1
  subst q0'
  exact ⟨⟨z0,z1⟩,by rw [Lt.d_eq]; exact (.cons (.bool _ z0) (.cons g1_0 (.cons g1_1 .nil)))⟩
theorem NE {fuel:Nat} {v:Value} {x:DataW H × List MemPlace} (h:DataW.trod enc Try.prog w base spare held fuel 35 [v]=some x):∃ xs:List Lt,DAt w (.arr (xs.map Lt.d)) v:=by
 obtain ⟨a,len,cap,f,rfl,hl,hm,hS,hr⟩:=L3 (P:=Try.prog) 3 (by kernel_rfl) (by omega) Try.underlying35 h
 exact L5 Lt.d hl hm hS fun i hi=>by
  obtain ⟨n,x',hn,h1⟩:=hr i hi
  exact Pk h1
theorem Qf {fuel:Nat} {cs:List Value} {x:DataW H × List MemPlace} (h:DataW.trod enc Try.prog w base spare held fuel 37 cs=some x):∃ X:Cl,Lvs w X.d cs:=by
 obtain ⟨n,hn,hlen,hf⟩:=L4 Try.underlying37 h
 rw [show Try.prog.cellsOf 37=1 by kernel_rfl] at hlen
 match cs,hlen with
 | [c0],_ =>
  obtain ⟨y0,k0⟩:=hf 0 _ rfl
  have e0:(([c0].drop 0).take (Try.prog.cellsOf 35))=[c0]:=by rw [show Try.prog.cellsOf 35=1 by kernel_rfl]; rfl
  have k0':DataW.trod enc Try.prog w base spare held n 35 [c0]=some y0:=by rw [←e0]; exact k0
  obtain ⟨z0,g0⟩:=NE k0'
  exact ⟨⟨z0⟩,by rw [Cl.d_eq]; exact (.cons g0 .nil)⟩
theorem Pl {fuel:Nat} {v:Value} {x:DataW H × List MemPlace} (h:DataW.trod enc Try.prog w base spare held fuel 22 [v]=some x):∃ xs:List Cl,DAt w (.arr (xs.map Cl.d)) v:=by
 obtain ⟨a,len,cap,f,rfl,hl,hm,hS,hr⟩:=L3 (P:=Try.prog) 1 (by kernel_rfl) (by omega) Try.underlying22 h
 exact L5 Cl.d hl hm hS fun i hi=>by
  obtain ⟨n,x',hn,h1⟩:=hr i hi
  exact Qf h1
end
end Go.Proofs.Ytmhjhclgihoaeaa
