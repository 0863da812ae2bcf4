/-
  This text goes one round of the program's unifying loop (4 of 4). No condition.
-/
import Derived.Test.YtibdknkacmimgaaGreatDoorK50j
set_option maxHeartbeats 16000000
open Option.some renaming injEq → zA
open List renaming cons_append → zB, nil_append → zC
open Bool renaming false_and → zD, and_false → zE, and_self → zF
set_option maxRecDepth 100000
set_option linter.unusedSimpArgs false
set_option linter.unusedVariables false
set_option linter.unusedSectionVars false
namespace Go.Proofs.YtibdknkacmimgaaGreatDoor
open Go.RowKit
theorem Qfo (total:Option Sb) (n:Nat) (s:Sb) (p:Tm × Tm) (l:List (Tm × Tm)) (hinv:uInv s (p :: l)) (hrun:BE (n+1) s (p :: l)=some total) (hsn:false=true→s.binds=[]):go 0 u2b (u2H (n+1,false,false,s,p :: l)) (DS 0 Lx u2H (u2R total) (fun a=>a.1) (n+1,false,false,s,p :: l) (u2K total)):=by
 have hs:=hinv.ok
 have hst:=ED hs
 have hp:=hinv.ex p (by simp)
 have hpn1:=Tm.Ar hp.1
 have hpn2:=Tm.Ar hp.2
 have hni:(0:Int).toNat=0:=rfl
 unfold u2b u2H u2R u2K Lx u2r
 dsimp only
 have hss:(Sb.sv s)=.agg [.arr (s.binds.map Bd.d)]:=rfl
 obtain ⟨L,hL⟩:∃ L,L=(p :: l).map eqD:=⟨_,rfl⟩
 have h0:L[(0:Nat)]?=some [.str p.1.name,.arr (p.1.args.map Tm.d),.str p.2.name,.arr (p.2.args.map Tm.d)]:=by rw [hL]; rfl
 have hlen:L.length=l.length+1:=by rw [hL]; simp
 have hal:(L.all fun x=>x.length == 4)=true:=by rw [hL]; exact Qo _
 have hdr:(L.take (l.length+1)).drop 1=l.map eqD:=by rw [hL,List.take_of_length_le (by simp)]; rfl
 simp only [cond_true,cond_false,← hL]
 cases o1:BT s p.1 with
 | false =>
  have hA:=Ce s hs hst p.1 hp.1 o1
  rw [hss] at hA
  rw [BE] at hrun
  simp only [o1,zD,cond_false,zA] at hrun
  subst hrun
  cases o2:BT s p.2 with
  | false =>
   have hB:=Ce s hs hst p.2 hp.2 o2
   rw [hss] at hB
   simp (disch:=omega) only [go_sem,Aa,Tm.osv,Tm.obs,hni,Bd.erss,Bd.fus,h0,hlen,hal,hdr,hA,hB,Ab,Ad,Ak,Ae,Aj]
   first | rfl | exact ⟨rfl,rfl⟩
  | true =>
   have hB:=BD s hs hst p.2 hp.2 o2
   rw [hss] at hB
   simp (disch:=omega) only [go_sem,Aa,Tm.osv,Tm.obs,hni,Bd.erss,Bd.fus,h0,hlen,hal,hdr,hA,hB,Ab,Ad,Ak,Ae,Aj]
   first | rfl | exact ⟨rfl,rfl⟩
 | true =>
  have hA:=BD s hs hst p.1 hp.1 o1
  rw [hss] at hA
  have e1:=C2 o1
  cases o2:BT s p.2 with
  | false =>
   have hB:=Ce s hs hst p.2 hp.2 o2
   rw [hss] at hB
   rw [BE] at hrun
   simp only [o2,zE,cond_false,zA] at hrun
   subst hrun
   simp (disch:=omega) only [go_sem,Aa,Tm.osv,Tm.obs,hni,Bd.erss,Bd.fus,h0,hlen,hal,hdr,hA,hB,Ab,Ad,Ak,Ae,Aj]
   first | rfl | exact ⟨rfl,rfl⟩
  | true =>
   have hB:=BD s hs hst p.2 hp.2 o2
   rw [hss] at hB
   have e2:=C2 o2
   have n1:=Tm.Ar e1
   have n2:=Tm.Ar e2
   have hdec:=hinv.dec o1 o2
   have hbind:=hinv.bind o1 o2
   rw [BE] at hrun
   simp only [o1,o2,zF,cond_true] at hrun
   obtain ⟨x,hx⟩:∃ x,x=AK s p.1:=⟨_,rfl⟩
   obtain ⟨y,hy⟩:∃ y,y=AK s p.2:=⟨_,rfl⟩
   rw [←hx] at hA e1 n1 hrun hdec hbind
   rw [←hy] at hB e2 n2 hrun hdec hbind
   have hE:=Em x y (by omega) (by omega)
   have hV:=De x (Tm.E3 e1)
   have hW:=De y (Tm.E3 e2)
   have hxv:x.sv=.agg [.str x.name,.arr (x.args.map Tm.d)]:=rfl
   have hyv:y.sv=.agg [.str y.name,.arr (y.args.map Tm.d)]:=rfl
   cases o3:dec (x=y) with
   | true =>
    rw [o3] at hE
    simp only [o3,cond_true] at hrun
    simp (disch:=omega) only [go_sem,Aa,Tm.osv,Tm.obs,hni,Bd.erss,Bd.fus,h0,hlen,hal,hdr,hA,hB,hE,Ab,Ad,Ak,Ae,Aj]
    exact ⟨(n,false,false,s,l),⟨hinv.pop,hrun,hsn⟩,by dsimp only; omega,by first | trivial | rfl | (simp only [cond_true,cond_false,zB,zC,and_self])⟩
   | false =>
    rw [o3] at hE
    simp only [o3,cond_false] at hrun
    cases o4:Aq x.name || Aq y.name with
    | true =>
     have hO:=Ii x y e1 e2 o4
     have hbsv:(Sb.mk [A1 x y]).sv=.agg [.arr [[.str (A1 x y).var,.str (A1 x y).term.name,.arr ((A1 x y).term.args.map Tm.d)]]]:=rfl
     rw [hbsv] at hO
     simp only [o4,cond_true] at hrun
     have hvv:(Aq x.name=true)∨(Aq x.name=false∧Aq y.name=true):=by
      cases h:Aq x.name with
      | true=>exact .inl rfl
      | false=>rw [h,Bool.false_or] at o4; exact .inr ⟨rfl,o4⟩
     cases o5:BP (A1 x y) with
     | false =>
      rw [o5] at hO
      simp only [o5,zD,cond_false,zA] at hrun
      subst hrun
      rcases hvv with v1 | ⟨v1,v2⟩
      ·rw [v1] at hV
       simp (disch:=omega) only [go_sem,Aa,Tm.osv,Tm.obs,hni,Bd.erss,Bd.fus,h0,hlen,hal,hdr,hA,hB,hE,hV,hW,hO,Ab,Ad,Ak,Ae,Aj]
       first | rfl | exact ⟨rfl,rfl⟩
      ·rw [v1] at hV
       rw [v2] at hW
       simp (disch:=omega) only [go_sem,Aa,Tm.osv,Tm.obs,hni,Bd.erss,Bd.fus,h0,hlen,hal,hdr,hA,hB,hE,hV,hW,hO,Ab,Ad,Ak,Ae,Aj]
       first | rfl | exact ⟨rfl,rfl⟩
     | true =>
      rw [o5] at hO
      have o5':=o5
      unfold BP at o5'
      rw [Bool.and_eq_true] at o5'
      have hbt:(A1 x y).term.nodes≤1099511627776:=by
       rcases Gi x y o4 with ⟨e,_⟩ | ⟨e,_⟩
       ·rw [e]; show y.nodes≤_; omega
       ·rw [e]; show x.nodes≤_; omega
      have hC:=JK s ⟨[A1 x y]⟩ hs o5'.2 hst (Hz hbt)
      rw [hss,hbsv] at hC
      cases o6:Cs s ⟨[A1 x y]⟩ with
      | false =>
       have e6:Fq s ⟨[A1 x y]⟩=⟨[]⟩:=by unfold Fq; rw [o6]; rfl
       rw [e6,o6] at hC
       simp only [o5,o6,zE,cond_false,zA] at hrun
       subst hrun
       rcases hvv with v1 | ⟨v1,v2⟩
       ·rw [v1] at hV
        simp (disch:=omega) only [go_sem,Aa,Tm.osv,Tm.obs,hni,Bd.erss,Bd.fus,h0,hlen,hal,hdr,hA,hB,hE,hV,hW,hO,hC,Sb.osv,Sb.obs,Ab,Ad,Ak,Ae,Aj]
        first | rfl | exact ⟨rfl,rfl⟩
       ·rw [v1] at hV
        rw [v2] at hW
        simp (disch:=omega) only [go_sem,Aa,Tm.osv,Tm.obs,hni,Bd.erss,Bd.fus,h0,hlen,hal,hdr,hA,hB,hE,hV,hW,hO,hC,Sb.osv,Sb.obs,Ab,Ad,Ak,Ae,Aj]
        first | rfl | exact ⟨rfl,rfl⟩
      | true =>
       have e6:Fq s ⟨[A1 x y]⟩=Ck s ⟨[A1 x y]⟩:=by unfold Fq; rw [o6]; rfl
       rw [e6,o6] at hC
       simp only [o5,o6,zF,cond_true] at hrun
       obtain ⟨i1,_⟩:=hbind o4 o5 o6
       obtain ⟨s2,hs2⟩:∃ s2,s2=Ck s ⟨[A1 x y]⟩:=⟨_,rfl⟩
       rw [←hs2] at hC hrun i1
       rcases hvv with v1 | ⟨v1,v2⟩
       ·rw [v1] at hV
        simp (disch:=omega) only [go_sem,Aa,Tm.osv,Tm.obs,hni,Bd.erss,Bd.fus,h0,hlen,hal,hdr,hA,hB,hE,hV,hW,hO,hC,Sb.osv,Sb.obs,Ab,Ad,Ak,Ae,Aj]
        exact ⟨(n,false,false,s2,l),⟨i1,hrun,fun h=>by cases h⟩,by dsimp only; omega,by first | trivial | rfl | (simp only [cond_true,cond_false,zB,zC,and_self])⟩
       ·rw [v1] at hV
        rw [v2] at hW
        simp (disch:=omega) only [go_sem,Aa,Tm.osv,Tm.obs,hni,Bd.erss,Bd.fus,h0,hlen,hal,hdr,hA,hB,hE,hV,hW,hO,hC,Sb.osv,Sb.obs,Ab,Ad,Ak,Ae,Aj]
        exact ⟨(n,false,false,s2,l),⟨i1,hrun,fun h=>by cases h⟩,by dsimp only; omega,by first | trivial | rfl | (simp only [cond_true,cond_false,zB,zC,and_self])⟩
    | false =>
     simp only [o4,cond_false] at hrun
     have o4':=o4
     rw [Bool.or_eq_false_iff] at o4'
     rw [o4'.1] at hV
     rw [o4'.2] at hW
     by_cases o7:x.name=y.name
     ·have q7:=eq_true o7
      by_cases o8:x.args.length=y.args.length
      ·have q8:((x.args.length:Int)=(y.args.length:Int))=True:=eq_true (by omega)
       simp only [As o7,As o8,zF,cond_true] at hrun
       have i2:=hdec o4'.1
       have hx1:=Tm.length_le x.args
       have hx2:=Tm.An x
       have ll:=hinv.pop.len
       have hzl:(x.args.zip y.args).length=x.args.length:=by rw [List.length_zip]; omega
       simp (disch:=omega) only [go_sem,Aa,Tm.osv,Tm.obs,hni,Bd.erss,Bd.fus,h0,hlen,hal,hdr,hA,hB,hE,hV,hW,q7,q8,Ab,Ad,Ak,Ae,Aj]
       refine go_loop (α:=Nat) (fun a=>⟨slots 123 0 [(4,.ptr 0 0),(6,.ptr 1 0),(7,.arr (l.map eqD)),(10,.ptr 2 0),(14,.ref 3),(47,.arr (x.args.map Tm.d)),(48,.int .i64 x.args.length),(49,.int .i64 (a:Int))],[.box 76 [.nil],.box 76 [.ref 4],.box 71 [.str y.name,.arr (y.args.map Tm.d)],.row 107 4 (((x.args.zip y.args).take a).map eqO),.row 139 3 (s.binds.map Bd.o)]⟩) (fun a=>a≤x.args.length) (fun a=>x.args.length-a) 0 (Nat.zero_le _) (by simp (disch:=omega) only [go_sem,Aa,List.take_zero,List.map_nil,Ab,Ad,Ak,Ae,Aj]; rfl) ?_
       intro k hk
       have hni2:((k:Nat):Int).toNat=k:=Int.toNat_natCast k
       have htl:((x.args.zip y.args).take k).length=k:=by rw [List.length_take]; omega
       rcases Nat.lt_or_ge k x.args.length with hlt | hge
       ·have hg1:=get_at Tm.d hlt
        have hlt2:k<y.args.length:=by omega
        have hg2:=get_at Tm.d hlt2
        rw [Tm.d_eq] at hg1 hg2
        have hz:=Gj hlt hlt2
        have hrow:((x.args.zip y.args).take k).map eqO++[[OT.str x.args[k].name,.sh (x.args[k].args.map Tm.d),.str y.args[k].name,.sh (y.args[k].args.map Tm.d)]]=((x.args.zip y.args).take (k+1)).map eqO:=by
         rw [←hz,List.map_append]; rfl
        simp (disch:=omega) only [go_sem,Aa,hni2,hg1,hg2,hrow,htl,List.length_map,Ab,Ad,Ak,Ae,Aj]
        refine ⟨k+1,hlt,by omega,?_⟩
        simp only [Int.natCast_add,Int.natCast_one,and_self]
       ·obtain rfl:k=x.args.length:=by omega
        have hfull:(x.args.zip y.args).take x.args.length=x.args.zip y.args:=List.take_of_length_le (by omega)
        have hao:=Ij l
        have hot:=Ln l
        have happ:(x.args.zip y.args).map eqO++l.map eqO=(x.args.zip y.args++l).map eqO:=by rw [List.map_append]
        rw [hfull] at htl
        simp only [hfull]
        simp (disch:=omega) only [go_sem,Aa,hni2,hao,hot,htl,happ,List.length_map,Ab,Ad,Ak,Ae,Aj]
        refine ⟨(n,false,true,s,x.args.zip y.args++l),⟨i2,hrun,hsn⟩,by dsimp only; omega,?_⟩
        first | trivial | rfl | simp only [cond_true,cond_false,zB,zC,and_self]
      ·have q8:((x.args.length:Int)=(y.args.length:Int))=False:=eq_false (by omega)
       simp only [As o7,Az o8,zE,cond_false,zA] at hrun
       subst hrun
       simp (disch:=omega) only [go_sem,Aa,Tm.osv,Tm.obs,hni,Bd.erss,Bd.fus,h0,hlen,hal,hdr,hA,hB,hE,hV,hW,q7,q8,Ab,Ad,Ak,Ae,Aj]
       first | rfl | exact ⟨rfl,rfl⟩
     ·have q7:=eq_false o7
      simp only [Az o7,zD,cond_false,zA] at hrun
      subst hrun
      simp (disch:=omega) only [go_sem,Aa,Tm.osv,Tm.obs,hni,Bd.erss,Bd.fus,h0,hlen,hal,hdr,hA,hB,hE,hV,hW,q7,Ab,Ad,Ak,Ae,Aj]
      first | rfl | exact ⟨rfl,rfl⟩
end Go.Proofs.YtibdknkacmimgaaGreatDoor
