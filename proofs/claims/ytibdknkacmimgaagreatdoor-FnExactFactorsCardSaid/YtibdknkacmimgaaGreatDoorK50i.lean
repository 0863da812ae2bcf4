/-
  This text goes one round of the reference's unifying loop (4 of 4). No condition.
-/
import Derived.Test.YtibdknkacmimgaaGreatDoorK50e
set_option maxHeartbeats 16000000
open Option.some renaming injEq → zA
open List renaming cons_append → zB, nil_append → zC, append_nil → zD
open Bool renaming and_eq_true → zE
set_option maxRecDepth 100000
set_option linter.unusedSimpArgs false
set_option linter.unusedVariables false
set_option linter.unusedSectionVars false
namespace Go.Proofs.YtibdknkacmimgaaGreatDoor
open Go.RowKit
theorem Qfj (total:Option Sb) (n:Nat) (s:Sb) (p:Tm × Tm) (l:List (Tm × Tm)) (hinv:uInv s (p :: l)) (hrun:BE (n+1) s (p :: l)=some total) (hsn:false=true→s.binds=[]):go 0 u5b (u5H (n+1,false,false,s,p :: l)) (DS 0 Lp u5H (u5R total) (fun a=>a.1) (n+1,false,false,s,p :: l) (u5K total)):=by
 have hs:=hinv.ok
 have hst:=ED hs
 have hp:=hinv.ex p (by simp)
 have hpn1:=Tm.Ar hp.1
 have hpn2:=Tm.Ar hp.2
 have hni:(0:Int).toNat=0:=rfl
 unfold u5b u5H u5R u5K Lp u5r
 dsimp only
 have hA:=AV s hst p.1 (by omega)
 have hB:=AV s hst p.2 (by omega)
 have hss:(Sb.sv s)=.agg [.arr (s.binds.map Bd.d)]:=rfl
 rw [hss] at hA hB
 obtain ⟨L,hL⟩:∃ L,L=(p :: l).map eqD:=⟨_,rfl⟩
 have h0:L[(0:Nat)]?=some [.str p.1.name,.arr (p.1.args.map Tm.d),.str p.2.name,.arr (p.2.args.map Tm.d)]:=by rw [hL]; rfl
 have hlen:L.length=l.length+1:=by rw [hL]; simp
 have hal:(L.all fun x=>x.length == 4)=true:=by rw [hL]; exact Qo _
 have hdr:(L.take (l.length+1)).drop 1=l.map eqD:=by rw [hL,List.take_of_length_le (by simp)]; rfl
 simp only [cond_true,cond_false,← hL]
 cases o1:BT s p.1 with
 | false =>
  rw [o1] at hA
  rw [BE] at hrun
  simp only [o1,Bool.false_and,cond_false,zA] at hrun
  subst hrun
  cases o2:BT s p.2 with
  | false =>
   rw [o2] at hB
   simp (disch:=omega) only [go_sem,Aa,hni,h0,hlen,hal,hdr,hA,hB,Ac,Ai,Ah,Am,Al]
   first | rfl | exact ⟨rfl,rfl⟩
  | true =>
   rw [o2] at hB
   simp (disch:=omega) only [go_sem,Aa,hni,h0,hlen,hal,hdr,hA,hB,Ac,Ai,Ah,Am,Al]
   first | rfl | exact ⟨rfl,rfl⟩
 | true =>
  rw [o1] at hA
  have e1:=C2 o1
  cases o2:BT s p.2 with
  | false =>
   rw [o2] at hB
   rw [BE] at hrun
   simp only [o2,Bool.and_false,cond_false,zA] at hrun
   subst hrun
   simp (disch:=omega) only [go_sem,Aa,hni,h0,hlen,hal,hdr,hA,hB,Ac,Ai,Ah,Am,Al]
   first | rfl | exact ⟨rfl,rfl⟩
  | true =>
   rw [o2] at hB
   have e2:=C2 o2
   have n1:=Tm.Ar e1
   have n2:=Tm.Ar e2
   have hdec:=hinv.dec o1 o2
   have hbind:=hinv.bind o1 o2
   rw [BE] at hrun
   simp only [o1,o2,Bool.and_self,cond_true] at hrun
   obtain ⟨x,hx⟩:∃ x,x=AK s p.1:=⟨_,rfl⟩
   obtain ⟨y,hy⟩:∃ y,y=AK s p.2:=⟨_,rfl⟩
   rw [←hx] at hA e1 n1 hrun hdec hbind
   rw [←hy] at hB e2 n2 hrun hdec hbind
   have hE:=IW x y (by omega) (by omega)
   cases o3:dec (x=y) with
   | true =>
    rw [o3] at hE
    simp only [o3,cond_true] at hrun
    simp (disch:=omega) only [go_sem,Aa,hni,h0,hlen,hal,hdr,hA,hB,hE,Ac,Ai,Ah,Am,Al]
    exact ⟨(n,false,false,s,l),⟨hinv.pop,hrun,hsn⟩,by dsimp only; omega,by first | trivial | rfl | (simp only [cond_true,cond_false,zB,zC,zD,and_self])⟩
   | false =>
    rw [o3] at hE
    simp only [o3,cond_false] at hrun
    cases o4:Aq x.name || Aq y.name with
    | true =>
     simp only [o4,cond_true] at hrun
     cases v1:Aq x.name with
     | true =>
      cases v2:Aq y.name with
      | true =>
       cases v3:strLt x.name y.name with
       | true =>
        have hbo:A1 x y=⟨y.name,x⟩:=by unfold A1; rw [v1,v2,v3]; rfl
        rw [hbo] at hrun hbind
        obtain ⟨r,hC,hCr⟩:=Cv s hs y.name x e1 (Ew v2)
        have hrv:r.sv=.agg [.arr (r.binds.map Bd.d)]:=rfl
        rw [hss,hrv] at hC
        cases o5:BP ⟨y.name,x⟩&&Cs s ⟨[⟨y.name,x⟩]⟩ with
        | false =>
         rw [o5] at hC
         simp only [o5,cond_false,zA] at hrun
         subst hrun
         simp (disch:=omega) only [go_sem,Aa,hni,h0,hlen,hal,hdr,hA,hB,hE,hC,v1,v2,v3,Ac,Ai,Ah,Am,Al]
         first | rfl | exact ⟨rfl,rfl⟩
        | true =>
         rw [o5] at hC
         obtain rfl:=hCr o5
         simp only [o5,cond_true] at hrun
         rw [zE] at o5
         obtain ⟨i1,_⟩:=hbind o4 o5.1 o5.2
         simp (disch:=omega) only [go_sem,Aa,hni,h0,hlen,hal,hdr,hA,hB,hE,hC,v1,v2,v3,Ac,Ai,Ah,Am,Al]
         exact ⟨(n,false,false,Ck s ⟨[⟨y.name,x⟩]⟩,l),⟨i1,hrun,fun h=>by cases h⟩,by dsimp only; omega,by first | trivial | rfl | (simp only [cond_true,cond_false,zB,zC,zD,and_self])⟩
       | false =>
        have hbo:A1 x y=⟨x.name,y⟩:=by unfold A1; rw [v1,v2,v3]; rfl
        rw [hbo] at hrun hbind
        obtain ⟨r,hC,hCr⟩:=Cv s hs x.name y e2 (Ew v1)
        have hrv:r.sv=.agg [.arr (r.binds.map Bd.d)]:=rfl
        rw [hss,hrv] at hC
        cases o5:BP ⟨x.name,y⟩&&Cs s ⟨[⟨x.name,y⟩]⟩ with
        | false =>
         rw [o5] at hC
         simp only [o5,cond_false,zA] at hrun
         subst hrun
         simp (disch:=omega) only [go_sem,Aa,hni,h0,hlen,hal,hdr,hA,hB,hE,hC,v1,v2,v3,Ac,Ai,Ah,Am,Al]
         first | rfl | exact ⟨rfl,rfl⟩
        | true =>
         rw [o5] at hC
         obtain rfl:=hCr o5
         simp only [o5,cond_true] at hrun
         rw [zE] at o5
         obtain ⟨i1,_⟩:=hbind o4 o5.1 o5.2
         simp (disch:=omega) only [go_sem,Aa,hni,h0,hlen,hal,hdr,hA,hB,hE,hC,v1,v2,v3,Ac,Ai,Ah,Am,Al]
         exact ⟨(n,false,false,Ck s ⟨[⟨x.name,y⟩]⟩,l),⟨i1,hrun,fun h=>by cases h⟩,by dsimp only; omega,by first | trivial | rfl | (simp only [cond_true,cond_false,zB,zC,zD,and_self])⟩
      | false =>
       have hbo:A1 x y=⟨x.name,y⟩:=by unfold A1; rw [v1,v2]; rfl
       rw [hbo] at hrun hbind
       obtain ⟨r,hC,hCr⟩:=Cv s hs x.name y e2 (Ew v1)
       have hrv:r.sv=.agg [.arr (r.binds.map Bd.d)]:=rfl
       rw [hss,hrv] at hC
       cases o5:BP ⟨x.name,y⟩&&Cs s ⟨[⟨x.name,y⟩]⟩ with
       | false =>
        rw [o5] at hC
        simp only [o5,cond_false,zA] at hrun
        subst hrun
        simp (disch:=omega) only [go_sem,Aa,hni,h0,hlen,hal,hdr,hA,hB,hE,hC,v1,v2,Ac,Ai,Ah,Am,Al]
        first | rfl | exact ⟨rfl,rfl⟩
       | true =>
        rw [o5] at hC
        obtain rfl:=hCr o5
        simp only [o5,cond_true] at hrun
        rw [zE] at o5
        obtain ⟨i1,_⟩:=hbind o4 o5.1 o5.2
        simp (disch:=omega) only [go_sem,Aa,hni,h0,hlen,hal,hdr,hA,hB,hE,hC,v1,v2,Ac,Ai,Ah,Am,Al]
        exact ⟨(n,false,false,Ck s ⟨[⟨x.name,y⟩]⟩,l),⟨i1,hrun,fun h=>by cases h⟩,by dsimp only; omega,by first | trivial | rfl | (simp only [cond_true,cond_false,zB,zC,zD,and_self])⟩
     | false =>
      have v2:Aq y.name=true:=by rw [v1,Bool.false_or] at o4; exact o4
      have hbo:A1 x y=⟨y.name,x⟩:=by unfold A1; rw [v1]; rfl
      rw [hbo] at hrun hbind
      obtain ⟨r,hC,hCr⟩:=Cv s hs y.name x e1 (Ew v2)
      have hrv:r.sv=.agg [.arr (r.binds.map Bd.d)]:=rfl
      rw [hss,hrv] at hC
      cases o5:BP ⟨y.name,x⟩&&Cs s ⟨[⟨y.name,x⟩]⟩ with
      | false =>
       rw [o5] at hC
       simp only [o5,cond_false,zA] at hrun
       subst hrun
       simp (disch:=omega) only [go_sem,Aa,hni,h0,hlen,hal,hdr,hA,hB,hE,hC,v1,v2,Ac,Ai,Ah,Am,Al]
       first | rfl | exact ⟨rfl,rfl⟩
      | true =>
       rw [o5] at hC
       obtain rfl:=hCr o5
       simp only [o5,cond_true] at hrun
       rw [zE] at o5
       obtain ⟨i1,_⟩:=hbind o4 o5.1 o5.2
       simp (disch:=omega) only [go_sem,Aa,hni,h0,hlen,hal,hdr,hA,hB,hE,hC,v1,v2,Ac,Ai,Ah,Am,Al]
       exact ⟨(n,false,false,Ck s ⟨[⟨y.name,x⟩]⟩,l),⟨i1,hrun,fun h=>by cases h⟩,by dsimp only; omega,by first | trivial | rfl | (simp only [cond_true,cond_false,zB,zC,zD,and_self])⟩
    | false =>
     simp only [o4,cond_false] at hrun
     have o4':=o4
     rw [Bool.or_eq_false_iff] at o4'
     have v1:=o4'.1
     have v2:=o4'.2
     by_cases o7:x.name=y.name
     ·have q7:=eq_true o7
      by_cases o8:x.args.length=y.args.length
      ·have q8:((x.args.length:Int)=(y.args.length:Int))=True:=eq_true (by omega)
       simp only [As o7,As o8,Bool.and_self,cond_true] at hrun
       have i2:=hdec o4'.1
       have hx1:=Tm.length_le x.args
       have hx2:=Tm.An x
       have ll:=hinv.pop.len
       have hzl:(x.args.zip y.args).length=x.args.length:=by rw [List.length_zip]; omega
       simp (disch:=omega) only [go_sem,Aa,hni,h0,hlen,hal,hdr,hA,hB,hE,v1,v2,q7,q8,Ac,Ai,Ah,Am,Al]
       refine go_loop (α:=Nat) (fun a=>⟨slots 149 0 [(4,.ptr 0 0),(6,.ptr 1 0),(7,.ptr 2 0),(8,.arr (l.map eqD)),(9,.ptr 3 0),(11,.ptr 4 0),(13,.bool true),(14,.ref 5),(15,.int .i64 (a:Int))],[.box 76 [.nil],.box 76 [.nil],.box 76 [.arr (s.binds.map Bd.d)],.box 71 [.str x.name,.arr (x.args.map Tm.d)],.box 71 [.str y.name,.arr (y.args.map Tm.d)],.row 97 4 (((x.args.zip y.args).take a).map eqO)]⟩) (fun a=>a≤x.args.length) (fun a=>x.args.length-a) 0 (Nat.zero_le _) (by simp (disch:=omega) only [go_sem,Aa,List.take_zero,List.map_nil,Ac,Ai,Ah,Am,Al]; rfl) ?_
       intro k hk
       have hni2:((k:Nat):Int).toNat=k:=Int.toNat_natCast k
       have htl:((x.args.zip y.args).take k).length=k:=by rw [List.length_take]; omega
       rcases Nat.lt_or_ge k x.args.length with hlt | hge
       ·have hg1:=get_at Tm.d hlt
        have hlt2:k<y.args.length:=by omega
        have hg2:=get_at Tm.d hlt2
        rw [Tm.d_eq] at hg1 hg2
        have hz:=Gj hlt hlt2
        have hrow:((x.args.zip y.args).take k).map eqO++[[OT.str x.args[k].name,.sh (x.args[k].args.map Tm.d),.str y.args[k].name,.sh (y.args[k].args.map Tm.d)]]=((x.args.zip y.args).take (k+1)).map eqO:=by
         rw [←hz,List.map_append]; rfl
        simp (disch:=omega) only [go_sem,Aa,hni2,hg1,hg2,hrow,htl,List.length_map,Ac,Ai,Ah,Am,Al]
        refine ⟨k+1,hlt,by omega,?_⟩
        simp only [Int.natCast_add,Int.natCast_one,and_self]
       ·obtain rfl:k=x.args.length:=by omega
        have hfull:(x.args.zip y.args).take x.args.length=x.args.zip y.args:=List.take_of_length_le (by omega)
        have hao:=Ij l
        have hot:=Ln l
        have happ:(x.args.zip y.args).map eqO++l.map eqO=(x.args.zip y.args++l).map eqO:=by rw [List.map_append]
        rw [hfull] at htl
        simp only [hfull]
        simp (disch:=omega) only [go_sem,Aa,hni2,hao,hot,htl,happ,List.length_map,Ac,Ai,Ah,Am,Al]
        refine ⟨(n,false,true,s,x.args.zip y.args++l),⟨i2,hrun,hsn⟩,by dsimp only; omega,?_⟩
        first | trivial | rfl | simp only [cond_true,cond_false,zB,zC,and_self]
      ·have q8:((x.args.length:Int)=(y.args.length:Int))=False:=eq_false (by omega)
       simp only [As o7,Az o8,Bool.and_false,cond_false,zA] at hrun
       subst hrun
       simp (disch:=omega) only [go_sem,Aa,hni,h0,hlen,hal,hdr,hA,hB,hE,v1,v2,q7,q8,Ac,Ai,Ah,Am,Al]
       first | rfl | exact ⟨rfl,rfl⟩
     ·have q7:=eq_false o7
      simp only [Az o7,Bool.false_and,cond_false,zA] at hrun
      subst hrun
      simp (disch:=omega) only [go_sem,Aa,hni,h0,hlen,hal,hdr,hA,hB,hE,v1,v2,q7,Ac,Ai,Ah,Am,Al]
      first | rfl | exact ⟨rfl,rfl⟩
end Go.Proofs.YtibdknkacmimgaaGreatDoor
