/-
  Texts of this claim, one behind the other, each built on those ahead of it. No condition.
-/
import Derived.Test.YtoglfpfdhojaaaaGreatK32b
import Derived.Test.YtoglfpfdhojaaaaGreatK32c
set_option maxHeartbeats 16000000
open Bool renaming false_and → zA, and_eq_true → zB, true_and → zE, and_false → zJ, or_eq_true → zX, and_true → z7, false_eq_true → yC
open List renaming drop_eq_getElem_cons → zC, drop_eq_nil_of_le → zF, drop_zero → zG, getElem_mem → zI, map_cons → zK, mem_cons → zO, map_nil → zR, foldl_cons → zS, length_nil → zT, pairwise_cons → zU, eq_nil_of_length_eq_zero → zW, length_cons → zZ, find?_cons → z8, mem_map → yB, find?_eq_none → yD, cons_append → yE, map_map → yF, map_append → yG
open Nat renaming lt_or_ge → zD, zero_le → zH, le_refl → yI
open Option renaming isSome_some → zL, isSome_none → zN, getD_some → zP, getD_none → zQ, isSome_map → zV
open Option.some renaming inj → zM, injEq → zY
open Prod.mk renaming injEq → z6
open Int renaming lt_or_le → yA, mul_nonneg → yH
set_option maxRecDepth 100000
set_option linter.unusedSimpArgs false
set_option linter.unusedVariables false
set_option linter.unusedSectionVars false
namespace Go.Proofs.YtoglfpfdhojaaaaGreat
open Go.RowKit
def B8:SC:=(.seq (.reg [⟨(some 4),none,(.alloc 33 [(.int .i64 0),(.str ⟨#[]⟩),.nil,(.str ⟨#[]⟩),.nil])⟩]) (.seq (.seq (.reg [⟨some 6,none,.mv (.t 1)⟩,⟨some 7,none,.bin .leq false (.t 6) (.c (.int .i64 1))⟩,⟨some 8,none,.mv (.t 7)⟩,⟨(some 9),(some (8,false)),(.mv (.t 0))⟩,⟨(some 10),(some (8,false)),(.call 29 [(.t 9),(.c (.int .i64 4))])⟩,⟨some 11,none,.pick (.t 8) (.c (.bool true)) (.t 10)⟩]) (.cond (.t 11) (.seq (.seq (.reg [⟨some 12,none,.mv (.t 0)⟩,⟨some 13,none,.call 29 [(.t 12),(.c (.int .i64 16))]⟩]) (.cond (.t 13) (.seq (.reg [⟨some 14,none,.mv (.t 0)⟩,⟨some 15,none,.call 28 [(.t 14),(.c (.int .i64 2))]⟩,⟨some 16,none,.bin .add false (.c (.int .i64 1)) (.t 15)⟩,⟨(some 17),none,(.build [(.int .i64 0),(.str ⟨#[]⟩),.nil,(.str ⟨#[]⟩),.nil] [(0,(1,(.t 16)))])⟩,⟨none,none,(.store 5 (.t 4) (.t 17))⟩]) .ret) .skip)) (.seq (.reg [⟨some 18,none,.mv (.t 0)⟩,⟨some 19,none,.call 102 [(.t 18)]⟩,⟨(some 20),none,(.build [(.int .i64 0),(.str ⟨#[]⟩),.nil,(.str ⟨#[]⟩),.nil] [(0,(1,(.c (.int .i64 3)))),(1,(2,(.t 19)))])⟩,⟨none,none,(.store 5 (.t 4) (.t 20))⟩]) .ret)) .skip)) (.seq (.reg [⟨some 21,none,.mv (.t 0)⟩,⟨some 22,none,.mkrow 3 1 [(.int .i64 0)] 10 [(0,(.c (.int .i64 4))),(1,(.c (.int .i64 5))),(2,(.c (.int .i64 6))),(3,(.c (.int .i64 7))),(4,(.c (.int .i64 8))),(5,(.c (.int .i64 9))),(6,(.c (.int .i64 8))),(7,(.c (.int .i64 9))),(8,(.c (.int .i64 5))),(9,(.c (.int .i64 7)))]⟩,⟨some 23,none,.call 36 [(.t 21),(.t 22)]⟩,⟨some 5,none,.mv (.t 23)⟩]) (.seq (.seq (.reg [⟨some 24,none,.mv (.t 5)⟩,⟨some 25,none,.bin .eql false (.t 24) (.c (.int .i64 4))⟩]) (.cond (.t 25) (.seq (.reg [⟨some 26,none,.mv (.t 5)⟩,⟨some 27,none,.mv (.t 0)⟩,⟨some 28,none,.mv (.t 1)⟩,⟨some 29,none,.bin .sub false (.t 28) (.c (.int .i64 1))⟩,⟨some 30,none,.call 73 [(.t 27),(.t 29)]⟩,⟨(some 31),none,(.mkrow 33 5 [(.int .i64 0),(.str ⟨#[]⟩),.nil,(.str ⟨#[]⟩),.nil] 1 [(0,(.t 30))])⟩,⟨(some 32),none,(.build [(.int .i64 0),(.str ⟨#[]⟩),.nil,(.str ⟨#[]⟩),.nil] [(0,(1,(.t 26))),(4,(1,(.t 31)))])⟩,⟨none,none,(.store 5 (.t 4) (.t 32))⟩]) .ret) .skip)) (.seq (.seq (.reg [⟨some 33,none,.mv (.t 5)⟩,⟨some 34,none,.bin .eql false (.t 33) (.c (.int .i64 8))⟩,⟨some 35,none,.mv (.t 34)⟩,⟨(some 36),(some (35,false)),(.mv (.t 5))⟩,⟨(some 37),(some (35,false)),(.bin .eql false (.t 36) (.c (.int .i64 9)))⟩,⟨some 38,none,.pick (.t 35) (.c (.bool true)) (.t 37)⟩]) (.cond (.t 38) (.seq (.reg [⟨some 39,none,.mv (.t 5)⟩,⟨some 40,none,.mv (.t 0)⟩,⟨(some 41),none,(.mkrow 9 1 [(.str ⟨#[]⟩)] 4 [(0,(.c (.str ⟨#[88]⟩))),(1,(.c (.str ⟨#[89]⟩))),(2,(.c (.str ⟨#[90]⟩))),(3,(.c (.str ⟨#[88]⟩)))])⟩,⟨some 42,none,.call 37 [(.t 40),(.t 41)]⟩,⟨some 43,none,.mv (.t 0)⟩,⟨some 44,none,.mv (.t 1)⟩,⟨some 45,none,.bin .sub false (.t 44) (.c (.int .i64 1))⟩,⟨some 46,none,.call 73 [(.t 43),(.t 45)]⟩,⟨(some 47),none,(.mkrow 33 5 [(.int .i64 0),(.str ⟨#[]⟩),.nil,(.str ⟨#[]⟩),.nil] 1 [(0,(.t 46))])⟩,⟨(some 48),none,(.build [(.int .i64 0),(.str ⟨#[]⟩),.nil,(.str ⟨#[]⟩),.nil] [(0,(1,(.t 39))),(3,(1,(.t 42))),(4,(1,(.t 47)))])⟩,⟨none,none,(.store 5 (.t 4) (.t 48))⟩]) .ret) .skip)) (.seq (.reg [⟨some 49,none,.mv (.t 5)⟩,⟨some 50,none,.mv (.t 0)⟩,⟨some 51,none,.mv (.t 1)⟩,⟨some 52,none,.bin .sub false (.t 51) (.c (.int .i64 1))⟩,⟨some 53,none,.call 73 [(.t 50),(.t 52)]⟩,⟨some 54,none,.mv (.t 0)⟩,⟨some 55,none,.mv (.t 1)⟩,⟨some 56,none,.bin .sub false (.t 55) (.c (.int .i64 1))⟩,⟨some 57,none,.call 73 [(.t 54),(.t 56)]⟩,⟨(some 58),none,(.mkrow 33 5 [(.int .i64 0),(.str ⟨#[]⟩),.nil,(.str ⟨#[]⟩),.nil] 2 [(0,(.t 53)),(1,(.t 57))])⟩,⟨(some 59),none,(.build [(.int .i64 0),(.str ⟨#[]⟩),.nil,(.str ⟨#[]⟩),.nil] [(0,(1,(.t 49))),(4,(1,(.t 58)))])⟩,⟨none,none,(.store 5 (.t 4) (.t 59))⟩]) .ret))))))
theorem BL:As Tryz.prog 73=some ⟨60,B8,[(.cell 4 true 5)]⟩:=by kernel_rfl
theorem AT:modes 73=⟨[],.half [none,none,some (30,2),none,some (33,5)],none,false⟩:=by unfold modes; rfl
def Fy:SC:=(.seq (.reg [⟨(some 2),none,(.alloc 33 [(.int .i64 0),(.str ⟨#[]⟩),.nil,(.str ⟨#[]⟩),.nil])⟩]) (.seq (.reg [⟨some 3,none,.mv (.t 0)⟩,⟨some 4,none,.mv (.t 0)⟩,⟨some 5,none,.call 28 [(.t 4),(.c (.int .i64 4))]⟩,⟨some 6,none,.bin .add false (.c (.int .i64 1)) (.t 5)⟩,⟨some 7,none,.call 73 [(.t 3),(.t 6)]⟩,⟨none,none,(.store 5 (.t 2) (.t 7))⟩]) .ret))
theorem Ix:As Tryz.prog 39=some ⟨8,Fy,[(.cell 2 true 5)]⟩:=by kernel_rfl
theorem Bu:modes 39=⟨[],.half [none,none,some (30,2),none,some (33,5)],none,false⟩:=by unfold modes; rfl
def Fm.hs (x:Fm):List OT:=[.int x.op,.str x.atom.name,.sh (x.atom.args.map Tm.d),.str x.var,.sh (x.parts.map Fm.d)]
theorem Fm.hs_full:∀ xs:List Fm,OT.AI (xs.map Fm.hs)=true
 | []=>rfl
 | x :: xs=>by simp only [zK,OT.AI,Fm.hs,OT.Da,OT.full,Fm.hs_full xs,Bool.and_self]
theorem Fm.hs_er:∀ xs:List Fm,OT.erss (xs.map Fm.hs)=xs.map Fm.d
 | []=>rfl
 | x :: xs=>by simp only [zK,OT.erss,Fm.hs,OT.ers,OT.er,Fm.hs_er xs,Fm.d_eq]
theorem Fm.hs_half:∀ xs:List Fm,OT.Cf (xs.map Fm.hs)=xs.map Fm.hs
 | []=>rfl
 | x :: xs=>by simp only [zK,OT.Cf,Fm.hs,OT.Gy,OT.half,Fm.hs_half xs]
attribute [go_sem] Fm.hs_full Fm.hs_er Fm.hs_half
abbrev fmH (x:Fm) (g h:Nat):SV:=.agg [.int .i64 x.op,.str x.atom.name,.ref g,.str x.var,.ref h]
abbrev Qm (x:Fm):Ob:=.row 30 2 (x.atom.args.map Tm.osh)
abbrev Ry (x:Fm):Ob:=.row 33 5 (x.parts.map Fm.hs)
theorem Fm.Cz (op:Int) (a:Tm) (v:ByteArray) (l:List Fm):(Fm.mk op a v l).nodes=1+Fm.nodeS l:=Fm.nodes_eq _
theorem Fm.Ey (op:Int) (a:Tm) (v:ByteArray) (l:List Fm):(Fm.mk op a v l).vn=a.nodes+Fm.vnS l:=Fm.MS _
theorem Fm.Cv {op:Int} {a:Tm} {v:ByteArray} {l:List Fm} (h1:a.nodes≤1099511627776) (h2:Fm.EP l):(Fm.mk op a v l).tame:=by rw [Fm.LK]; exact ⟨h1,h2⟩
theorem Fm.Iy {a:Fm} (h:a.tame):Fm.EP [a]:=by simp only [Fm.EP]; exact ⟨h,trivial⟩
theorem Fm.XF {a b:Fm} (h:a.tame) (k:b.tame):Fm.EP [a,b]:=by simp only [Fm.EP]; exact ⟨h,k,trivial⟩
theorem CW:Tm.zero.nodes=1:=by rw [Tm.nodes_eq]; rfl
theorem W6 (l:List Int) (hl:Bytes l) (hn:l.length≤1099511627776):∀ (d:Nat) (m:Int),m=d→1≤d→d≤20→∀ p s:Int,0≤p→p+(120*2 ^ d:Nat)≤1080000000000→∃ x p' s',E 73 [.ptr 0 0,.int .i64 m] [cur l p s]=some (fmH x 1 2,[cur l p' s',Qm x,Ry x])∧(p≤p'∧p'+10≤p+(120*2 ^ d:Nat))∧x.nodes+1≤2*2 ^ d∧x.tame∧x.vn+1≤8*2 ^ d:=by
 intro d
 have base:∀ (p1 s1:Int),0≤p1→p1≤1090000000000→∃ b2 p2 s2,E 29 [.ptr 0 0,.int .i64 16] [cur l p1 s1]=some (.bool b2,[cur l p2 s2])∧(p1≤p2∧p2≤p1+1)∧(∃ v p3 s3,E 28 [.ptr 0 0,.int .i64 2] [cur l p2 s2]=some (.int .i64 v,[cur l p3 s3])∧(0≤v∧v<2)∧p2≤p3∧p3≤p2+1)∧∃ t p4 s4,E 102 [.ptr 0 0] [cur l p2 s2]=some (tmH t 1,[cur l p4 s4,L4 t])∧(p2≤p4∧p4≤p2+100)∧t.nodes≤15:=fun p1 s1 a b=>by
  obtain ⟨b2,p2,s2,h1,h2,h3⟩:=Ln l hl hn 16 (by omega) (by omega) p1 s1 a (by omega)
  exact ⟨b2,p2,s2,h1,⟨h2,h3⟩,Dh l hl hn 2 (by omega) (by omega) p2 s2 (by omega) (by omega),XC l hl hn p2 s2 (by omega) (by omega)⟩
 induction d with
 | zero=>exact fun _ _ h=>absurd h (by omega)
 | succ e ih =>
  intro m hm _ hd p s h0 h1
  have hpe:2 ^ (e+1)=2*2 ^ e:=by rw [Nat.pow_succ,Nat.mul_comm]
  have hp1:1≤2 ^ e:=Nat.one_le_two_pow
  have hp2:2 ^ e≤2 ^ 20:=Nat.pow_le_pow_right (by omega) (by omega)
  have hp3:(2:Nat) ^ 20=1048576:=by decide
  have ih:=fun h1e=>ih (m-1) (by omega) h1e (by omega)
  rw [hpe] at h1 ⊢
  generalize 2 ^ e=q at *
  generalize hq2:2*q=q2 at *
  obtain ⟨Q,hQ⟩:∃ Q:SV × List Ob→Prop,Q=fun out=>∃ x p' s',out=(fmH x 1 2,[cur l p' s',Qm x,Ry x])∧(p≤p'∧p'+10≤p+(120*q2:Nat))∧x.nodes+1≤2*q2∧x.tame∧x.vn+1≤8*q2:=⟨_,rfl⟩
  suffices hq0:∃ out,E 73 [.ptr 0 0,.int .i64 m] [cur l p s]=some out∧Q out by
   obtain ⟨out,hq1,hq2⟩:=hq0
   rw [hQ] at hq2
   obtain ⟨x,p',s',rfl,hq3⟩:=hq2
   exact ⟨x,p',s',hq1,hq3⟩
  by_cases hm1:m≤1
  ·have q1:(m≤1)=True:=eq_true hm1
   obtain ⟨b2,p2,s2,hb2,⟨g3,g4⟩,⟨v,p3,s3,hv,⟨v0,v1⟩,g5,g6⟩,t,p4,s4,ht,⟨g7,g8⟩,g9⟩:=base p s (by omega) (by omega)
   cases b2 with
   | true =>
    have hi:dec (inK .i64 (1+v))=true:=Ea (by omega) (by omega)
    refine AL BL AT (of_decide_eq_true rfl) ?_
    simp (disch:=omega) only [B8,go_sem,Ab,q1,hb2,hv,hi,Ay,Am,B5]
    rw [hQ]
    exact ⟨.mk (1+v) Tm.zero ⟨#[]⟩ [],p3,s3,rfl,by omega,by rw [Fm.Cz]; show 1+0+1≤_; omega,Fm.Cv (by rw [CW]; omega) trivial,by rw [Fm.Ey,CW]; show 1+0+1≤_; omega⟩
   | false =>
    refine AL BL AT (of_decide_eq_true rfl) ?_
    simp (disch:=omega) only [B8,go_sem,Ab,q1,hb2,ht,Ay,Am,B5]
    rw [hQ]
    exact ⟨.mk 3 t ⟨#[]⟩ [],p4,s4,rfl,by omega,by rw [Fm.Cz]; show 1+0+1≤_; omega,Fm.Cv (by omega) trivial,by rw [Fm.Ey]; show t.nodes+0+1≤_; omega⟩
  ·have q1:(m≤1)=False:=eq_false hm1
   have ih:=ih (by omega)
   obtain ⟨b1,p1,s1,hb1,g1,g2⟩:=Ln l hl hn 4 (by omega) (by omega) p s h0 (by omega)
   cases b1 with
   | true =>
    obtain ⟨b2,p2,s2,hb2,⟨g3,g4⟩,⟨v,p3,s3,hv,⟨v0,v1⟩,g5,g6⟩,t,p4,s4,ht,⟨g7,g8⟩,g9⟩:=base p1 s1 (by omega) (by omega)
    cases b2 with
    | true =>
     have hi:dec (inK .i64 (1+v))=true:=Ea (by omega) (by omega)
     refine AL BL AT (of_decide_eq_true rfl) ?_
     simp (disch:=omega) only [B8,go_sem,Ab,q1,hb1,hb2,hv,hi,Ay,Am,B5]
     rw [hQ]
     exact ⟨.mk (1+v) Tm.zero ⟨#[]⟩ [],p3,s3,rfl,by omega,by rw [Fm.Cz]; show 1+0+1≤_; omega,Fm.Cv (by rw [CW]; omega) trivial,by rw [Fm.Ey,CW]; show 1+0+1≤_; omega⟩
    | false =>
     refine AL BL AT (of_decide_eq_true rfl) ?_
     simp (disch:=omega) only [B8,go_sem,Ab,q1,hb1,hb2,ht,Ay,Am,B5]
     rw [hQ]
     exact ⟨.mk 3 t ⟨#[]⟩ [],p4,s4,rfl,by omega,by rw [Fm.Cz]; show 1+0+1≤_; omega,Fm.Cv (by omega) trivial,by rw [Fm.Ey]; show t.nodes+0+1≤_; omega⟩
   | false =>
    obtain ⟨op,p2,s2,hop,hmem,g3,g4⟩:=IL l hl hn [4,5,6,7,8,9,8,9,5,7] (by decide) (by decide) p1 s1 (by omega) (by omega)
    simp only [zK,zR] at hop
    have hi:dec (inK .i64 (m-1))=true:=Ea (by omega) (by omega)
    by_cases ho4:op=4
    ·subst ho4
     obtain ⟨y,p3,s3,hy,⟨g5,g6⟩,g7,g8,gv⟩:=ih p2 s2 (by omega) (by omega)
     refine AL BL AT (of_decide_eq_true rfl) ?_
     simp (disch:=omega) only [B8,go_sem,Ab,q1,hb1,hop,hi,hy,Ay,Ax,AT]
     rw [hQ]
     exact ⟨.mk 4 Tm.zero ⟨#[]⟩ [y],p3,s3,rfl,by omega,by rw [Fm.Cz]; show 1+(y.nodes+0)+1≤_; omega,Fm.Cv (by rw [CW]; omega) (Fm.Iy g8),by rw [Fm.Ey,CW]; show 1+(y.vn+0)+1≤_; omega⟩
    ·have o4:(op=4)=False:=eq_false ho4
     by_cases ho8:op=8
     ·subst ho8
      obtain ⟨x,p3,s3,hx,_,g5,g6⟩:=OS l hl hn [⟨#[88]⟩,⟨#[89]⟩,⟨#[90]⟩,⟨#[88]⟩] (by decide) (by decide) p2 s2 (by omega) (by omega)
      simp only [zK,zR] at hx
      obtain ⟨y,p4,s4,hy,⟨g7,g8⟩,g9,g10,gv⟩:=ih p3 s3 (by omega) (by omega)
      refine AL BL AT (of_decide_eq_true rfl) ?_
      simp (disch:=omega) only [B8,go_sem,Ab,q1,hb1,hop,hi,hx,hy,Ay,Ax,Aq,AT]
      rw [hQ]
      exact ⟨.mk 8 Tm.zero x [y],p4,s4,rfl,by omega,by rw [Fm.Cz]; show 1+(y.nodes+0)+1≤_; omega,Fm.Cv (by rw [CW]; omega) (Fm.Iy g10),by rw [Fm.Ey,CW]; show 1+(y.vn+0)+1≤_; omega⟩
     ·have o8:(op=8)=False:=eq_false ho8
      by_cases ho9:op=9
      ·subst ho9
       obtain ⟨x,p3,s3,hx,_,g5,g6⟩:=OS l hl hn [⟨#[88]⟩,⟨#[89]⟩,⟨#[90]⟩,⟨#[88]⟩] (by decide) (by decide) p2 s2 (by omega) (by omega)
       simp only [zK,zR] at hx
       obtain ⟨y,p4,s4,hy,⟨g7,g8⟩,g9,g10,gv⟩:=ih p3 s3 (by omega) (by omega)
       refine AL BL AT (of_decide_eq_true rfl) ?_
       simp (disch:=omega) only [B8,go_sem,Ab,q1,hb1,hop,hi,hx,hy,Ay,Ax,Aq,AT]
       rw [hQ]
       exact ⟨.mk 9 Tm.zero x [y],p4,s4,rfl,by omega,by rw [Fm.Cz]; show 1+(y.nodes+0)+1≤_; omega,Fm.Cv (by rw [CW]; omega) (Fm.Iy g10),by rw [Fm.Ey,CW]; show 1+(y.vn+0)+1≤_; omega⟩
      ·have o9:(op=9)=False:=eq_false ho9
       obtain ⟨y,p3,s3,hy,⟨g5,g6⟩,g7,g8,gv⟩:=ih p2 s2 (by omega) (by omega)
       obtain ⟨z,p4,s4,hz,⟨g9,g10⟩,g11,g12,gw⟩:=ih p3 s3 (by omega) (by omega)
       refine AL BL AT (of_decide_eq_true rfl) ?_
       simp (disch:=omega) only [B8,go_sem,Ab,q1,hb1,hop,hi,hy,hz,o4,o8,o9,Ay,Ax,AT]
       rw [hQ]
       exact ⟨.mk op Tm.zero ⟨#[]⟩ [y,z],p4,s4,rfl,by omega,by rw [Fm.Cz]; show 1+(y.nodes+(z.nodes+0))+1≤_; omega,Fm.Cv (by rw [CW]; omega) (Fm.XF g8 g12),by rw [Fm.Ey,CW]; show 1+(y.vn+(z.vn+0))+1≤_; omega⟩
theorem MT (l:List Int) (hl:Bytes l) (hn:l.length≤1099511627776) (p s:Int) (h0:0≤p) (h1:p≤1070000000000):∃ x p' s',E 39 [.ptr 0 0] [cur l p s]=some (fmH x 1 2,[cur l p' s',Qm x,Ry x])∧(p≤p'∧p'≤p+2000)∧x.nodes≤31∧x.tame∧x.vn≤127:=by
 obtain ⟨v,p1,s1,hv,⟨v0,v1⟩,g1,g2⟩:=Dh l hl hn 4 (by omega) (by omega) p s h0 (by omega)
 have hp3:(2:Nat) ^ (1+v).toNat≤2 ^ 4:=Nat.pow_le_pow_right (by omega) (by omega)
 have hp4:(2:Nat) ^ 4=16:=by decide
 obtain ⟨x,p2,s2,hx,⟨g3,g4⟩,g5,g6,g7⟩:=W6 l hl hn (1+v).toNat (1+v) (by omega) (by omega) (by omega) p1 s1 (by omega) (by omega)
 refine ⟨x,p2,s2,?_,by omega,by omega,g6,by omega⟩
 have hi:dec (inK .i64 (1+v))=true:=Ea (by omega) (by omega)
 refine Al Ix Bu (of_decide_eq_true rfl) ?_
 simp (disch:=omega) only [Fy,go_sem,Ab,hv,hx,hi,Am,AT]
def Jh:SC:=(.seq (.reg [⟨some 1,none,.boxv 33 5 (.t 0)⟩,⟨some 2,none,.mv (.c (.int .i64 0))⟩]) (.seq (.reg [⟨some 3,none,.mv (.c (.int .i64 1))⟩]) (.seq (.seq (.reg [⟨some 4,none,.mv (.c (.int .i64 0))⟩]) (.block 0 (.loop [0,1,0,1,1,0,0,0,0,0,0,0,0,0,0,0,0,0,0,0,0] (.seq (.seq (.reg [⟨some 5,none,.mv (.t 4)⟩,⟨some 6,none,.faddr 4 (.t 1)⟩,⟨some 7,none,.load false 1 (.t 6)⟩,⟨some 8,none,.len false (.t 7)⟩,⟨some 9,none,.bin .lss false (.t 5) (.t 8)⟩]) (.cond (.t 9) .skip (.exit 0))) (.seq (.block 1 (.reg [⟨some 12,none,.mv (.t 3)⟩,⟨some 13,none,.faddr 4 (.t 1)⟩,⟨some 14,none,.load false 1 (.t 13)⟩,⟨some 15,none,.mv (.t 4)⟩,⟨some 16,none,.iaddr 5 (.t 14) (.t 15)⟩,⟨some 17,none,.load true 5 (.t 16)⟩,⟨some 18,none,.call 41 [(.t 17)]⟩,⟨some 19,none,.bin .add false (.t 12) (.t 18)⟩,⟨some 3,none,.mv (.t 19)⟩])) (.reg [⟨some 10,none,.mv (.t 4)⟩,⟨some 11,none,.bin .add false (.t 10) (.c (.int .i64 1))⟩,⟨some 4,none,.mv (.t 11)⟩])))))) (.seq (.reg [⟨some 20,none,.mv (.t 3)⟩,⟨some 2,none,.mv (.t 20)⟩]) .ret))))
theorem N0:As Tryz.prog 41=some ⟨21,Jh,[(.tmp 2)]⟩:=by kernel_rfl
theorem BA:modes 41=⟨[],.asis,none,false⟩:=by unfold modes; rfl
def AY:SC:=(.seq (.reg [⟨(some 2),none,(.alloc 33 [(.int .i64 0),(.str ⟨#[]⟩),.nil,(.str ⟨#[]⟩),.nil])⟩]) (.seq (.reg [⟨some 5,none,.mv (.t 0)⟩,⟨some 6,none,.call 39 [(.t 5)]⟩,⟨(some 3),none,(.alloc 33 [(.int .i64 0),(.str ⟨#[]⟩),.nil,(.str ⟨#[]⟩),.nil])⟩,⟨none,none,(.store 5 (.t 3) (.t 6))⟩]) (.seq (.seq (.reg [⟨some 7,none,.mv (.t 0)⟩,⟨some 8,none,.call 28 [(.t 7),(.c (.int .i64 24))]⟩]) (.block 0 (.seq (.reg [⟨some 10,none,.bin .eql false (.t 8) (.c (.int .i64 0))⟩,⟨some 9,none,.mv (.t 10)⟩]) (.cond (.t 9) (.reg [⟨some 11,none,.mv (.t 0)⟩,⟨some 12,none,.call 28 [(.t 11),(.c (.int .i64 11))]⟩,⟨some 13,none,.faddr 0 (.t 3)⟩,⟨none,none,(.store 1 (.t 13) (.t 12))⟩]) (.seq (.reg [⟨some 15,none,.bin .eql false (.t 8) (.c (.int .i64 1))⟩,⟨some 14,none,.mv (.t 15)⟩]) (.cond (.t 14) (.reg [⟨some 16,none,.mv (.t 0)⟩,⟨(some 17),none,(.mkrow 9 1 [(.str ⟨#[]⟩)] 3 [(0,(.c (.str ⟨#[88]⟩))),(1,(.c (.str ⟨#[97]⟩))),(2,(.c (.str ⟨#[]⟩)))])⟩,⟨some 18,none,.call 37 [(.t 16),(.t 17)]⟩,⟨some 19,none,.faddr 3 (.t 3)⟩,⟨none,none,(.store 1 (.t 19) (.t 18))⟩]) (.seq (.reg [⟨some 21,none,.bin .eql false (.t 8) (.c (.int .i64 2))⟩,⟨some 20,none,.mv (.t 21)⟩]) (.cond (.t 20) (.reg [⟨some 22,none,.mv (.t 0)⟩,⟨some 23,none,.call 40 [(.t 22)]⟩,⟨some 24,none,.faddr 1 (.t 3)⟩,⟨none,none,(.store 2 (.t 24) (.t 23))⟩]) (.seq (.reg [⟨some 26,none,.bin .eql false (.t 8) (.c (.int .i64 3))⟩,⟨some 25,none,.mv (.t 26)⟩]) (.cond (.t 25) (.dreg [[],[0],[],[2],[3,2],[1,0,4,3,2],[0,1,2,3,4,5],[6,0,1,2,3,4,5]] [⟨some 27,none,.faddr 4 (.t 3)⟩,⟨some 28,none,.load false 1 (.t 27)⟩,⟨some 29,none,.mv (.t 0)⟩,⟨some 30,none,.call 39 [(.t 29)]⟩,⟨(some 31),none,(.mkrow 33 5 [(.int .i64 0),(.str ⟨#[]⟩),.nil,(.str ⟨#[]⟩),.nil] 1 [(0,(.t 30))])⟩,⟨(some 32),none,(.append 33 5 88 [(.int .i64 0),(.str ⟨#[]⟩),.nil,(.str ⟨#[]⟩),.nil] (.t 28) (.t 31))⟩,⟨some 33,none,.faddr 4 (.t 3)⟩,⟨none,none,(.store 1 (.t 33) (.t 32))⟩]) (.seq (.reg [⟨some 35,none,.bin .eql false (.t 8) (.c (.int .i64 4))⟩,⟨some 34,none,.mv (.t 35)⟩]) (.cond (.t 34) (.seq (.reg [⟨some 36,none,.mv (.t 0)⟩,⟨some 37,none,.call 28 [(.t 36),(.c (.int .i64 5))]⟩,⟨some 38,none,.bin .add false (.c (.int .i64 36)) (.t 37)⟩,⟨some 4,none,.mv (.t 38)⟩]) (.block 1 (.loop [0,0,1,1,1,0,0,0,0,0,0,0,0,0,0,0,0,0,0,0,0,0,0,0,0,0,0,0,0,0,0,0,0,0,0,0,0,0,0,0,0,0,0,0,0,0,0,0,0,0,0,0,0,0,0,0,0,0,0] (.seq (.seq (.reg [⟨some 39,none,.load true 5 (.t 3)⟩,⟨some 40,none,.call 41 [(.t 39)]⟩,⟨some 41,none,.mv (.t 4)⟩,⟨some 42,none,.bin .lss false (.t 40) (.t 41)⟩]) (.cond (.t 42) .skip (.exit 1))) (.block 2 (.reg [⟨some 43,none,.load true 5 (.t 3)⟩,⟨(some 44),none,(.mkrow 33 5 [(.int .i64 0),(.str ⟨#[]⟩),.nil,(.str ⟨#[]⟩),.nil] 1 [(0,(.t 43))])⟩,⟨(some 45),none,(.build [(.int .i64 0),(.str ⟨#[]⟩),.nil,(.str ⟨#[]⟩),.nil] [(0,(1,(.c (.int .i64 4)))),(4,(1,(.t 44)))])⟩,⟨none,none,(.store 5 (.t 3) (.t 45))⟩])))))) (.seq (.reg [⟨some 47,none,.bin .eql false (.t 8) (.c (.int .i64 5))⟩,⟨some 46,none,.mv (.t 47)⟩]) (.cond (.t 46) (.seq (.reg [⟨some 48,none,.faddr 4 (.t 3)⟩,⟨some 49,none,.load false 1 (.t 48)⟩,⟨some 50,none,.len false (.t 49)⟩,⟨some 51,none,.bin .gtr false (.t 50) (.c (.int .i64 0))⟩]) (.cond (.t 51) (.dreg [[],[0],[],[2],[1,0,2,3],[4,1,0,2,3],[5,4,1,0,2,3]] [⟨some 52,none,.faddr 4 (.t 3)⟩,⟨some 53,none,.load false 1 (.t 52)⟩,⟨some 54,none,.mv (.t 0)⟩,⟨some 55,none,.call 28 [(.t 54),(.c (.int .i64 11))]⟩,⟨some 56,none,.iaddr 5 (.t 53) (.c (.int .i64 0))⟩,⟨some 57,none,.faddr 0 (.t 56)⟩,⟨none,none,(.store 1 (.t 57) (.t 55))⟩]) .skip)) .skip)))))))))))))) (.seq (.reg [⟨some 58,none,.load true 5 (.t 3)⟩,⟨none,none,(.store 5 (.t 2) (.t 58))⟩]) .ret))))
theorem Bo:As Tryz.prog 18=some ⟨59,AY,[(.cell 2 true 5)]⟩:=by kernel_rfl
theorem AZ:modes 18=⟨[],.half [none,none,some (30,2),none,some (33,5)],none,false⟩:=by unfold modes; rfl
theorem Tu (x:Fm) (hn:x.nodes≤1099511627776) (ih:∀ y∈x.parts,E 41 [y.sv] []=some (.int .i64 y.nodes,[])):E 41 [x.sv] []=some (.int .i64 x.nodes,[]):=by
 have hl:=Fm.length_le x.parts
 have hne:=Fm.nodes_eq x
 refine Al N0 BA (of_decide_eq_true rfl) ?_
 simp (disch:=omega) only [Jh,go_sem,Ab]
 refine go_loop (α:=Int × (Int)) (fun a=>⟨slots 21 0 [(1,.ptr 0 0),(3,.int .i64 (a.2)),(4,.int .i64 (a.1))],[.box 33 [.int .i64 x.op,.str x.atom.name,.arr (x.atom.args.map Tm.d),.str x.var,.arr (x.parts.map Fm.d)]]⟩) (fun a=>∃ k:Nat,a.1=k∧k≤(x.parts).length∧(a.2)=((1+Fm.nodeS (x.parts.take k):Nat):Int)) (fun a=>(x.parts).length-(a.1).toNat) (0,1) ⟨0,rfl,zH _,by rw [List.take_zero]; rfl⟩ (by simp (disch:=omega) only [go_sem,Ab]) ?_
 rintro ⟨i,n⟩ ⟨k,hi,hk,hR⟩
 dsimp only at hi hR
 have hni:i.toNat=k:=by omega
 have hni1:(i+1).toNat=k+1:=by omega
 rcases zD k (x.parts).length with hlt | hge
 ·have hg:=get_at Fm.d hlt
  rw [Fm.d_eq] at hg
  have hc:=ih x.parts[k] (zI hlt)
  have ht:=Fm.MQ x.parts k hlt
  have htl:=Fm.Nz x.parts (k+1)
  have hi2:dec (inK .i64 (n+(x.parts[k].nodes:Int)))=true:=Ea (by omega) (by omega)
  simp (disch:=omega) only [go_sem,Ab,hni,hg,hc,hi2,BA]
  exact ⟨(i+1,n+(x.parts[k].nodes:Int)),⟨k+1,by dsimp only; omega,hlt,by dsimp only; omega⟩,by dsimp only; omega,by first | trivial | rfl⟩
 ·obtain rfl:k=x.parts.length:=by omega
  rw [List.take_length,← hne] at hR
  rw [←hR]
  simp (disch:=omega) only [go_sem,Ab,hni]
theorem Qn (x:Fm) (hn:x.nodes≤1099511627776):E 41 [x.sv] []=some (.int .i64 x.nodes,[]) :=
 Tu x hn fun y hy=>Qn y (by have:=Fm.nodes_mem hy; have:=Fm.nodes_eq x; omega)
termination_by SizeOf.sizeOf x
decreasing_by exact Fm.lt_of_mem hy
def EI (x:Fm):Nat→Fm
 | 0=>x
 | k+1=>.mk 4 Tm.zero ⟨#[]⟩ [EI x k]
theorem H8 (x:Fm):∀ k,(EI x k).nodes=x.nodes+k
 | 0=>rfl
 | k+1=>by
  have:(EI x (k+1)).nodes=1+((EI x k).nodes+0):=by rw [EI,Fm.Cz]; rfl
  rw [this,H8 x k]; omega
theorem Sm (x:Fm):∀ k,(EI x k).vn=x.vn+k
 | 0=>rfl
 | k+1=>by
  have:(EI x (k+1)).vn=1+((EI x k).vn+0):=by rw [EI,Fm.Ey,CW]; rfl
  rw [this,Sm x k]; omega
theorem Oo {x:Fm} (h:x.tame):∀ k,(EI x k).tame
 | 0=>h
 | k+1=>Fm.Cv (by rw [CW]; omega) (Fm.Iy (Oo h k))
theorem Fm.nodeS_app:∀ (a b:List Fm),Fm.nodeS (a++b)=Fm.nodeS a+Fm.nodeS b
 | [],b=>by simp [Fm.nodeS]
 | x :: a,b=>by simp only [yE,Fm.nodeS,Fm.nodeS_app a b]; omega
theorem Fm.Sn:∀ a b:List Fm,Fm.vnS (a++b)=Fm.vnS a+Fm.vnS b
 | [],b=>by simp [Fm.vnS]
 | x :: a,b=>by simp only [yE,Fm.vnS,Fm.Sn a b]; omega
theorem Fm.Oq:∀ {a b:List Fm},Fm.EP a→Fm.EP b→Fm.EP (a++b)
 | [],b,_,h=>h
 | x :: a,b,h,k=>by
  simp only [Fm.EP] at h
  simp only [yE,Fm.EP]
  exact ⟨h.1,Fm.Oq h.2 k⟩
theorem Fm.So {x:Fm} (h:x.tame):Fm.EP x.parts:=by rw [Fm.LK] at h; exact h.2
theorem N1 (l:List Int) (hl:Bytes l) (hn:l.length≤1099511627776) (p s:Int) (h0:0≤p) (h1:p≤1060000000000):∃ x p' s',E 18 [.ptr 0 0] [cur l p s]=some (fmH x 1 2,[cur l p' s',Qm x,Ry x])∧(p≤p'∧p'≤p+5000)∧x.nodes≤100∧x.tame∧x.vn≤300:=by
 obtain ⟨Q,hQ⟩:∃ Q:SV × List Ob→Prop,Q=fun out=>∃ x p' s',out=(fmH x 1 2,[cur l p' s',Qm x,Ry x])∧(p≤p'∧p'≤p+5000)∧x.nodes≤100∧x.tame∧x.vn≤300:=⟨_,rfl⟩
 suffices hq0:∃ out,E 18 [.ptr 0 0] [cur l p s]=some out∧Q out by
  obtain ⟨out,hq1,hq2⟩:=hq0
  rw [hQ] at hq2
  obtain ⟨x,p',s',rfl,hq3⟩:=hq2
  exact ⟨x,p',s',hq1,hq3⟩
 obtain ⟨x,p1,s1,hf,⟨g1,g2⟩,g3,hta,hvn⟩:=MT l hl hn p s h0 (by omega)
 obtain ⟨v,p2,s2,hv,⟨v0,v1⟩,g4,g5⟩:=Dh l hl hn 24 (by omega) (by omega) p1 s1 (by omega) (by omega)
 have hlen:=Fm.length_le x.parts
 have hne:=Fm.nodes_eq x
 have hve:=Fm.MS x
 have hat:=Fm.LL hta
 have hps:=Fm.So hta
 rcases (show v=0∨v=1∨v=2∨v=3∨v=4∨v=5∨(¬ v=0∧¬ v=1∧¬ v=2∧¬ v=3∧¬ v=4∧¬ v=5) by omega) with rfl | rfl | rfl | rfl | rfl | rfl | ⟨k0,k1,k2,k3,k4,k5⟩
 ·obtain ⟨u,p3,s3,hu,_,g6,g7⟩:=Dh l hl hn 11 (by omega) (by omega) p2 s2 (by omega) (by omega)
  refine AL Bo AZ (of_decide_eq_true rfl) ?_
  simp (disch:=omega) only [AY,go_sem,Ab,hf,hv,hu,Am,Bu,Aq,A9,BA]
  rw [hQ]
  exact ⟨.mk u x.atom x.var x.parts,p3,s3,rfl,by omega,by rw [Fm.Cz]; omega,Fm.Cv hat hps,by rw [Fm.Ey]; omega⟩
 ·obtain ⟨y,p3,s3,hu,_,g6,g7⟩:=OS l hl hn [⟨#[88]⟩,⟨#[97]⟩,⟨#[]⟩] (by decide) (by decide) p2 s2 (by omega) (by omega)
  simp only [zK,zR] at hu
  refine AL Bo AZ (of_decide_eq_true rfl) ?_
  simp (disch:=omega) only [AY,go_sem,Ab,hf,hv,hu,Am,Bu,Aq,A9,BA]
  rw [hQ]
  exact ⟨.mk x.op x.atom y x.parts,p3,s3,rfl,by omega,by rw [Fm.Cz]; omega,Fm.Cv hat hps,by rw [Fm.Ey]; omega⟩
 ·obtain ⟨t,p3,s3,hu,⟨g6,g7⟩,g8⟩:=Tt l hl hn p2 s2 (by omega) (by omega)
  refine AL Bo AZ (of_decide_eq_true rfl) ?_
  simp (disch:=omega) only [AY,go_sem,Ab,hf,hv,hu,Am,Bu,Aq,A9,BA]
  rw [hQ]
  exact ⟨.mk x.op t x.var x.parts,p3,s3,rfl,by omega,by rw [Fm.Cz]; omega,Fm.Cv (by omega) hps,by rw [Fm.Ey]; omega⟩
 ·obtain ⟨y,p3,s3,hu,⟨g6,g7⟩,g8,hty,hvy⟩:=MT l hl hn p2 s2 (by omega) (by omega)
  have hxl:x.parts.length≤31:=by omega
  refine AL Bo AZ (of_decide_eq_true rfl) ?_
  simp (disch:=omega) only [AY,go_sem,Ab,hf,hv,hu,Am,Bu,Aq,A9,BA]
  rw [hQ]
  refine ⟨.mk x.op x.atom x.var (x.parts++[y]),p3,s3,?_,by omega,by rw [Fm.Cz,Fm.nodeS_app]; show 1+(_+(y.nodes+0))≤_; omega,Fm.Cv hat (Fm.Oq hps (Fm.Iy hty)),by rw [Fm.Ey,Fm.Sn]; show _+(_+(y.vn+0))≤_; omega⟩
  show _=(fmH (.mk x.op x.atom x.var (x.parts++[y])) 1 2,[cur l p3 s3,Qm x,.row 33 5 ((x.parts++[y]).map Fm.hs)])
  rw [yG]
  rfl
 ·obtain ⟨u,p3,s3,hu,⟨u0,u1⟩,g6,g7⟩:=Dh l hl hn 5 (by omega) (by omega) p2 s2 (by omega) (by omega)
  have hi:dec (inK .i64 (36+u))=true:=Ea (by omega) (by omega)
  refine AL Bo AZ (of_decide_eq_true rfl) ?_
  simp (disch:=omega) only [AY,go_sem,Ab,hf,hv,hu,hi,Am,Bu,Aq,A9,BA]
  refine go_loop (α:=Nat × List (List OT) × List (List OT)) (fun a=>⟨slots 59 0 [(2,.ptr 1 0),(3,.ptr 2 0),(4,.int .i64 (36+u))],(if a.1=0 then [cur l p3 s3,.box 33 [.int .i64 0,.str ⟨#[]⟩,.nil,.str ⟨#[]⟩,.nil],.box 33 [.int .i64 x.op,.str x.atom.name,.ref 3,.str x.var,.ref 4],Qm x,Ry x] else [cur l p3 s3,.box 33 [.int .i64 0,.str ⟨#[]⟩,.nil,.str ⟨#[]⟩,.nil],.box 33 [.int .i64 4,.str ⟨#[]⟩,.nil,.str ⟨#[]⟩,.ref 3],.row 33 5 [[.int (EI x (a.1-1)).op,.str (EI x (a.1-1)).atom.name,.ow a.2.1,.str (EI x (a.1-1)).var,.ow a.2.2]]])⟩) (fun a=>(a.1=0∨(OT.erss a.2.1=(EI x (a.1-1)).atom.args.map Tm.d∧OT.erss a.2.2=(EI x (a.1-1)).parts.map Fm.d∧OT.AI a.2.1=true∧OT.AI a.2.2=true))∧a.1≤50) (fun a=>50-a.1) (0,[],[]) ⟨.inl rfl,by omega⟩ (by simp (disch:=omega) only [go_sem,Ab,eq_self,if_true]) ?_
  rintro ⟨k,A,B⟩ ⟨hR,hk⟩
  dsimp only at hR hk
  have hsz:=Qn (EI x k) (by rw [H8]; omega)
  rw [H8] at hsz
  have hnn:=H8 x k
  rcases Nat.eq_zero_or_pos k with hk0 | hk0
  ·subst hk0
   have hsz:E 41 [.agg [.int .i64 x.op,.str x.atom.name,.arr (x.atom.args.map Tm.d),.str x.var,.arr (x.parts.map Fm.d)]] []=some (.int .i64 ((x.nodes+0:Nat):Int),[]):=hsz
   have q6:((0:Nat)+1=0)=False:=by simp
   by_cases hc:((x.nodes+0:Nat):Int)<36+u
   ·have q1:(((x.nodes+0:Nat):Int)<36+u)=True:=eq_true hc
    simp (disch:=omega) only [go_sem,Ab,hsz,q1,eq_self,if_true,BA]
    refine ⟨(0+1,x.atom.args.map Tm.osh,x.parts.map Fm.hs),⟨.inr ⟨Tm.MA _,Fm.hs_er _,Tm.JY _,Fm.hs_full _⟩,by dsimp only; omega⟩,by dsimp only; omega,?_⟩
    simp (disch:=omega) only [go_sem,Ab,q6,if_false,Nat.add_sub_cancel]
    first | rfl | exact ⟨rfl,rfl⟩
   ·exact absurd (show ((x.nodes+0:Nat):Int)<36+u by omega) hc
  ·obtain ⟨j,rfl⟩:∃ j,k=j+1:=⟨k-1,by omega⟩
   obtain ⟨e1,e2,e3,e4⟩:=hR.resolve_left (by omega)
   rw [Nat.add_sub_cancel] at e1 e2
   have hsv:(EI x (j+1)).sv=.agg [.int .i64 4,.str ⟨#[]⟩,.arr [],.str ⟨#[]⟩,.arr [[.int (EI x j).op,.str (EI x j).atom.name,.arr ((EI x j).atom.args.map Tm.d),.str (EI x j).var,.arr ((EI x j).parts.map Fm.d)]]]:=by
    show SV.agg [.int .i64 4,.str ⟨#[]⟩,.arr (([]:List Tm).map Tm.d),.str ⟨#[]⟩,.arr ([EI x j].map Fm.d)]=_
    rw [zK,zR,zR,Fm.d_eq]
   rw [hsv] at hsz
   have q8:(j+1=0)=False:=by simp
   have q9:j+1-1=j:=by omega
   have q10:(j+1+1=0)=False:=by simp
   have q11:j+1+1-1=j+1:=by omega
   by_cases hc:((x.nodes+(j+1):Nat):Int)<36+u
   ·have q1:(((x.nodes+(j+1):Nat):Int)<36+u)=True:=eq_true hc
    simp (disch:=omega) only [go_sem,Ab,hsz,q1,q8,q9,if_false,e1,e2,e3,e4,BA]
    refine ⟨(j+1+1,[],[[.int (EI x j).op,.str (EI x j).atom.name,.ow A,.str (EI x j).var,.ow B]]),⟨.inr ⟨?_,?_,rfl,?_⟩,by dsimp only; omega⟩,by dsimp only; omega,?_⟩
    ·dsimp only; rw [q11]; rfl
    ·dsimp only; rw [q11]
     simp only [OT.erss,OT.ers,OT.er,e1,e2]
     rw [show (EI x (j+1)).parts=[EI x j] from rfl,zK,zR,Fm.d_eq]
    ·simp only [OT.AI,OT.Da,OT.full,e3,e4,Bool.and_self]
    ·simp (disch:=omega) only [go_sem,Ab,q10,q11,if_false]
     first | rfl | exact ⟨rfl,rfl⟩
   ·have q1:(((x.nodes+(j+1):Nat):Int)<36+u)=False:=eq_false hc
    simp (disch:=omega) only [go_sem,Ab,hsz,q1,q8,q9,if_false,e1,e2,e3,e4,BA]
    rw [hQ]
    exact ⟨EI x (j+1),p3,s3,rfl,by omega,by omega,Oo hta _,by rw [Sm]; omega⟩
 ·rcases hc:x.parts with _ | ⟨a0,ar⟩
  ·have q0:((0:Int)<(x.parts.length:Int))=False:=eq_false (by rw [hc]; simp)
   rw [←hc] at *
   refine AL Bo AZ (of_decide_eq_true rfl) ?_
   simp (disch:=omega) only [AY,go_sem,Ab,hf,hv,q0,Am,Bu,Aq,A9,BA]
   rw [hQ]
   exact ⟨x,p2,s2,rfl,by omega,by omega,hta,by omega⟩
  ·have q0:((0:Int)<(x.parts.length:Int))=True:=eq_true (by rw [hc]; simp)
   obtain ⟨u,p3,s3,hu,_,g6,g7⟩:=Dh l hl hn 11 (by omega) (by omega) p2 s2 (by omega) (by omega)
   have hm:x.parts.map Fm.hs=[.int a0.op,.str a0.atom.name,.sh (a0.atom.args.map Tm.d),.str a0.var,.sh (a0.parts.map Fm.d)] :: ar.map Fm.hs:=by rw [hc]; rfl
   have hgl:(x.parts.map Fm.hs)[0]?=some [.int a0.op,.str a0.atom.name,.sh (a0.atom.args.map Tm.d),.str a0.var,.sh (a0.parts.map Fm.d)]:=by rw [hm]; rfl
   have hst:∀ y,(x.parts.map Fm.hs).set 0 y=y :: ar.map Fm.hs:=fun y=>by rw [hm]; rfl
   have q1:0<x.parts.length:=by rw [hc]; simp
   have hnn:x.nodes=1+(a0.nodes+Fm.nodeS ar):=by rw [Fm.nodes_eq,hc]; rfl
   rw [hc] at hps
   simp only [Fm.EP] at hps
   refine AL Bo AZ (of_decide_eq_true rfl) ?_
   simp (disch:=omega) only [AY,go_sem,Ab,hf,hv,q0,hu,hgl,hst,q1,Am,Bu,Aq,A9,BA]
   rw [hQ]
   have hvv:x.vn=x.atom.nodes+(a0.vn+Fm.vnS ar):=by rw [Fm.MS,hc]; rfl
   refine ⟨.mk x.op x.atom x.var (.mk u a0.atom a0.var a0.parts :: ar),p3,s3,rfl,by omega,?_,Fm.Cv hat ?_,?_⟩
   ·rw [Fm.Cz]
    show 1+((Fm.mk u a0.atom a0.var a0.parts).nodes+Fm.nodeS ar)≤_
    rw [Fm.Cz]
    have:=Fm.nodes_eq a0
    omega
   ·simp only [Fm.EP]
    exact ⟨Fm.Cv (Fm.LL hps.1) (Fm.So hps.1),hps.2⟩
   ·rw [Fm.Ey]
    show _+((Fm.mk u a0.atom a0.var a0.parts).vn+Fm.vnS ar)≤_
    rw [Fm.Ey]
    have:=Fm.MS a0
    omega
 ·have k0:=eq_false k0
  have k1:=eq_false k1
  have k2:=eq_false k2
  have k3:=eq_false k3
  have k4:=eq_false k4
  have k5:=eq_false k5
  refine AL Bo AZ (of_decide_eq_true rfl) ?_
  simp (disch:=omega) only [AY,go_sem,Ab,hf,hv,k0,k1,k2,k3,k4,k5,Am,Bu,Aq,A9,BA]
  rw [hQ]
  exact ⟨x,p2,s2,rfl,by omega,by omega,hta,by omega⟩
theorem Pd (l:List Int) (hl:Bytes l) (hn:l.length≤1099511627776) (p s:Int) (h0:0≤p) (h1:p≤1060000000000):∃ x p' s',E 18 [.ptr 0 0] [cur l p s]=some (fmH x 1 2,[cur l p' s',Qm x,Ry x])∧(p≤p'∧p'≤p+5000)∧x.nodes≤100∧x.tame:=by
 obtain ⟨x,p',s',h2,h3,h4,h5,_⟩:=N1 l hl hn p s h0 h1
 exact ⟨x,p',s',h2,h3,h4,h5⟩
theorem Qo (xs:List Tl) (hl:xs.length≤1099511627776):E 60 [.arr (xs.map Tl.d)] []=some (.bool (EE xs),[]):=by
 rcases zD 12 xs.length with h8 | h8
 ·have e:EE xs=false:=by unfold EE; rw [decide_eq_false (by omega),zJ]
  rw [e]
  refine Al Hk Dn (of_decide_eq_true rfl) ?_
  simp (disch:=omega) only [Fd,go_sem,Ab]
 refine Al Hk Dn (of_decide_eq_true rfl) ?_
 simp (disch:=omega) only [Fd,go_sem,Ab]
 refine go_loop (α:=Int) (fun a=>⟨slots 63 0 [(0,.arr (xs.map Tl.d)),(3,.int .i64 a)],[]⟩) (fun a=>∃ k:Nat,a=k∧k≤(xs).length∧Di (ME xs) k=true) (fun a=>(xs).length-(a).toNat) 0 ⟨0,rfl,zH _,by rw [Di]⟩ (by simp (disch:=omega) only [go_sem,Ab]) ?_
 rintro i ⟨k,hi,hk,hR⟩
 have hni:i.toNat=k:=by omega
 have hni1:(i+1).toNat=k+1:=by omega
 rcases zD k (xs).length with hlt | hge
 ·have hg:=get_at Tl.d hlt
  rw [Tl.d_eq] at hg
  have hs:=J4 xs[k].name
  have hw:=Pa xs[k].arity 0 3
  have no:ME xs k=false→EE xs=false:=fun h=>by unfold EE; rw [Kg h hlt,zA]
  cases ha:Ee xs[k].name with
  | false =>
   rw [ha] at hs
   rw [no (by cases k with | zero=>rw [Fb hlt,ha,zA] | succ j=>rw [D9 hlt,ha,zA])]
   simp (disch:=omega) only [go_sem,Ab,hni,hg,hs,hw,AM,Bt]
  | true =>
   rw [ha] at hs
   cases hb:inI xs[k].arity 0 3 with
   | false =>
    rw [hb] at hw
    rw [no (by cases k with | zero=>rw [Fb hlt,hb,zJ] | succ j=>rw [D9 hlt,hb,zA,zJ])]
    simp (disch:=omega) only [go_sem,Ab,hni,hg,hs,hw,AM,Bt]
   | true =>
    rw [hb] at hw
    cases k with
    | zero =>
     obtain rfl:i=0:=hi
     simp (disch:=omega) only [go_sem,Ab,hni,hg,hs,hw,AM,Bt]
     exact ⟨1,⟨1,rfl,hlt,by rw [Di,hR,Fb hlt,ha,hb]; rfl⟩,by omega,by first | trivial | rfl⟩
    | succ j =>
     have hj:j<xs.length:=by omega
     have hg2:=get_at Tl.d hj
     rw [Tl.d_eq] at hg2
     have hni2:(i-1).toNat=j:=by omega
     have yes:DH xs[j] xs[j+1]=true→Di (ME xs) (j+1+1)=true:=fun h=>by rw [Di,hR,D9 hlt,ha,hb,h]; rfl
     have no2:DH xs[j] xs[j+1]=false→EE xs=false:=fun h=>no (by rw [D9 hlt,ha,hb,h]; rfl)
     cases h1:strLt xs[j].name xs[j+1].name with
     | true =>
      have h2:dec (xs[j].name=xs[j+1].name)=false:=Aj (Iu h1)
      have hk2:DH xs[j] xs[j+1]=true:=by unfold DH; rw [h1]; rfl
      simp (disch:=omega) only [go_sem,Ab,hni,hg,hs,hw,AM,Bt,hni2,hg2,h1,h2]
      exact ⟨i+1,⟨j+1+1,by omega,hlt,yes hk2⟩,by omega,by first | trivial | rfl⟩
     | false =>
      cases h2:dec (xs[j].name=xs[j+1].name) with
      | false =>
       have hk2:DH xs[j] xs[j+1]=false:=by unfold DH; rw [h1,h2]; rfl
       rw [no2 hk2]
       simp (disch:=omega) only [go_sem,Ab,hni,hg,hs,hw,AM,Bt,hni2,hg2,h1,h2]
      | true =>
       rcases yA xs[j].arity xs[j+1].arity with hq | hq
       ·have h3:dec (xs[j+1].arity≤xs[j].arity)=false:=Aj (by omega)
        have hk2:DH xs[j] xs[j+1]=true:=by unfold DH; rw [h1,h2,A1 hq]; rfl
        simp (disch:=omega) only [go_sem,Ab,hni,hg,hs,hw,AM,Bt,hni2,hg2,h1,h2,h3]
        exact ⟨i+1,⟨j+1+1,by omega,hlt,yes hk2⟩,by omega,by first | trivial | rfl⟩
       ·have h3:dec (xs[j+1].arity≤xs[j].arity)=true:=A1 hq
        have hk2:DH xs[j] xs[j+1]=false:=by unfold DH; rw [h1,h2,Aj (by omega)]; rfl
        rw [no2 hk2]
        simp (disch:=omega) only [go_sem,Ab,hni,hg,hs,hw,AM,Bt,hni2,hg2,h1,h2,h3]
 ·obtain rfl:k=xs.length:=by omega
  simp (disch:=omega) only [go_sem,Ab,hni]
  unfold EE
  rw [hR,decide_eq_true h8]; rfl
theorem Tv (m:Ip) (hm:m.tame):E 24 [m.sv] []=some (.bool m.ok,[]):=by
 have h1:=Pa m.size 1 3
 have h2:=Qo m.tables hm.1
 unfold Ip.ok
 cases hs:inI m.size 1 3 with
 | false =>
  rw [hs] at h1
  rw [zA]
  refine Al Gj CL (of_decide_eq_true rfl) ?_
  simp (disch:=omega) only [EG,go_sem,Ab,h1,h2,Bt,Dn]
 | true =>
  rw [hs] at h1
  rw [zE]
  cases ht:EE m.tables with
  | false =>
   rw [ht] at h2
   rw [zA]
   refine Al Gj CL (of_decide_eq_true rfl) ?_
   simp (disch:=omega) only [EG,go_sem,Ab,h1,h2,Bt,Dn]
  | true =>
   rw [ht] at h2
   rw [zE]
   obtain ⟨s1,s3⟩:=H6.1 hs
   have hl:=hm.1
   refine Al Gj CL (of_decide_eq_true rfl) ?_
   simp (disch:=omega) only [EG,go_sem,Ab,h1,h2,Bt,Dn]
   refine go_loop (α:=Int) (fun a=>⟨slots 58 0 [(1,.ptr 0 0),(3,.int .i64 a)],[.box 26 [.int .i64 m.size,.arr (m.tables.map Tl.d)]]⟩) (fun a=>∃ k:Nat,a=k∧k≤(m.tables).length∧(m.tables.drop k).all (tlB m.size)=m.tables.all (tlB m.size)) (fun a=>(m.tables).length-(a).toNat) 0 ⟨0,rfl,zH _,by rw [zG]⟩ (by simp (disch:=omega) only [go_sem,Ab]) ?_
   rintro i ⟨k,hi,hk,hR⟩
   have hni:i.toNat=k:=by omega
   have hni1:(i+1).toNat=k+1:=by omega
   rcases zD k (m.tables).length with hlt | hge
   ·have hg:=get_at Tl.d hlt
    rw [Tl.d_eq] at hg
    obtain ⟨a0,a3⟩:=Ir ht (zI hlt)
    have hvl:=hm.2 _ (zI hlt)
    have hp:=MM m.size m.tables[k].arity s1 s3 a0 (by omega)
    have hps:=Iq s1 s3 (k:=m.tables[k].arity.toNat) (by omega)
    rw [zC hlt,List.all_cons] at hR
    have hT:tlB m.size m.tables[k]=(dec ((m.tables[k].vals.length:Int)=pw m.size m.tables[k].arity.toNat)&&m.tables[k].vals.all fun v=>inI v 0 (kinds m.size m.tables[k]-1)):=rfl
    have hk0:1≤kinds m.size m.tables[k]∧kinds m.size m.tables[k]≤3:=by unfold kinds; split <;> omega
    have step:∀ b:Bool,m.tables[k].pred=b→kinds m.size m.tables[k]=(if b then 2 else m.size):=fun b hb=>by unfold kinds; rw [hb]
    cases hd:dec ((m.tables[k].vals.length:Int)=pw m.size m.tables[k].arity.toNat) with
    | false =>
     rw [hT,hd,zA,zA] at hR
     rw [←hR]
     cases hb:m.tables[k].pred
     ·simp (disch:=omega) only [go_sem,Ab,hni,hg,hp,hd,hb,Bl]
     ·simp (disch:=omega) only [go_sem,Ab,hni,hg,hp,hd,hb,Bl]
    | true =>
     rw [hT,hd,zE] at hR
     have fin:∀ (b:Bool),m.tables[k].pred=b→True:=fun _ _=>trivial
     cases hb:m.tables[k].pred
     all_goals
      have hkk:=step _ hb
      simp only [if_true,if_false,yC] at hkk
      simp (disch:=omega) only [go_sem,Ab,hni,hg,hp,hd,hb,Bl]
      refine go_loop (α:=Int) (fun q=>⟨slots 58 0 [(1,.ptr 0 0),(3,.int .i64 i),(4,.ptr 1 0),(5,.int .i64 (kinds m.size m.tables[k]-1)),(6,.int .i64 q)],[.box 26 [.int .i64 m.size,.arr (m.tables.map Tl.d)],.box 44 [.str m.tables[k].name,.int .i64 m.tables[k].arity,.bool m.tables[k].pred,.arr (m.tables[k].vals.map fun n=>[D.int n])]]⟩) (fun q=>∃ n:Nat,q=n∧n≤m.tables[k].vals.length∧((m.tables[k].vals.drop n).all fun v=>inI v 0 (kinds m.size m.tables[k]-1))=(m.tables[k].vals.all fun v=>inI v 0 (kinds m.size m.tables[k]-1))) (fun q=>m.tables[k].vals.length-q.toNat) 0 ⟨0,rfl,zH _,by rw [zG]⟩ (by simp (disch:=omega) only [go_sem,Ab,hkk,hb,Int.reduceSub]) ?_
      rintro q ⟨n,hq,hn,hQ⟩
      have hqn:q.toNat=n:=by omega
      rcases zD n m.tables[k].vals.length with hlt2 | hge2
      ·have hgv:=get_at (fun n=>[D.int n]) hlt2
       have hv:=Pa m.tables[k].vals[n] 0 (kinds m.size m.tables[k]-1)
       rw [zC hlt2,List.all_cons] at hQ
       cases hw:inI m.tables[k].vals[n] 0 (kinds m.size m.tables[k]-1) with
       | false =>
        rw [hw] at hv hQ
        rw [zA] at hQ
        rw [←hQ,zA] at hR
        rw [←hR]
        simp (disch:=omega) only [go_sem,Ab,hqn,hgv,hv,Bt]
       | true =>
        rw [hw] at hv hQ
        rw [zE] at hQ
        simp (disch:=omega) only [go_sem,Ab,hqn,hgv,hv,Bt]
        exact ⟨q+1,⟨n+1,by omega,hlt2,hQ⟩,by omega,by first | trivial | rfl | simp only [hb]⟩
      ·rw [zF hge2,List.all_nil] at hQ
       rw [←hQ,zE] at hR
       simp (disch:=omega) only [go_sem,Ab,hqn]
       exact ⟨i+1,⟨k+1,by omega,hlt,hR⟩,by omega,by first | trivial | rfl⟩
   ·rw [zF hge,List.all_nil] at hR
    rw [←hR]
    simp (disch:=omega) only [go_sem,Ab,hni]
def CQ:SC:=(.seq (.reg [⟨some 2,none,.boxv 26 2 (.t 0)⟩,⟨some 4,none,.mv (.c (.mp true nomap))⟩,⟨some 5,none,.mv (.c (.bool false))⟩]) (.seq (.reg [⟨some 9,none,.mkmap true none⟩,⟨some 6,none,.mv (.t 9)⟩]) (.seq (.seq (.reg [⟨some 10,none,.mv (.t 1)⟩,⟨some 11,none,.len false (.t 10)⟩,⟨some 12,none,.mv (.c (.int .i64 0))⟩]) (.block 0 (.loop [0,1,1,0,0,0,1,0,0,0,1,1,1,0,0,0,0,0,0,0,0,0,0,0,0,0,0,0,0,0,0,0,0,0,0,0,0,0,0,0,0,0,0,0,0,0,0,0,0,0,0,0] (.seq (.reg [⟨some 13,none,.bin .lss false (.t 12) (.t 11)⟩]) (.seq (.cond (.t 13) .skip (.exit 0)) (.seq (.block 1 (.seq (.reg [⟨some 14,none,.mv (.t 12)⟩,⟨some 15,none,.iaddr 2 (.t 10) (.t 12)⟩,⟨some 16,none,.load true 2 (.t 15)⟩,⟨(some 8),none,(.alloc 76 [(.str ⟨#[]⟩),(.int .i64 0)])⟩,⟨some 7,none,.mv (.t 14)⟩,⟨none,none,(.store 2 (.t 8) (.t 16))⟩]) (.seq (.seq (.dreg [[],[0],[1,0],[2,1,0],[3,2,1,0],[4,3,2,1,0],[5,4,3,2,1,0],[4,3,2,1,0],[7,4,3,2,1,0],[8,7,4,3,2,1,0],[6,5,4,3,2,1,0,9,8,7],[10,6,5,4,3,2,1,0,9,8,7],[4,3,2,1,0,11,10,6,5,9,8,7],[12,4,3,2,1,0,11,10,6,5,9,8,7],[13,12,4,3,2,1,0,11,10,6,5,9,8,7],[14,13,12,4,3,2,1,0,11,10,6,5,9,8,7],[15,14,13,12,4,3,2,1,0,11,10,6,5,9,8,7],[16,15,14,13,12,4,3,2,1,0,11,10,6,5,9,8,7],[17,16,15,14,13,12,4,3,2,1,0,11,10,6,5,9,8,7],[16,15,14,13,12,4,3,2,1,0,11,10,6,5,9,8,7],[16,15,14,13,12,4,3,2,1,0,11,10,6,5,9,8,7],[20,16,15,14,13,12,4,3,2,1,0,11,10,6,5,9,8,7],[19,16,15,14,13,12,4,3,2,1,0,11,10,6,5,9,8,7,21,20],[22,19,16,15,14,13,12,4,3,2,1,0,11,10,6,5,9,8,7,21,20],[23,22,19,16,15,14,13,12,4,3,2,1,0,11,10,6,5,9,8,7,21,20],[18,17,16,15,14,13,12,4,3,2,1,0,11,10,6,5,9,8,7,24,23,22,19,21,20],[16,15,14,13,12,4,3,2,1,0,11,10,6,5,9,8,7,25,18,17,24,23,22,19,21,20],[13,12,4,3,2,1,0,11,10,6,5,9,8,7,26,16,15,14,25,18,17,24,23,22,19,21,20]] [⟨some 17,none,.faddr 0 (.t 8)⟩,⟨some 18,none,.load false 1 (.t 17)⟩,⟨some 19,none,.call 42 [(.t 18)]⟩,⟨some 20,none,.un .not (.t 19)⟩,⟨some 21,none,.mv (.t 20)⟩,⟨(some 22),(some (21,false)),(.faddr 1 (.t 8))⟩,⟨(some 23),(some (21,false)),(.load false 1 (.t 22))⟩,⟨(some 24),(some (21,false)),(.faddr 0 (.t 2))⟩,⟨(some 25),(some (21,false)),(.load false 1 (.t 24))⟩,⟨(some 26),(some (21,false)),(.bin .sub false (.t 25) (.c (.int .i64 1)))⟩,⟨(some 27),(some (21,false)),(.call 43 [(.t 23),(.c (.int .i64 0)),(.t 26)])⟩,⟨(some 28),(some (21,false)),(.un .not (.t 27))⟩,⟨some 29,none,.pick (.t 21) (.c (.bool true)) (.t 28)⟩,⟨some 30,none,.mv (.t 29)⟩,⟨(some 31),(some (30,false)),(.mv (.t 7))⟩,⟨(some 32),(some (30,false)),(.bin .gtr false (.t 31) (.c (.int .i64 0)))⟩,⟨(some 33),(some (30,false)),(.mv (.t 32))⟩,⟨(some 34),(some (33,true)),(.faddr 0 (.t 8))⟩,⟨(some 35),(some (33,true)),(.load false 1 (.t 34))⟩,⟨(some 36),(some (33,true)),(.mv (.t 1))⟩,⟨(some 37),(some (33,true)),(.mv (.t 7))⟩,⟨(some 38),(some (33,true)),(.bin .sub false (.t 37) (.c (.int .i64 1)))⟩,⟨(some 39),(some (33,true)),(.iaddr 2 (.t 36) (.t 38))⟩,⟨(some 40),(some (33,true)),(.faddr 0 (.t 39))⟩,⟨(some 41),(some (33,true)),(.load false 1 (.t 40))⟩,⟨(some 42),(some (33,true)),(.bin .leq false (.t 35) (.t 41))⟩,⟨(some 43),(some (30,false)),(.pick (.t 33) (.t 42) (.c (.bool false)))⟩,⟨some 44,none,.pick (.t 30) (.c (.bool true)) (.t 43)⟩]) (.cond (.t 44) (.seq (.reg [⟨some 4,none,.mv (.c (.mp true nomap))⟩,⟨some 5,none,.mv (.c (.bool false))⟩]) .ret) .skip)) (.reg [⟨some 45,none,.mv (.t 6)⟩,⟨some 46,none,.faddr 0 (.t 8)⟩,⟨some 47,none,.load false 1 (.t 46)⟩,⟨some 48,none,.faddr 1 (.t 8)⟩,⟨some 49,none,.load false 1 (.t 48)⟩,⟨none,none,(.mset true (.t 45) (.t 47) (.t 49))⟩])))) (.reg [⟨some 50,none,.bin .add false (.t 12) (.c (.int .i64 1))⟩,⟨some 12,none,.mv (.t 50)⟩]))))))) (.seq (.reg [⟨some 51,none,.mv (.t 6)⟩,⟨some 4,none,.mv (.t 51)⟩,⟨some 5,none,.mv (.c (.bool true))⟩]) .ret))))
theorem E3:As Tryz.prog 19=some ⟨52,CQ,[(.tmp 4),(.tmp 5)]⟩:=by kernel_rfl
theorem AV:modes 19=⟨[],.frz,none,false⟩:=by unfold modes; rfl
def CF:SC:=(.seq (.reg [⟨some 4,none,.boxv 26 2 (.t 0)⟩,⟨some 5,none,.boxv 9 1 (.t 1)⟩,⟨some 6,none,.boxv 3 1 (.t 2)⟩,⟨some 7,none,.boxv 4 1 (.t 3)⟩,⟨(some 8),none,(.alloc 44 [(.str ⟨#[]⟩),(.int .i64 0),(.bool false),.nil])⟩,⟨some 9,none,.mv (.c (.bool false))⟩]) (.seq (.reg [⟨some 11,none,.faddr 1 (.t 4)⟩,⟨some 12,none,.load false 1 (.t 11)⟩,⟨some 13,none,.mkfn 128 [(.t 5),(.t 6),(.t 7)]⟩,⟨some 14,none,.call 82 [(.t 12),(.t 13)]⟩,⟨some 10,none,.mv (.t 14)⟩]) (.seq (.seq (.reg [⟨some 15,none,.mv (.t 10)⟩,⟨some 16,none,.bin .lss false (.t 15) (.c (.int .i64 0))⟩]) (.cond (.t 16) (.seq (.reg [⟨(some 17),none,(.build [(.str ⟨#[]⟩),(.int .i64 0),(.bool false),.nil] [])⟩,⟨none,none,(.store 4 (.t 8) (.t 17))⟩,⟨some 9,none,.mv (.c (.bool false))⟩]) .ret) .skip)) (.seq (.reg [⟨some 18,none,.faddr 1 (.t 4)⟩,⟨some 19,none,.load false 1 (.t 18)⟩,⟨some 20,none,.mv (.t 10)⟩,⟨some 21,none,.iaddr 4 (.t 19) (.t 20)⟩,⟨some 22,none,.load true 4 (.t 21)⟩,⟨none,none,(.store 4 (.t 8) (.t 22))⟩,⟨some 9,none,.mv (.c (.bool true))⟩]) .ret))))
theorem DJ:As Tryz.prog 112=some ⟨23,CF,[(.cell 8 true 4),(.tmp 9)]⟩:=by kernel_rfl
theorem Cc:modes 112=⟨[],.asis,none,false⟩:=by unfold modes; rfl
def BQ:SC:=(.seq (.reg [⟨some 4,none,.boxv 44 4 (.t 0)⟩,⟨some 5,none,.mv (.c (.bool false))⟩]) (.seq (.reg [⟨some 6,none,.faddr 0 (.t 4)⟩,⟨some 7,none,.load false 1 (.t 6)⟩,⟨some 8,none,.load false 1 (.t 1)⟩,⟨some 9,none,.bin .eql false (.t 7) (.t 8)⟩,⟨some 10,none,.mv (.t 9)⟩,⟨(some 11),(some (10,true)),(.faddr 1 (.t 4))⟩,⟨(some 12),(some (10,true)),(.load false 1 (.t 11))⟩,⟨(some 13),(some (10,true)),(.load false 1 (.t 2))⟩,⟨(some 14),(some (10,true)),(.bin .eql false (.t 12) (.t 13))⟩,⟨some 15,none,.pick (.t 10) (.t 14) (.c (.bool false))⟩,⟨some 16,none,.mv (.t 15)⟩,⟨(some 17),(some (16,true)),(.faddr 2 (.t 4))⟩,⟨(some 18),(some (16,true)),(.load false 1 (.t 17))⟩,⟨(some 19),(some (16,true)),(.load false 1 (.t 3))⟩,⟨(some 20),(some (16,true)),(.bin .eql true (.t 18) (.t 19))⟩,⟨some 21,none,.pick (.t 16) (.t 20) (.c (.bool false))⟩,⟨some 5,none,.mv (.t 21)⟩]) .ret))
theorem C5:As Tryz.prog 128=some ⟨22,BQ,[(.tmp 5)]⟩:=by kernel_rfl
theorem B7:modes 128=⟨[],.asis,none,false⟩:=by unfold modes; rfl
theorem Du:HP Tryz.prog 128=true:=by kernel_rfl
def CC:SC:=(.seq (.reg [⟨some 4,none,.boxv 26 2 (.t 0)⟩,⟨some 5,none,.boxv 30 2 (.t 1)⟩,⟨some 8,none,.mv (.c (.int .i64 0))⟩,⟨some 9,none,.mv (.c (.bool false))⟩]) (.seq (.reg [⟨some 18,none,.load true 2 (.t 4)⟩,⟨some 19,none,.faddr 0 (.t 5)⟩,⟨some 20,none,.load false 1 (.t 19)⟩,⟨some 21,none,.faddr 1 (.t 5)⟩,⟨some 22,none,.load false 1 (.t 21)⟩,⟨some 23,none,.len false (.t 22)⟩,⟨some 24,none,.mv (.t 3)⟩,⟨some 25,none,.call 112 [(.t 18),(.t 20),(.t 23),(.t 24)]⟩,⟨some 17,none,.mv (.t 25)⟩,⟨some 26,none,.ext (.t 17) 0⟩,⟨some 27,none,.ext (.t 17) 1⟩,⟨(some 10),none,(.alloc 44 [(.str ⟨#[]⟩),(.int .i64 0),(.bool false),.nil])⟩,⟨none,none,(.store 4 (.t 10) (.t 26))⟩,⟨some 11,none,.mv (.t 27)⟩]) (.seq (.seq (.reg [⟨some 28,none,.mv (.t 11)⟩,⟨some 29,none,.un .not (.t 28)⟩]) (.cond (.t 29) (.seq (.reg [⟨some 8,none,.mv (.c (.int .i64 0))⟩,⟨some 9,none,.mv (.c (.bool false))⟩]) .ret) .skip)) (.seq (.reg [⟨some 12,none,.mv (.c (.int .i64 0))⟩]) (.seq (.seq (.reg [⟨some 30,none,.faddr 1 (.t 5)⟩,⟨some 31,none,.load false 1 (.t 30)⟩,⟨some 32,none,.len false (.t 31)⟩,⟨some 33,none,.mv (.c (.int .i64 0))⟩]) (.block 0 (.loop [0,0,1,0,1,0,0,0,0,0,1,0,1,0,0,0,0,0,0,0,0,0,0,0,0,0,0,0,0,0,0,1,1,1,0,0,0,0,0,0,0,0,0,0,0,0,0,0,0,0,0,0,0,0,0,0,0,0] (.seq (.reg [⟨some 34,none,.bin .lss false (.t 33) (.t 32)⟩]) (.seq (.cond (.t 34) .skip (.exit 0)) (.seq (.block 1 (.seq (.reg [⟨some 35,none,.iaddr 2 (.t 31) (.t 33)⟩,⟨some 36,none,.load true 2 (.t 35)⟩,⟨(some 14),none,(.alloc 30 [(.str ⟨#[]⟩),.nil])⟩,⟨none,none,(.store 2 (.t 14) (.t 36))⟩]) (.seq (.reg [⟨some 38,none,.load true 2 (.t 4)⟩,⟨some 39,none,.load true 2 (.t 14)⟩,⟨some 40,none,.mv (.t 2)⟩,⟨some 41,none,.call 89 [(.t 38),(.t 39),(.t 40)]⟩,⟨some 37,none,.mv (.t 41)⟩,⟨some 42,none,.ext (.t 37) 0⟩,⟨some 43,none,.ext (.t 37) 1⟩,⟨some 15,none,.mv (.t 42)⟩,⟨some 16,none,.mv (.t 43)⟩]) (.seq (.seq (.reg [⟨some 44,none,.mv (.t 16)⟩,⟨some 45,none,.un .not (.t 44)⟩]) (.cond (.t 45) (.seq (.reg [⟨some 8,none,.mv (.c (.int .i64 0))⟩,⟨some 9,none,.mv (.c (.bool false))⟩]) .ret) .skip)) (.reg [⟨some 46,none,.mv (.t 12)⟩,⟨some 47,none,.faddr 0 (.t 4)⟩,⟨some 48,none,.load false 1 (.t 47)⟩,⟨some 49,none,.bin .mul false (.t 46) (.t 48)⟩,⟨some 50,none,.mv (.t 15)⟩,⟨some 51,none,.bin .add false (.t 49) (.t 50)⟩,⟨some 12,none,.mv (.t 51)⟩]))))) (.reg [⟨some 52,none,.bin .add false (.t 33) (.c (.int .i64 1))⟩,⟨some 33,none,.mv (.t 52)⟩]))))))) (.seq (.reg [⟨some 53,none,.faddr 3 (.t 10)⟩,⟨some 54,none,.load false 1 (.t 53)⟩,⟨some 55,none,.mv (.t 12)⟩,⟨some 56,none,.iaddr 1 (.t 54) (.t 55)⟩,⟨some 57,none,.load false 1 (.t 56)⟩,⟨some 8,none,.mv (.t 57)⟩,⟨some 9,none,.mv (.c (.bool true))⟩]) .ret))))))
theorem D5:As Tryz.prog 90=some ⟨58,CC,[(.tmp 8),(.tmp 9)]⟩:=by kernel_rfl
theorem BX:modes 90=⟨[],.asis,none,false⟩:=by unfold modes; rfl
def Cd:SC:=(.seq (.reg [⟨some 3,none,.boxv 26 2 (.t 0)⟩,⟨some 4,none,.boxv 30 2 (.t 1)⟩,⟨some 6,none,.mv (.c (.int .i64 0))⟩,⟨some 7,none,.mv (.c (.bool false))⟩]) (.seq (.seq (.reg [⟨some 10,none,.load true 2 (.t 4)⟩,⟨some 11,none,.call 111 [(.t 10)]⟩]) (.cond (.t 11) (.seq (.reg [⟨some 13,none,.mv (.t 2)⟩,⟨some 14,none,.faddr 0 (.t 4)⟩,⟨some 15,none,.load false 1 (.t 14)⟩,⟨some 16,none,.mget true true false [(.int .i64 0)] (.t 13) (.t 15)⟩,⟨some 12,none,.mv (.t 16)⟩,⟨some 17,none,.ext (.t 12) 0⟩,⟨some 18,none,.ext (.t 12) 1⟩,⟨some 8,none,.mv (.t 17)⟩,⟨some 9,none,.mv (.t 18)⟩]) (.seq (.reg [⟨some 19,none,.mv (.t 8)⟩,⟨some 20,none,.mv (.t 9)⟩,⟨some 6,none,.mv (.t 19)⟩,⟨some 7,none,.mv (.t 20)⟩]) .ret)) .skip)) (.seq (.reg [⟨some 21,none,.load true 2 (.t 3)⟩,⟨some 22,none,.load true 2 (.t 4)⟩,⟨some 23,none,.mv (.t 2)⟩,⟨some 24,none,.call 90 [(.t 21),(.t 22),(.t 23),(.c (.bool false))]⟩,⟨some 25,none,.ext (.t 24) 0⟩,⟨some 26,none,.ext (.t 24) 1⟩,⟨some 6,none,.mv (.t 25)⟩,⟨some 7,none,.mv (.t 26)⟩]) .ret)))
theorem CG:As Tryz.prog 89=some ⟨27,Cd,[(.tmp 6),(.tmp 7)]⟩:=by kernel_rfl
theorem AH:modes 89=⟨[],.asis,none,false⟩:=by unfold modes; rfl
def Fz:SC:=(.seq (.reg [⟨some 2,none,.boxv 26 2 (.t 0)⟩,⟨some 4,none,.mv (.c (.bool false))⟩]) (.seq (.seq (.reg [⟨some 5,none,.mv (.c (.int .i64 0))⟩]) (.block 0 (.loop [0,1,1,0,0,1,0,0,0,0,0,0,0,0,0,0,0,0,0,0,0,0,0,0,0,0,0,0,0,0,0,0,0,0,0,0,0,0,0,0,0,0,0,0,0,0,0,0,0] (.seq (.seq (.reg [⟨some 6,none,.mv (.t 5)⟩,⟨some 7,none,.mv (.t 1)⟩,⟨some 8,none,.len false (.t 7)⟩,⟨some 9,none,.bin .lss false (.t 6) (.t 8)⟩]) (.cond (.t 9) .skip (.exit 0))) (.seq (.block 1 (.seq (.dreg [[],[],[0,1],[2,0,1],[3,2,0,1],[4,3,2,0,1],[5,4,3,2,0,1],[6,5,4,3,2,0,1],[7,6,5,4,3,2,0,1],[7,6,5,4,3,2,0,1],[8,7,6,5,4,3,2,0,1,9],[10,8,7,6,5,4,3,2,0,1,9],[11,10,8,7,6,5,4,3,2,0,1,9],[7,6,5,4,3,2,0,1],[13,7,6,5,4,3,2,0,1],[14,13,7,6,5,4,3,2,0,1],[12,11,10,8,7,6,5,4,3,2,0,1,9,15,14,13],[16,12,11,10,8,7,6,5,4,3,2,0,1,9,15,14,13],[7,6,5,4,3,2,0,1,17,16,12,11,10,8,9,15,14,13],[18,7,6,5,4,3,2,0,1,17,16,12,11,10,8,9,15,14,13],[19,18,7,6,5,4,3,2,0,1,17,16,12,11,10,8,9,15,14,13],[20,19,18,7,6,5,4,3,2,0,1,17,16,12,11,10,8,9,15,14,13],[21,20,19,18,7,6,5,4,3,2,0,1,17,16,12,11,10,8,9,15,14,13],[22,21,20,19,18,7,6,5,4,3,2,0,1,17,16,12,11,10,8,9,15,14,13],[22,21,20,19,18,7,6,5,4,3,2,0,1,17,16,12,11,10,8,9,15,14,13],[24,22,21,20,19,18,7,6,5,4,3,2,0,1,17,16,12,11,10,8,9,15,14,13],[23,22,21,20,19,18,7,6,5,4,3,2,0,1,17,16,12,11,10,8,9,15,14,13,25,24],[26,23,22,21,20,19,18,7,6,5,4,3,2,0,1,17,16,12,11,10,8,9,15,14,13,25,24],[27,26,23,22,21,20,19,18,7,6,5,4,3,2,0,1,17,16,12,11,10,8,9,15,14,13,25,24],[22,21,20,19,18,7,6,5,4,3,2,0,1,17,16,12,11,10,8,9,15,14,13],[22,21,20,19,18,7,6,5,4,3,2,0,1,17,16,12,11,10,8,9,15,14,13],[29,22,21,20,19,18,7,6,5,4,3,2,0,1,17,16,12,11,10,8,9,15,14,13,30],[31,29,22,21,20,19,18,7,6,5,4,3,2,0,1,17,16,12,11,10,8,9,15,14,13,30],[32,31,29,22,21,20,19,18,7,6,5,4,3,2,0,1,17,16,12,11,10,8,9,15,14,13,30],[28,27,26,23,22,21,20,19,18,7,6,5,4,3,2,0,1,17,16,12,11,10,8,9,15,14,13,25,24,33,32,31,29,30],[22,21,20,19,18,7,6,5,4,3,2,0,1,17,16,12,11,10,8,9,15,14,13,34,28,27,26,23,25,24,33,32,31,29,30],[19,18,7,6,5,4,3,2,0,1,17,16,12,11,10,8,9,15,14,13,35,22,21,20,34,28,27,26,23,25,24,33,32,31,29,30]] [⟨some 12,none,.mv (.t 1)⟩,⟨some 13,none,.mv (.t 5)⟩,⟨some 14,none,.iaddr 2 (.t 12) (.t 13)⟩,⟨some 15,none,.faddr 0 (.t 14)⟩,⟨some 16,none,.load false 1 (.t 15)⟩,⟨some 17,none,.call 62 [(.t 16)]⟩,⟨some 18,none,.un .not (.t 17)⟩,⟨some 19,none,.mv (.t 18)⟩,⟨(some 20),(some (19,false)),(.mv (.t 1))⟩,⟨(some 21),(some (19,false)),(.mv (.t 5))⟩,⟨(some 22),(some (19,false)),(.iaddr 2 (.t 20) (.t 21))⟩,⟨(some 23),(some (19,false)),(.faddr 1 (.t 22))⟩,⟨(some 24),(some (19,false)),(.load false 1 (.t 23))⟩,⟨(some 25),(some (19,false)),(.faddr 0 (.t 2))⟩,⟨(some 26),(some (19,false)),(.load false 1 (.t 25))⟩,⟨(some 27),(some (19,false)),(.bin .sub false (.t 26) (.c (.int .i64 1)))⟩,⟨(some 28),(some (19,false)),(.call 32 [(.t 24),(.c (.int .i64 0)),(.t 27)])⟩,⟨(some 29),(some (19,false)),(.un .not (.t 28))⟩,⟨some 30,none,.pick (.t 19) (.c (.bool true)) (.t 29)⟩,⟨some 31,none,.mv (.t 30)⟩,⟨(some 32),(some (31,false)),(.mv (.t 5))⟩,⟨(some 33),(some (31,false)),(.bin .gtr false (.t 32) (.c (.int .i64 0)))⟩,⟨(some 34),(some (31,false)),(.mv (.t 33))⟩,⟨(some 35),(some (34,true)),(.mv (.t 1))⟩,⟨(some 36),(some (34,true)),(.mv (.t 5))⟩,⟨(some 37),(some (34,true)),(.bin .sub false (.t 36) (.c (.int .i64 1)))⟩,⟨(some 38),(some (34,true)),(.iaddr 2 (.t 35) (.t 37))⟩,⟨(some 39),(some (34,true)),(.faddr 0 (.t 38))⟩,⟨(some 40),(some (34,true)),(.load false 1 (.t 39))⟩,⟨(some 41),(some (34,true)),(.mv (.t 1))⟩,⟨(some 42),(some (34,true)),(.mv (.t 5))⟩,⟨(some 43),(some (34,true)),(.iaddr 2 (.t 41) (.t 42))⟩,⟨(some 44),(some (34,true)),(.faddr 0 (.t 43))⟩,⟨(some 45),(some (34,true)),(.load false 1 (.t 44))⟩,⟨(some 46),(some (34,true)),(.bin .geq false (.t 40) (.t 45))⟩,⟨(some 47),(some (31,false)),(.pick (.t 34) (.t 46) (.c (.bool false)))⟩,⟨some 48,none,.pick (.t 31) (.c (.bool true)) (.t 47)⟩]) (.cond (.t 48) (.seq (.reg [⟨some 4,none,.mv (.c (.bool false))⟩]) .ret) .skip))) (.reg [⟨some 10,none,.mv (.t 5)⟩,⟨some 11,none,.bin .add false (.t 10) (.c (.int .i64 1))⟩,⟨some 5,none,.mv (.t 11)⟩])))))) (.seq (.reg [⟨some 4,none,.mv (.c (.bool true))⟩]) .ret)))
theorem Iz:As Tryz.prog 25=some ⟨49,Fz,[(.tmp 4)]⟩:=by kernel_rfl
theorem C6:modes 25=⟨[],.asis,none,false⟩:=by unfold modes; rfl
def I1:SC:=(.seq (.reg [⟨some 6,none,.mv (.c (.int .i64 0))⟩]) (.seq (.seq (.reg [⟨some 7,none,.mv (.c (.int .i64 0))⟩]) (.block 0 (.loop [1,1,1,0,0,0,0,1,0,0,0,0,0,0,0,0,0,0,0,0,0,0,0,0,0,0,0,0,0,0,0] (.seq (.seq (.reg [⟨some 8,none,.mv (.t 7)⟩,⟨some 9,none,.mv (.t 0)⟩,⟨some 10,none,.len false (.t 9)⟩,⟨some 11,none,.bin .lss false (.t 8) (.t 10)⟩]) (.cond (.t 11) .skip (.exit 0))) (.seq (.block 1 (.seq (.reg [⟨some 14,none,.mv (.t 0)⟩,⟨some 15,none,.mv (.t 7)⟩,⟨some 16,none,.iaddr 4 (.t 14) (.t 15)⟩,⟨some 17,none,.faddr 0 (.t 16)⟩,⟨some 18,none,.load false 1 (.t 17)⟩,⟨some 19,none,.mv (.t 1)⟩,⟨some 20,none,.bin .eql false (.t 18) (.t 19)⟩,⟨some 21,none,.mv (.t 20)⟩,⟨(some 22),(some (21,true)),(.mv (.t 0))⟩,⟨(some 23),(some (21,true)),(.mv (.t 7))⟩,⟨(some 24),(some (21,true)),(.iaddr 4 (.t 22) (.t 23))⟩,⟨(some 25),(some (21,true)),(.faddr 1 (.t 24))⟩,⟨(some 26),(some (21,true)),(.load false 1 (.t 25))⟩,⟨(some 27),(some (21,true)),(.mv (.t 2))⟩,⟨(some 28),(some (21,true)),(.bin .eql false (.t 26) (.t 27))⟩,⟨some 29,none,.pick (.t 21) (.t 28) (.c (.bool false))⟩]) (.cond (.t 29) (.seq (.reg [⟨some 30,none,.mv (.t 7)⟩,⟨some 6,none,.mv (.t 30)⟩]) .ret) .skip))) (.reg [⟨some 12,none,.mv (.t 7)⟩,⟨some 13,none,.bin .add false (.t 12) (.c (.int .i64 1))⟩,⟨some 7,none,.mv (.t 13)⟩])))))) (.seq (.reg [⟨some 6,none,.mv (.c (.int .i64 (-(0+1))))⟩]) .ret)))
theorem MU:As Tryz.prog 98=some ⟨31,I1,[(.tmp 6)]⟩:=by kernel_rfl
theorem CN:modes 98=⟨[],.asis,none,false⟩:=by unfold modes; rfl
def Es:SC:=(.seq (.reg [⟨some 4,none,.boxv 26 2 (.t 0)⟩,⟨some 6,none,.boxv 30 2 (.t 2)⟩,⟨some 8,none,.mv (.c (.int .i64 0))⟩,⟨some 9,none,.mv (.c (.bool false))⟩]) (.seq (.seq (.reg [⟨some 16,none,.faddr 0 (.t 6)⟩,⟨some 17,none,.load false 1 (.t 16)⟩,⟨some 18,none,.call 62 [(.t 17)]⟩]) (.cond (.t 18) (.seq (.seq (.reg [⟨some 10,none,.mv (.c (.int .i64 0))⟩]) (.block 0 (.loop [0,1,0,0,0,0,1,0,0,0,1,0,0,0,0,0,0,0,0,0,0,0,0,0,0,0,0,0,0,0,0,0,0,0,0,0,0,0,0,0,0,0,0,0,0,0,0,0,0,0,0,0,0,0,0,0,0,0,0,0,0,0,0,0,0,0,0,0,0,0,0,0,0,0,0,0,0,0,0,0,0,0,0,0,0,0,0,0,0,0,0,0,0,0,0,0,0,0,0,0,0,0,0,0,0,0,0,0] (.seq (.seq (.reg [⟨some 19,none,.mv (.t 10)⟩,⟨some 20,none,.mv (.t 1)⟩,⟨some 21,none,.len false (.t 20)⟩,⟨some 22,none,.bin .lss false (.t 19) (.t 21)⟩]) (.cond (.t 22) .skip (.exit 0))) (.seq (.block 1 (.seq (.dreg [[],[],[0,1],[2,0,1],[3,2,0,1],[],[5],[4,3,2,0,1,6,5]] [⟨some 25,none,.mv (.t 1)⟩,⟨some 26,none,.mv (.t 10)⟩,⟨some 27,none,.iaddr 2 (.t 25) (.t 26)⟩,⟨some 28,none,.faddr 0 (.t 27)⟩,⟨some 29,none,.load false 1 (.t 28)⟩,⟨some 30,none,.faddr 0 (.t 6)⟩,⟨some 31,none,.load false 1 (.t 30)⟩,⟨some 32,none,.bin .eql false (.t 29) (.t 31)⟩]) (.cond (.t 32) (.seq (.reg [⟨some 33,none,.mv (.t 1)⟩,⟨some 34,none,.mv (.t 10)⟩,⟨some 35,none,.iaddr 2 (.t 33) (.t 34)⟩,⟨some 36,none,.faddr 1 (.t 35)⟩,⟨some 37,none,.load false 1 (.t 36)⟩,⟨some 8,none,.mv (.t 37)⟩,⟨some 9,none,.mv (.c (.bool true))⟩]) .ret) .skip))) (.reg [⟨some 23,none,.mv (.t 10)⟩,⟨some 24,none,.bin .add false (.t 23) (.c (.int .i64 1))⟩,⟨some 10,none,.mv (.t 24)⟩])))))) (.seq (.reg [⟨some 8,none,.mv (.c (.int .i64 0))⟩,⟨some 9,none,.mv (.c (.bool false))⟩]) .ret)) .skip)) (.seq (.reg [⟨some 11,none,.mv (.c (.int .i64 0))⟩]) (.seq (.seq (.reg [⟨some 12,none,.mv (.c (.int .i64 0))⟩]) (.block 2 (.loop [0,1,0,1,1,0,1,0,0,0,0,1,1,0,0,0,0,0,0,0,0,0,0,0,0,0,0,0,0,0,0,0,0,0,0,0,0,0,0,0,0,0,0,0,0,0,0,0,0,0,0,0,0,0,0,0,0,0,0,0,0,0,0,0,0,0,0,0,0,0,0,0,0,0,0,0,0,0,0,0,0,0,0,0,0,0,0,0,0,0,0,0,0,0,0,0,0,0,0,0,0,0,0,0,0,0,0,0] (.seq (.seq (.reg [⟨some 38,none,.mv (.t 12)⟩,⟨some 39,none,.faddr 1 (.t 6)⟩,⟨some 40,none,.load false 1 (.t 39)⟩,⟨some 41,none,.len false (.t 40)⟩,⟨some 42,none,.bin .lss false (.t 38) (.t 41)⟩]) (.cond (.t 42) .skip (.exit 2))) (.seq (.block 3 (.seq (.dreg [[],[],[],[2],[],[3,2,4],[5,3,2,4],[0,1,6,5,3,2,4],[7,0,1,6,5,3,2,4],[8,7,0,1,6,5,3,2,4],[8,7,0,1,6,5,3,2,4],[9,8,7,0,1,6,5,3,2,4],[10,8,7,0,1,6,5,3,2,4,11,9]] [⟨some 46,none,.load true 2 (.t 4)⟩,⟨some 47,none,.mv (.t 1)⟩,⟨some 48,none,.faddr 1 (.t 6)⟩,⟨some 49,none,.load false 1 (.t 48)⟩,⟨some 50,none,.mv (.t 12)⟩,⟨some 51,none,.iaddr 2 (.t 49) (.t 50)⟩,⟨some 52,none,.load true 2 (.t 51)⟩,⟨some 53,none,.call 65 [(.t 46),(.t 47),(.t 52),(.c (.bool false))]⟩,⟨some 45,none,.mv (.t 53)⟩,⟨some 54,none,.ext (.t 45) 0⟩,⟨some 55,none,.ext (.t 45) 1⟩,⟨some 13,none,.mv (.t 54)⟩,⟨some 14,none,.mv (.t 55)⟩]) (.seq (.seq (.reg [⟨some 56,none,.mv (.t 14)⟩,⟨some 57,none,.un .not (.t 56)⟩]) (.cond (.t 57) (.seq (.reg [⟨some 8,none,.mv (.c (.int .i64 0))⟩,⟨some 9,none,.mv (.c (.bool false))⟩]) .ret) .skip)) (.reg [⟨some 58,none,.mv (.t 11)⟩,⟨some 59,none,.faddr 0 (.t 4)⟩,⟨some 60,none,.load false 1 (.t 59)⟩,⟨some 61,none,.bin .mul false (.t 58) (.t 60)⟩,⟨some 62,none,.mv (.t 13)⟩,⟨some 63,none,.bin .add false (.t 61) (.t 62)⟩,⟨some 11,none,.mv (.t 63)⟩])))) (.reg [⟨some 43,none,.mv (.t 12)⟩,⟨some 44,none,.bin .add false (.t 43) (.c (.int .i64 1))⟩,⟨some 12,none,.mv (.t 44)⟩])))))) (.seq (.seq (.reg [⟨some 64,none,.mv (.t 3)⟩,⟨some 65,none,.mv (.t 64)⟩,⟨(some 66),(some (65,true)),(.faddr 0 (.t 6))⟩,⟨(some 67),(some (65,true)),(.load false 1 (.t 66))⟩,⟨(some 68),(some (65,true)),(.bin .eql false (.t 67) (.c (.str ⟨#[61]⟩)))⟩,⟨some 69,none,.pick (.t 65) (.t 68) (.c (.bool false))⟩]) (.cond (.t 69) (.seq (.seq (.dreg [[],[],[1],[0,2,1],[],[],[5],[4,6,5],[3,0,2,1,7,4,6,5]] [⟨some 70,none,.mv (.t 11)⟩,⟨some 71,none,.faddr 0 (.t 4)⟩,⟨some 72,none,.load false 1 (.t 71)⟩,⟨some 73,none,.bin .rem false (.t 70) (.t 72)⟩,⟨some 74,none,.mv (.t 11)⟩,⟨some 75,none,.faddr 0 (.t 4)⟩,⟨some 76,none,.load false 1 (.t 75)⟩,⟨some 77,none,.bin .quo false (.t 74) (.t 76)⟩,⟨some 78,none,.bin .eql false (.t 73) (.t 77)⟩]) (.cond (.t 78) (.seq (.reg [⟨some 8,none,.mv (.c (.int .i64 1))⟩,⟨some 9,none,.mv (.c (.bool true))⟩]) .ret) .skip)) (.seq (.reg [⟨some 8,none,.mv (.c (.int .i64 0))⟩,⟨some 9,none,.mv (.c (.bool true))⟩]) .ret)) .skip)) (.seq (.reg [⟨some 79,none,.faddr 1 (.t 4)⟩,⟨some 80,none,.load false 1 (.t 79)⟩,⟨some 81,none,.faddr 0 (.t 6)⟩,⟨some 82,none,.load false 1 (.t 81)⟩,⟨some 83,none,.faddr 1 (.t 6)⟩,⟨some 84,none,.load false 1 (.t 83)⟩,⟨some 85,none,.len false (.t 84)⟩,⟨some 86,none,.call 98 [(.t 80),(.t 82),(.t 85)]⟩,⟨some 15,none,.mv (.t 86)⟩]) (.seq (.seq (.reg [⟨some 87,none,.mv (.t 15)⟩,⟨some 88,none,.bin .lss false (.t 87) (.c (.int .i64 0))⟩,⟨some 89,none,.mv (.t 88)⟩,⟨(some 90),(some (89,false)),(.faddr 1 (.t 4))⟩,⟨(some 91),(some (89,false)),(.load false 1 (.t 90))⟩,⟨(some 92),(some (89,false)),(.mv (.t 15))⟩,⟨(some 93),(some (89,false)),(.iaddr 4 (.t 91) (.t 92))⟩,⟨(some 94),(some (89,false)),(.faddr 2 (.t 93))⟩,⟨(some 95),(some (89,false)),(.load false 1 (.t 94))⟩,⟨(some 96),(some (89,false)),(.mv (.t 3))⟩,⟨(some 97),(some (89,false)),(.bin .neq true (.t 95) (.t 96))⟩,⟨some 98,none,.pick (.t 89) (.c (.bool true)) (.t 97)⟩]) (.cond (.t 98) (.seq (.reg [⟨some 8,none,.mv (.c (.int .i64 0))⟩,⟨some 9,none,.mv (.c (.bool false))⟩]) .ret) .skip)) (.seq (.reg [⟨some 99,none,.faddr 1 (.t 4)⟩,⟨some 100,none,.load false 1 (.t 99)⟩,⟨some 101,none,.mv (.t 15)⟩,⟨some 102,none,.iaddr 4 (.t 100) (.t 101)⟩,⟨some 103,none,.faddr 3 (.t 102)⟩,⟨some 104,none,.load false 1 (.t 103)⟩,⟨some 105,none,.mv (.t 11)⟩,⟨some 106,none,.iaddr 1 (.t 104) (.t 105)⟩,⟨some 107,none,.load false 1 (.t 106)⟩,⟨some 8,none,.mv (.t 107)⟩,⟨some 9,none,.mv (.c (.bool true))⟩]) .ret))))))))
theorem F6:As Tryz.prog 65=some ⟨108,Es,[(.tmp 8),(.tmp 9)]⟩:=by kernel_rfl
theorem Bg:modes 65=⟨[],.asis,none,false⟩:=by unfold modes; rfl
theorem IP {α:Type} (p:α→Bool):∀ (xs:List α) (i:Int),(xs.find? p=none∧CE p xs i=-1)∨∃ k t,∃ h:k<xs.length,xs.find? p=some t∧CE p xs i=i+(k:Nat)∧xs[k]=t
 | [],i=>.inl ⟨rfl,rfl⟩
 | x :: xs,i=>by
  rw [CE,z8]
  cases hp:p x with
  | true=>exact .inr ⟨0,x,by simp,rfl,by simp,rfl⟩
  | false =>
   simp only [yC,if_false]
   rcases IP p xs (i+1) with h | ⟨k,t,h,h1,h2,h3⟩
   ·exact .inl h
   ·exact .inr ⟨k+1,t,by simpa using h,h1,by rw [h2]; omega,by simpa using h3⟩
theorem L5 (m:Ip) (hsz:1≤m.size∧m.size≤3) (xs:List Ag) (hl:xs.length≤1099511627776):E 25 [m.sv,.arr (xs.map Ag.d)] []=some (.bool (Kk m.size xs),[]):=by
 refine Al Iz C6 (of_decide_eq_true rfl) ?_
 simp (disch:=omega) only [Fz,go_sem,Ab]
 refine go_loop (α:=Int) (fun a=>⟨slots 49 0 [(1,.arr (xs.map Ag.d)),(2,.ptr 0 0),(5,.int .i64 a)],[.box 26 [.int .i64 m.size,.arr (m.tables.map Tl.d)]]⟩) (fun a=>∃ k:Nat,a=k∧k≤(xs).length∧Di (OX m.size xs) k=true) (fun a=>(xs).length-(a).toNat) 0 ⟨0,rfl,zH _,by rw [Di]⟩ (by simp (disch:=omega) only [go_sem,Ab]) ?_
 rintro i ⟨k,hi,hk,hR⟩
 have hni:i.toNat=k:=by omega
 have hni1:(i+1).toNat=k+1:=by omega
 rcases zD k (xs).length with hlt | hge
 ·have hg:=get_at Ag.d hlt
  rw [Ag.d_eq] at hg
  have hs:=FG xs[k].var
  have hw:=Pa xs[k].elem 0 (m.size-1)
  have no:OX m.size xs k=false→Kk m.size xs=false:=fun h=>Kg h hlt
  cases ha:Cj xs[k].var with
  | false =>
   rw [ha] at hs
   rw [no (by cases k with | zero=>rw [Fc hlt,ha,zA] | succ j=>rw [DA hlt,ha,zA])]
   simp (disch:=omega) only [go_sem,Ab,hni,hg,hs,hw,An,Bt]
  | true =>
   rw [ha] at hs
   cases hb:inI xs[k].elem 0 (m.size-1) with
   | false =>
    rw [hb] at hw
    rw [no (by cases k with | zero=>rw [Fc hlt,hb,zJ] | succ j=>rw [DA hlt,hb,zA,zJ])]
    simp (disch:=omega) only [go_sem,Ab,hni,hg,hs,hw,An,Bt]
   | true =>
    rw [hb] at hw
    cases k with
    | zero =>
     obtain rfl:i=0:=hi
     simp (disch:=omega) only [go_sem,Ab,hni,hg,hs,hw,An,Bt]
     exact ⟨1,⟨1,rfl,hlt,by rw [Di,hR,Fc hlt,ha,hb]; rfl⟩,by omega,by first | trivial | rfl⟩
    | succ j =>
     have hj:j<xs.length:=by omega
     have hg2:=get_at Ag.d hj
     rw [Ag.d_eq] at hg2
     have hni2:(i-1).toNat=j:=by omega
     cases h1:strLt xs[j].var xs[j+1].var with
     | true =>
      simp (disch:=omega) only [go_sem,Ab,hni,hg,hs,hw,An,Bt,hni2,hg2,h1]
      exact ⟨i+1,⟨j+1+1,by omega,hlt,by rw [Di,hR,DA hlt,ha,hb,h1]; rfl⟩,by omega,by first | trivial | rfl⟩
     | false =>
      rw [no (by rw [DA hlt,ha,hb,h1]; rfl)]
      simp (disch:=omega) only [go_sem,Ab,hni,hg,hs,hw,An,Bt,hni2,hg2,h1]
 ·obtain rfl:k=xs.length:=by omega
  unfold Kk
  rw [hR]
  simp (disch:=omega) only [go_sem,Ab,hni]
theorem Gl (m:Ip) (top:Int) (hA:(bif dec (inK .i64 (m.size-1)) then some (SV.int .i64 (m.size-1)) else some (SV.int .i64 (IntKind.wrap .i64 (m.size-1))))=some (SV.int .i64 top)) (xs:List Ag) (hl:xs.length≤1099511627776):E 19 [m.sv,.arr (xs.map Ag.d)] []=some (.tup [.mp true (bif Kk (top+1) xs then Dj (HL xs) else nomap),.bool (Kk (top+1) xs)],[]):=by
 have he0:Dj (HL ([]:List Ag))=nomap:=To
 refine Al E3 AV (of_decide_eq_true rfl) ?_
 simp (disch:=omega) only [CQ,go_sem,Ab]
 refine go_loop (α:=Int) (fun a=>⟨slots 52 0 [(1,.arr (xs.map Ag.d)),(2,.ptr 0 0),(6,.ref 1),(10,.arr (xs.map Ag.d)),(11,.int .i64 xs.length),(12,.int .i64 a)],[.box 26 [.int .i64 m.size,.arr (m.tables.map Tl.d)],.mp true (Dj (HL (xs.take a.toNat)))]⟩) (fun a=>∃ k:Nat,a=k∧k≤(xs).length∧Di (OX (top+1) xs) k=true) (fun a=>(xs).length-(a).toNat) 0 ⟨0,rfl,zH _,by rw [Di]⟩ (by simp (disch:=omega) only [go_sem,Ab,he0]) ?_
 rintro i ⟨k,hi,hk,hR⟩
 have hni:i.toNat=k:=by omega
 have hni1:(i+1).toNat=k+1:=by omega
 rcases zD k (xs).length with hlt | hge
 ·have hg:=get_at Ag.d hlt
  rw [Ag.d_eq] at hg
  have hs:=CS xs[k].var
  have hw:=Kn xs[k].elem 0 top
  have ht1:top+1-1=top:=by omega
  have no:OX (top+1) xs k=false→Kk (top+1) xs=false:=fun h=>Kg h hlt
  have hsn:Dj (Cx (HL (xs.take k)) xs[k].var xs[k].elem)=Dj (HL (xs.take (i+1).toNat)):=by rw [hni1,Rs hlt]
  cases ha:Cj xs[k].var with
  | false =>
   rw [ha] at hs
   rw [no (by cases k with | zero=>rw [Fc hlt,ha,zA] | succ j=>rw [DA hlt,ha,zA])]
   simp (disch:=omega) only [go_sem,Ab,hni,hg,hs,hw,hA,Ae,Bh]
  | true =>
   rw [ha] at hs
   cases hb:inI xs[k].elem 0 top with
   | false =>
    rw [hb] at hw
    rw [no (by cases k with | zero=>rw [Fc hlt,ht1,hb,zJ] | succ j=>rw [DA hlt,ht1,hb,zA,zJ])]
    simp (disch:=omega) only [go_sem,Ab,hni,hg,hs,hw,hA,Ae,Bh]
   | true =>
    rw [hb] at hw
    cases k with
    | zero =>
     obtain rfl:i=0:=hi
     have hs0:Dj (Cx (HL ([]:List Ag)) xs[0].var xs[0].elem)=Dj (HL (xs.take (Int.toNat 1))):=hsn
     simp (disch:=omega) only [go_sem,Ab,hni,hg,hs,hw,hA,Ae,Bh]
     exact ⟨1,⟨1,rfl,hlt,by rw [Di,hR,Fc hlt,ht1,ha,hb]; rfl⟩,by omega,by simp only [Ki,hs0,and_self]⟩
    | succ j =>
     have hj:j<xs.length:=by omega
     have hg2:=get_at Ag.d hj
     rw [Ag.d_eq] at hg2
     have hni2:(i-1).toNat=j:=by omega
     cases h1:strLt xs[j].var xs[j+1].var with
     | true =>
      have h2:=Lp h1
      have h3:dec (xs[j+1].var=xs[j].var)=false:=Aj fun e=>Iu h1 e.symm
      simp (disch:=omega) only [go_sem,Ab,hni,hg,hs,hw,hA,Ae,Bh,hni2,hg2,h2,h3]
      exact ⟨i+1,⟨j+1+1,by omega,hlt,by rw [Di,hR,DA hlt,ht1,ha,hb,h1]; rfl⟩,by omega,by first | trivial | (simp only [Ki,hsn]; first | trivial | rfl) | (rw [Ki]; exact congrArg _ hsn)⟩
     | false =>
      rw [no (by rw [DA hlt,ht1,ha,hb,h1]; rfl)]
      cases h2:strLt xs[j+1].var xs[j].var with
      | true=>simp (disch:=omega) only [go_sem,Ab,hni,hg,hs,hw,hA,Ae,Bh,hni2,hg2,h2]
      | false =>
       have h3:dec (xs[j+1].var=xs[j].var)=true:=A1 (Is h2 h1)
       simp (disch:=omega) only [go_sem,Ab,hni,hg,hs,hw,hA,Ae,Bh,hni2,hg2,h2,h3]
 ·obtain rfl:k=xs.length:=by omega
  have ht:xs.take xs.length=xs:=List.take_length
  unfold Kk
  rw [hR,cond_true]
  simp (disch:=omega) only [go_sem,Ab,hni,ht]
theorem N2 (m:Ip) (hsz:1≤m.size∧m.size≤3) (xs:List Ag) (hl:xs.length≤1099511627776):E 19 [m.sv,.arr (xs.map Ag.d)] []=some (.tup [.mp true (bif Kk m.size xs then Dj (asg xs) else nomap),.bool (Kk m.size xs)],[]):=by
 have h:=Gl m (m.size-1) (by rw [Ea (by omega) (by omega)]; rfl) xs hl
 rw [show m.size-1+1=m.size by omega] at h
 rw [h]
 cases hb:Kk m.size xs with
 | false=>rfl
 | true=>rw [UE (OY hb).1]
theorem L6 (m:Ip) (xs:List Ag) (hl:xs.length≤1099511627776):∃ f b,E 19 [m.sv,.arr (xs.map Ag.d)] []=some (.tup [.mp true f,.bool b],[]):=by
 cases hd:dec (inK .i64 (m.size-1)) with
 | true=>exact ⟨_,_,Gl m (m.size-1) (by rw [hd]; rfl) xs hl⟩
 | false=>exact ⟨_,_,Gl m (IntKind.wrap .i64 (m.size-1)) (by rw [hd]; rfl) xs hl⟩
theorem W7 (n:ByteArray) (z:Int) (b:Bool) (t:Tl):E 128 [t.sv,.ptr 0 0,.ptr 1 0,.ptr 2 0] [.box 9 [.str n],.box 3 [.int .i64 z],.box 4 [.bool b]]=some (.bool (dec (t.name=n)&&(dec (t.arity=z)&&(t.pred == b))),[.box 9 [.str n],.box 3 [.int .i64 z],.box 4 [.bool b]]):=by
 cases h1:dec (t.name=n) with
 | false =>
  rw [zA]
  refine Al C5 B7 (of_decide_eq_true rfl) ?_
  simp (disch:=omega) only [BQ,go_sem,Ab,h1]
 | true =>
  rw [zE]
  cases h2:dec (t.arity=z) with
  | false =>
   rw [zA]
   refine Al C5 B7 (of_decide_eq_true rfl) ?_
   simp (disch:=omega) only [BQ,go_sem,Ab,h1,h2]
  | true =>
   rw [zE]
   refine Al C5 B7 (of_decide_eq_true rfl) ?_
   simp (disch:=omega) only [BQ,go_sem,Ab,h1,h2]
theorem Tw (n:ByteArray) (z:Int) (b:Bool) (xs:List Tl) (hl:xs.length≤1099511627776):E 82 [.arr (xs.map Tl.d),.fn 128 [.ptr 0 0,.ptr 1 0,.ptr 2 0]] [.box 9 [.str n],.box 3 [.int .i64 z],.box 4 [.bool b]]=some (.int .i64 (CE (fun t=>dec (t.name=n)&&(dec (t.arity=z)&&(t.pred == b))) xs 0),[.box 9 [.str n],.box 3 [.int .i64 z],.box 4 [.bool b]]):=by
 have hE:=W7 n z b
 generalize hpp:(fun t:Tl=>dec (t.name=n)&&(dec (t.arity=z)&&(t.pred == b)))=p at *
 have hpe:∀ t:Tl,(dec (t.name=n)&&(dec (t.arity=z)&&(t.pred == b)))=p t:=fun t=>by rw [←hpp]
 refine Al Cu AO (of_decide_eq_true rfl) ?_
 simp (disch:=omega) only [BB,go_sem,Ab]
 refine go_loop (α:=Int) (fun a=>⟨slots 19 0 [(0,.arr (xs.map Tl.d)),(1,.fn 128 [.ptr 0 0,.ptr 1 0,.ptr 2 0]),(7,.int .i64 xs.length),(8,.int .i64 a)],[.box 9 [.str n],.box 3 [.int .i64 z],.box 4 [.bool b]]⟩) (fun a=>∃ k:Nat,a=k∧k≤(xs).length∧CE p (xs.drop k) a=CE p xs 0) (fun a=>(xs).length-(a).toNat) 0 ⟨0,rfl,zH _,by rw [zG]⟩ (by simp (disch:=omega) only [go_sem,Ab]) ?_
 rintro i ⟨k,hi,hk,hR⟩
 have hni:i.toNat=k:=by omega
 have hni1:(i+1).toNat=k+1:=by omega
 rcases zD k (xs).length with hlt | hge
 ·have hg':=get_at Tl.d hlt
  rw [Tl.d_eq] at hg'
  have hc:=hE xs[k]
  rw [hpe] at hc
  rw [zC hlt,CE] at hR
  cases hp:p xs[k] with
  | true =>
   rw [hp] at hc hR
   simp (disch:=omega) only [go_sem,Ab,hni,hg',hc,Du,B7]
   simpa using hR
  | false =>
   rw [hp] at hc hR
   simp (disch:=omega) only [go_sem,Ab,hni,hg',hc,Du,B7]
   exact ⟨i+1,⟨k+1,by omega,hlt,by simpa using hR⟩,by omega,by first | trivial | rfl⟩
 ·rw [zF hge,CE] at hR
  simp (disch:=omega) only [go_sem,Ab,hni]
  exact hR
noncomputable def UM:Option Tl→SV
 | some t=>t.sv
 | none=>.agg [.str ⟨#[]⟩,.int .i64 0,.bool false,.nil]
theorem W8 (m:Ip) (hl:m.tables.length≤1099511627776) (n:ByteArray) (z:Int) (b:Bool):E 112 [m.sv,.str n,.int .i64 z,.bool b] []=some (.tup [UM (Kl m.tables n z b),.bool (Kl m.tables n z b).isSome],[]):=by
 have h1:=Tw n z b m.tables hl
 unfold Kl
 rcases IP (fun t:Tl=>dec (t.name=n)&&(dec (t.arity=z)&&(t.pred == b))) m.tables 0 with ⟨h2,h3⟩ | ⟨k,t,hk,h2,h3,h4⟩
 ·rw [h2]
  rw [h3] at h1
  refine Al DJ Cc (of_decide_eq_true rfl) ?_
  simp (disch:=omega) only [CF,go_sem,Ab,h1,AO]
  exact ⟨rfl,rfl⟩
 ·rw [h2]
  rw [h3,Int.zero_add] at h1
  have hg:=get_at Tl.d hk
  rw [h4,Tl.d_eq] at hg
  obtain ⟨i,hi⟩:∃ i:Int,i=(k:Int):=⟨_,rfl⟩
  rw [←hi] at h1
  have hni:i.toNat=k:=by omega
  refine Al DJ Cc (of_decide_eq_true rfl) ?_
  simp (disch:=omega) only [CF,go_sem,Ab,h1,hni,hg,AO]
  exact ⟨rfl,rfl⟩
abbrev W9 (o:Option Int):SV:=.tup [.int .i64 (o.getD 0),.bool o.isSome]
theorem Qp {a b c:Tl} (h1:DH a b=true) (h2:DH b c=true):DH a c=true:=by
 unfold DH at *
 rw [zX,zB,Av,Av] at *
 rcases h1 with h1 | ⟨h1,h1'⟩
 ·rcases h2 with h2 | ⟨h2,h2'⟩
  ·exact .inl (It h1 h2)
  ·rw [←h2]; exact .inl h1
 ·rcases h2 with h2 | ⟨h2,h2'⟩
  ·rw [h1]; exact .inl h2
  ·exact .inr ⟨h1.trans h2,by omega⟩
theorem Or {ts:List Tl} (h:EE ts=true):ts.Pairwise fun x y=>DH x y=true:=by
 unfold EE at h
 rw [zB] at h
 have st:∀ j (hj:j+1<ts.length),DH ts[j] ts[j+1]=true:=fun j hj=>by
  have:=MD h.1 hj
  rw [D9 hj,zB,zB] at this
  exact this.2.2
 have key:∀ i d (hi:i+d+1<ts.length),DH (ts[i]'(by omega)) ts[i+d+1]=true:=by
  intro i d
  induction d with
  | zero=>intro hi; exact st i hi
  | succ d ih=>intro hi; exact Qp (ih (by omega)) (st (i+d+1) hi)
 rw [List.pairwise_iff_getElem]
 intro i j hi hj hij
 obtain ⟨d,rfl⟩:∃ d,j=i+d+1:=⟨j-i-1,by omega⟩
 exact key i d hj
theorem UN {a b:Tl} (h:DH a b=true) (h1:a.name=b.name) (h2:a.arity=b.arity):False:=by
 unfold DH at h
 rw [zX,zB,Av,Av] at h
 rcases h with h | ⟨_,h⟩
 ·exact Iu h h1
 ·omega
theorem JB {n:ByteArray} {z:Int} {p:Bool}:∀ {ts:List Tl},ts.Pairwise (fun x y=>DH x y=true)→Kl ts n z p=match ts.find? (fun t=>dec (t.name=n)&&dec (t.arity=z)) with
  | some t=>bif t.pred == p then some t else none
  | none=>none
 | [],_=>rfl
 | t :: ts,h=>by
  obtain ⟨h1,h2⟩:=zU.1 h
  have ih:=JB (n:=n) (z:=z) (p:=p) h2
  unfold Kl at ih ⊢
  rw [z8,z8]
  cases ha:dec (t.name=n) with
  | false=>simp only [zA]; exact ih
  | true =>
   cases hb:dec (t.arity=z) with
   | false=>simp only [zA,zJ]; exact ih
   | true =>
    simp only [zE]
    cases hc:t.pred == p with
    | true=>rfl
    | false =>
     simp only [cond_false]
     rw [yD]
     intro u hu hb2
     rw [zB,zB,Av,Av] at hb2
     exact UN (h1 u hu) ((Av.1 ha).trans hb2.1.symm) ((Av.1 hb).trans hb2.2.1.symm)
abbrev VaC (m:Ip) (e:Env) (x:Tm):Prop:=E 89 [m.sv,x.sv,.mp true (Dj e)] []=some (W9 (x.val m e),[])
abbrev LvC (m:Ip) (a:List Ag) (x:Tm):Prop:=E 65 [m.sv,.arr (a.map Ag.d),x.sv,.bool false] []=some (W9 (x.val m (asg a)),[])
theorem at_next {s at_ v P:Int} (h1:1≤s) (h0:0≤at_) (hP:at_<P) (v0:0≤v) (v1:v<s):0≤at_*s+v∧at_*s+v<P*s∧0≤at_*s∧at_*s<P*s:=by
 have k1:=yH h0 (show 0≤s by omega)
 have k2:(at_+1)*s≤P*s:=Int.mul_le_mul_of_nonneg_right (by omega) (by omega)
 rw [Int.add_mul,Int.one_mul] at k2
 omega
theorem Ot (m:Ip) (hm:m.ok=true) (hml:m.tables.length≤1099511627776) (hvl:∀ t∈m.tables,t.vals.length≤1099511627776) (e:Env) (he:InE m.size e) (x:Tm) (hxl:x.args.length≤1099511627776) (p:Bool) (ih:∀ y∈x.args,VaC m e y):E 90 [m.sv,x.sv,.mp true (Dj e),.bool p] []=some (W9 (Dk m.tables x.name x.args.length p (Tm.De m e x.args 0)),[]):=by
 have h1:=W8 m hml x.name x.args.length p
 unfold Dk
 obtain ⟨⟨s1,s3⟩,hT,_⟩:=Ip.D4 hm
 cases ht:Kl m.tables x.name x.args.length p with
 | none =>
  rw [ht] at h1
  have hts:UM none=.agg [.str ⟨#[]⟩,.int .i64 0,.bool false,.nil]:=rfl
  refine Al D5 BX (of_decide_eq_true rfl) ?_
  simp (disch:=omega) only [CC,go_sem,Ab,h1,hts,zN,Cc]
  try exact ⟨rfl,rfl⟩
 | some t =>
  rw [ht] at h1
  have hts:UM (some t)=.agg [.str t.name,.int .i64 t.arity,.bool t.pred,.arr (t.vals.map fun n=>[D.int n])]:=rfl
  obtain ⟨t1,t2,t3,t4⟩:=Hi ht
  have ha3:=(Ir hT t1).2
  rw [t3] at ha3
  have hvt:=hvl t t1
  have hsome:(some t).isSome=true:=rfl
  refine Al D5 BX (of_decide_eq_true rfl) ?_
  simp (disch:=omega) only [CC,go_sem,Ab,h1,hts,hsome,Cc]
  refine go_loop (α:=Int × (Int)) (fun a=>⟨slots 58 0 [(2,.mp true (Dj e)),(4,.ptr 0 0),(10,.ptr 1 0),(12,.int .i64 (a.2)),(31,.arr (x.args.map Tm.d)),(32,.int .i64 x.args.length),(33,.int .i64 (a.1))],[.box 26 [.int .i64 m.size,.arr (m.tables.map Tl.d)],.box 44 [.str t.name,.int .i64 t.arity,.bool t.pred,.arr (t.vals.map fun n=>[D.int n])]]⟩) (fun a=>∃ k:Nat,a.1=k∧k≤(x.args).length∧0≤(a.2)∧(a.2)<pw m.size k∧Tm.De m e (x.args.drop k) (a.2)=Tm.De m e x.args 0) (fun a=>(x.args).length-(a.1).toNat) (0,0) ⟨0,rfl,zH _,⟨Int.le_refl 0,by rw [pw]; omega,by rw [zG]⟩⟩ (by simp (disch:=omega) only [go_sem,Ab]) ?_
  rintro ⟨i,at_⟩ ⟨k,hi,hk,hR⟩
  dsimp only at hi hR
  have hni:i.toNat=k:=by omega
  have hni1:(i+1).toNat=k+1:=by omega
  rcases zD k (x.args).length with hlt | hge
  ·have hg:=get_at Tm.d hlt
   rw [Tm.d_eq] at hg
   obtain ⟨r0,r1,r2⟩:=hR
   have hc:=ih x.args[k] (zI hlt)
   rw [zC hlt,Tm.De] at r2
   have hps:=Iq s1 s3 (k:=k+1) (by omega)
   cases hv:x.args[k].val m e with
   | none =>
    rw [hv] at r2
    unfold VaC at hc
    rw [hv] at hc
    rw [←r2]
    simp (disch:=omega) only [go_sem,Ab,hni,hg,hc,zQ,zN,zP,zL,AH]
    try exact ⟨rfl,rfl⟩
   | some v =>
    rw [hv] at r2
    unfold VaC at hc
    rw [hv] at hc
    obtain ⟨v0,v1⟩:=Tm.KF hm he _ v hv
    obtain ⟨q0,q1,q2,q3⟩:=at_next s1 r0 r1 v0 v1
    rw [pw] at hps
    simp (disch:=omega) only [go_sem,Ab,hni,hg,hc,zQ,zN,zP,zL,AH]
    refine ⟨(i+1,at_*m.size+v),⟨k+1,by dsimp only; omega,hlt,q0,(by rw [pw]; exact q1),r2⟩,by dsimp only; omega,?_⟩
    first | trivial | rfl | exact ⟨rfl,rfl⟩
  ·obtain rfl:k=x.args.length:=by omega
   obtain ⟨r0,r1,r2⟩:=hR
   rw [zF hge,Tm.De] at r2
   rw [←r2]
   obtain ⟨g1,g2,_,_⟩:=LI hm ht r0 r1
   have hgv:=get_at (fun n=>[D.int n]) g1
   have hgd:(some (t.vals.getD at_.toNat 0)).getD 0=t.vals[at_.toNat]:=g2
   simp (disch:=omega) only [go_sem,Ab,hni,hgv,hgd,zL]
   try exact ⟨hgd.symm,rfl⟩
theorem UO (m:Ip) (hm:m.ok=true) (hml:m.tables.length≤1099511627776) (hvl:∀ t∈m.tables,t.vals.length≤1099511627776) (e:Env) (he:InE m.size e) (x:Tm) (hx:x.names=true) (hxl:x.args.length≤1099511627776) (ih:∀ y∈x.args,VaC m e y):VaC m e x:=by
 have h1:=Sj x (Tm.IN x hx)
 have h2:=Ot m hm hml hvl e he x hxl false ih
 unfold VaC
 rw [Tm.J9]
 cases hb:Cj x.name with
 | true =>
  rw [hb] at h1
  rw [cond_true]
  cases hq:e x.name with
  | none =>
   have hme:Dj e (.str x.name)=none:=by rw [Hh,hq]
   refine Al CG AH (of_decide_eq_true rfl) ?_
   simp (disch:=omega) only [Cd,go_sem,Ab,h1,hme,Dy]
   try first | rfl | exact ⟨rfl,rfl⟩
  | some v =>
   have hme:Dj e (.str x.name)=some (false,[.int v]):=by rw [Hh,hq]
   refine Al CG AH (of_decide_eq_true rfl) ?_
   simp (disch:=omega) only [Cd,go_sem,Ab,h1,hme,Dy]
   try first | rfl | exact ⟨rfl,rfl⟩
 | false =>
  rw [hb] at h1
  rw [cond_false]
  generalize Dk m.tables x.name x.args.length false (Tm.De m e x.args 0)=r at *
  refine Al CG AH (of_decide_eq_true rfl) ?_
  simp (disch:=omega) only [Cd,go_sem,Ab,h1,h2,Dy,BX]
theorem LM (m:Ip) (hm:m.ok=true) (hml:m.tables.length≤1099511627776) (hvl:∀ t∈m.tables,t.vals.length≤1099511627776) (e:Env) (he:InE m.size e) (x:Tm) (hx:x.names=true) (hn:x.nodes≤1048576):VaC m e x :=
 UO m hm hml hvl e he x hx (by have:=Tm.length_le x.args; have:=Tm.nodes_eq x; omega) fun y hy=>LM m hm hml hvl e he y (Tm.KD hx hy) (by have:=Tm.nodes_mem hy; have:=Tm.nodes_eq x; omega)
termination_by SizeOf.sizeOf x
decreasing_by exact Tm.lt_of_mem hy
theorem Ou (xs:List Tl) (hl:xs.length≤1099511627776) (n:ByteArray) (z:Int):E 98 [.arr (xs.map Tl.d),.str n,.int .i64 z] []=some (.int .i64 (CE (fun t=>dec (t.name=n)&&dec (t.arity=z)) xs 0),[]):=by
 generalize hpp:(fun t:Tl=>dec (t.name=n)&&dec (t.arity=z))=p
 have hpe:∀ t:Tl,p t=(dec (t.name=n)&&dec (t.arity=z)):=fun t=>by rw [←hpp]
 refine Al MU CN (of_decide_eq_true rfl) ?_
 simp (disch:=omega) only [I1,go_sem,Ab]
 refine go_loop (α:=Int) (fun a=>⟨slots 31 0 [(0,.arr (xs.map Tl.d)),(1,.str n),(2,.int .i64 z),(7,.int .i64 a)],[]⟩) (fun a=>∃ k:Nat,a=k∧k≤(xs).length∧CE p (xs.drop k) a=CE p xs 0) (fun a=>(xs).length-(a).toNat) 0 ⟨0,rfl,zH _,by rw [zG]⟩ (by simp (disch:=omega) only [go_sem,Ab]) ?_
 rintro i ⟨k,hi,hk,hR⟩
 have hni:i.toNat=k:=by omega
 have hni1:(i+1).toNat=k+1:=by omega
 rcases zD k (xs).length with hlt | hge
 ·have hg:=get_at Tl.d hlt
  rw [Tl.d_eq] at hg
  rw [zC hlt,CE,hpe] at hR
  cases h1:dec (xs[k].name=n) with
  | false =>
   rw [h1] at hR
   simp (disch:=omega) only [go_sem,Ab,hni,hg,h1]
   exact ⟨i+1,⟨k+1,by omega,hlt,by simpa using hR⟩,by omega,by first | trivial | rfl⟩
  | true =>
   rw [h1] at hR
   cases h2:dec (xs[k].arity=z) with
   | false =>
    rw [h2] at hR
    simp (disch:=omega) only [go_sem,Ab,hni,hg,h1,h2]
    exact ⟨i+1,⟨k+1,by omega,hlt,by simpa using hR⟩,by omega,by first | trivial | rfl⟩
   | true =>
    rw [h2] at hR
    simp (disch:=omega) only [go_sem,Ab,hni,hg,h1,h2]
    simpa using hR
 ·rw [zF hge,CE] at hR
  simp (disch:=omega) only [go_sem,Ab,hni]
  exact hR
theorem Qq (m:Ip) (hm:m.ok=true) (hml:m.tables.length≤1099511627776) (hvl:∀ t∈m.tables,t.vals.length≤1099511627776) (as_:List Ag) (hal:as_.length≤1099511627776) (he:InE m.size (asg as_)) (x:Tm) (hxl:x.args.length≤29) (ih:∀ y∈x.args,LvC m as_ y):LvC m as_ x:=by
 have h1:=FG x.name
 obtain ⟨⟨s1,s3⟩,hT,_⟩:=Ip.D4 hm
 unfold LvC
 rw [Tm.J9]
 cases hb:Cj x.name with
 | true =>
  rw [hb] at h1
  rw [cond_true]
  refine Al F6 Bg (of_decide_eq_true rfl) ?_
  simp (disch:=omega) only [Es,go_sem,Ab,h1,An]
  refine go_loop (α:=Int) (fun a=>⟨slots 108 0 [(1,.arr (as_.map Ag.d)),(6,.ptr 0 0),(10,.int .i64 a)],[.box 30 [.str x.name,.arr (x.args.map Tm.d)]]⟩) (fun a=>∃ k:Nat,a=k∧k≤(as_).length∧asg (as_.drop k) x.name=asg as_ x.name) (fun a=>(as_).length-(a).toNat) 0 ⟨0,rfl,zH _,by rw [zG]⟩ (by simp (disch:=omega) only [go_sem,Ab]) ?_
  rintro i ⟨k,hi,hk,hR⟩
  have hni:i.toNat=k:=by omega
  have hni1:(i+1).toNat=k+1:=by omega
  rcases zD k (as_).length with hlt | hge
  ·have hg:=get_at Ag.d hlt
   rw [Ag.d_eq] at hg
   rw [zC hlt,asg] at hR
   cases hd:dec (as_[k].var=x.name) with
   | true =>
    rw [hd,cond_true] at hR
    rw [←hR]
    simp (disch:=omega) only [go_sem,Ab,hni,hg,hd]
    try first | rfl | exact ⟨rfl,rfl⟩
   | false =>
    rw [hd,cond_false] at hR
    simp (disch:=omega) only [go_sem,Ab,hni,hg,hd]
    exact ⟨i+1,⟨k+1,by omega,hlt,hR⟩,by omega,by first | trivial | rfl⟩
  ·rw [zF hge,asg] at hR
   rw [←hR]
   simp (disch:=omega) only [go_sem,Ab,hni]
   try first | rfl | exact ⟨rfl,rfl⟩
 | false =>
  rw [hb] at h1
  rw [cond_false]
  have hf:=Ou m.tables hml x.name x.args.length
  refine Al F6 Bg (of_decide_eq_true rfl) ?_
  simp (disch:=omega) only [Es,go_sem,Ab,h1,An]
  refine go_loop (α:=Int × (Int)) (fun a=>⟨slots 108 0 [(1,.arr (as_.map Ag.d)),(3,.bool false),(4,.ptr 0 0),(6,.ptr 1 0),(11,.int .i64 (a.2)),(12,.int .i64 (a.1))],[.box 26 [.int .i64 m.size,.arr (m.tables.map Tl.d)],.box 30 [.str x.name,.arr (x.args.map Tm.d)]]⟩) (fun a=>∃ k:Nat,a.1=k∧k≤(x.args).length∧0≤(a.2)∧(a.2)<pw m.size k∧Tm.De m (asg as_) (x.args.drop k) (a.2)=Tm.De m (asg as_) x.args 0) (fun a=>(x.args).length-(a.1).toNat) (0,0) ⟨0,rfl,zH _,⟨Int.le_refl 0,by rw [pw]; omega,by rw [zG]⟩⟩ (by simp (disch:=omega) only [go_sem,Ab]) ?_
  rintro ⟨i,at_⟩ ⟨k,hi,hk,hR⟩
  dsimp only at hi hR
  have hni:i.toNat=k:=by omega
  have hni1:(i+1).toNat=k+1:=by omega
  rcases zD k (x.args).length with hlt | hge
  ·have hg:=get_at Tm.d hlt
   rw [Tm.d_eq] at hg
   obtain ⟨r0,r1,r2⟩:=hR
   have hc:=ih x.args[k] (zI hlt)
   rw [zC hlt,Tm.De] at r2
   have hps:=Rq s1 s3 (k:=k+1) (by omega)
   cases hv:x.args[k].val m (asg as_) with
   | none =>
    rw [hv] at r2
    unfold LvC at hc
    rw [hv] at hc
    rw [←r2]
    have hrn:Dk m.tables x.name x.args.length false none=none:=by unfold Dk; split <;> first | rfl | (rename_i h; cases h)
    rw [hrn]
    simp (disch:=omega) only [go_sem,Ab,hni,hg,hc,zQ,zN,zP,zL,Bg]
    try first | rfl | exact ⟨rfl,rfl⟩
   | some v =>
    rw [hv] at r2
    unfold LvC at hc
    rw [hv] at hc
    obtain ⟨v0,v1⟩:=Tm.KF hm he _ v hv
    obtain ⟨q0,q1,q2,q3⟩:=at_next s1 r0 r1 v0 v1
    rw [pw] at hps
    simp (disch:=omega) only [go_sem,Ab,hni,hg,hc,zQ,zN,zP,zL,Bg]
    refine ⟨(i+1,at_*m.size+v),⟨k+1,by dsimp only; omega,hlt,q0,(by rw [pw]; exact q1),r2⟩,by dsimp only; omega,?_⟩
    first | trivial | rfl | exact ⟨rfl,rfl⟩
  ·obtain rfl:k=x.args.length:=by omega
   obtain ⟨r0,r1,r2⟩:=hR
   rw [zF hge,Tm.De] at r2
   rw [←r2]
   have hTF:=JB (n:=x.name) (z:=x.args.length) (p:=false) (Or hT)
   rcases IP (fun t:Tl=>dec (t.name=x.name)&&dec (t.arity=(x.args.length:Int))) m.tables 0 with ⟨h2,h3⟩ | ⟨j,t,hj,h2,h3,h4⟩
   ·rw [h2] at hTF
    rw [h3] at hf
    have hrn:Dk m.tables x.name x.args.length false (some at_)=none:=by unfold Dk; rw [hTF]
    rw [hrn]
    simp (disch:=omega) only [go_sem,Ab,hni,hf,CN]
    try first | rfl | exact ⟨rfl,rfl⟩
   ·rw [h2] at hTF
    rw [h3,Int.zero_add] at hf
    have hg:=get_at Tl.d hj
    rw [h4,Tl.d_eq] at hg
    obtain ⟨jj,hjj⟩:∃ jj:Int,jj=(j:Int):=⟨_,rfl⟩
    rw [←hjj] at hf
    have hnj:jj.toNat=j:=by omega
    simp only at hTF
    have hbt:(true == false)=false:=rfl
    have hbf:(false == false)=true:=rfl
    cases hpr:t.pred with
    | true =>
     rw [hpr] at hTF
     have hrn:Dk m.tables x.name x.args.length false (some at_)=none:=by unfold Dk; rw [hTF]; rfl
     rw [hrn]
     simp (disch:=omega) only [go_sem,Ab,hni,hf,hnj,hg,hpr,hbt,CN]
     try first | rfl | exact ⟨rfl,rfl⟩
    | false =>
     rw [hpr] at hTF
     have hTF:Kl m.tables x.name x.args.length false=some t:=hTF
     have hrn:Dk m.tables x.name x.args.length false (some at_)=some (t.vals.getD at_.toNat 0):=by unfold Dk; rw [hTF]
     obtain ⟨g1,g2,_,_⟩:=LI hm hTF r0 r1
     have hgv:=get_at (fun n=>[D.int n]) g1
     have hvt:=hvl t (Hi hTF).1
     rw [hrn,g2]
     simp (disch:=omega) only [go_sem,Ab,hni,hf,hnj,hg,hgv,hpr,hbf,zP,zL,CN]
     try first | rfl | exact ⟨rfl,rfl⟩
theorem MW (m:Ip) (hm:m.ok=true) (hml:m.tables.length≤1099511627776) (hvl:∀ t∈m.tables,t.vals.length≤1099511627776) (as_:List Ag) (hal:as_.length≤1099511627776) (he:InE m.size (asg as_)) (x:Tm) (hn:x.nodes≤30):LvC m as_ x :=
 Qq m hm hml hvl as_ hal he x (by have:=Tm.length_le x.args; have:=Tm.nodes_eq x; omega) fun y hy=>MW m hm hml hvl as_ hal he y (by have:=Tm.nodes_mem hy; have:=Tm.nodes_eq x; omega)
termination_by SizeOf.sizeOf x
decreasing_by exact Tm.lt_of_mem hy
theorem Ov {s:ByteArray} (h:Cj s=true):Ee s=false:=by
 unfold Cj at h
 rw [zB] at h
 have hsz:0<s.size:=by
  have h2:=h.2
  unfold inB at h2
  rw [zB,decide_eq_true_eq,decide_eq_true_eq] at h2
  omega
 have h0:=H5 h.1 hsz
 unfold Ee
 have h1:E7 HH s s.size=false:=Ev (k:=0) hsz (by
  unfold HI at h0
  unfold HH
  rw [zB] at h0
  have hu:M4 (He s 0)=true:=by simpa using h0.1
  have hlo:Nr (He s 0)=false:=by
   unfold M4 at hu
   unfold Nr
   rw [zB,decide_eq_true_eq,decide_eq_true_eq] at hu
   rw [decide_eq_false (by omega)]
   rfl
  rw [hlo]
  rfl)
 rw [h1]
 rfl
noncomputable def Kr:List ByteArray→ByteArray→List ByteArray
 | [],n=>[n]
 | x :: xs,n=>bif strLt x n then x :: Kr xs n else bif dec (x=n) then x :: xs else n :: x :: xs
mutual
noncomputable def Tm.vs:Tm→List ByteArray
 | .mk name args=>bif Cj name then [name] else Tm.vsL args
noncomputable def Tm.vsL:List Tm→List ByteArray
 | []=>[]
 | x :: xs=>Tm.vs x++Tm.vsL xs
end
noncomputable def IT (l ns:List ByteArray):List ByteArray:=ns.foldl Kr l
noncomputable def qB (op:Int):Bool:=dec (op=8) || dec (op=9)
mutual
noncomputable def Fm.fv:Fm→List ByteArray→List ByteArray
 | .mk op atom var parts,b=>bif dec (op=3) then (IT [] atom.vs).filter (fun n=>!dec (n∈b)) else Fm.fvL parts (bif qB op then b++[var] else b)
noncomputable def Fm.fvL:List Fm→List ByteArray→List ByteArray
 | [],_=>[]
 | x :: xs,b=>Fm.fv x b++Fm.fvL xs b
end
noncomputable def Fm.free (x:Fm):List ByteArray:=IT [] (x.fv [])
theorem Tm.Tx {x:Tm} (h:x.atom=true):x.expr=true:=by unfold Tm.expr; rw [h,Bool.or_true]
theorem Tm.H9 {x:Tm} (h:x.atom=true):x.nodes≤30:=Tm.Ri (Tm.Tx h)
theorem Tm.Pe {x:Tm} (h:x.isZ=true):x=.mk ⟨#[]⟩ []:=by
 obtain ⟨n,a⟩:=x
 unfold Tm.isZ at h
 rw [zB] at h
 have h1:n=⟨#[]⟩:=Av.1 h.1
 have h3:(a.length == 0)=true:=h.2
 have h2:a=[]:=zW (by simpa using h3)
 rw [h1,h2]
theorem Fm.FO {x:Fm} (h:x.form=true) (ho:x.op=3):x.parts=[]∧x.atom.atom=true∧x.var=⟨#[]⟩:=by
 unfold Fm.form at h
 simp only [ho] at h
 simp at h
 exact ⟨h.1.1,h.1.2,Av.1 h.2⟩
theorem Fm.Gm {x:Fm} (h:x.form=true) (ho:¬ x.op=3):x.atom=.mk ⟨#[]⟩ []:=by
 unfold Fm.form at h
 split at h
 ·rw [zB,zB] at h; exact Tm.Pe h.1.2
 ·try rw [if_neg ho] at h
  split at h
  ·rw [zB,zB] at h; exact Tm.Pe h.1.2
  ·split at h
   ·rw [zB,zB] at h; exact Tm.Pe h.1.2
   ·split at h
    ·rw [zB,zB] at h; exact Tm.Pe h.1.2
    ·cases h
theorem Fm.Rz {x:Fm} (h:x.form=true) (ho:qB x.op=true):Cj x.var=true∧∃ p,x.parts=[p]:=by
 unfold qB at ho
 rw [zX,Av,Av] at ho
 unfold Fm.form at h
 rw [if_neg (by omega),if_neg (by omega),if_neg (by omega),if_neg (by omega),if_pos (by omega),zB,zB] at h
 refine ⟨h.2,?_⟩
 have hl:x.parts.length=1:=by simpa using h.1.1
 match hq:x.parts,hl with
 | [p],_=>exact ⟨p,rfl⟩
theorem Fm.CY {x y:Fm} (h:x.forms=true) (hy:y∈x.parts):y.forms=true:=by
 rw [Fm.EH,zB,Fm.KK,List.all_eq_true] at h
 exact h.2 y hy
theorem Fm.DT {x:Fm} (h:x.forms=true):x.form=true:=by
 rw [Fm.EH,zB] at h
 exact h.1
theorem Fm.Sp {x:Fm} (h:x.form=true):x.atom.nodes≤30:=by
 by_cases ho:x.op=3
 ·exact Tm.H9 (Fm.FO h ho).2.1
 ·rw [Fm.Gm h ho,Tm.nodes_eq]
  simp [Tm.args,Tm.nodeS]
theorem Tm.FP {x:Tm} (h:x.atom=true):(Cj x.name=true→x.args=[])∧∀ y∈x.args,y.names=true:=by
 unfold Tm.atom at h
 cases he:x.eqn with
 | true =>
  rw [he,if_pos rfl,zB,zB] at h
  have h2:=h.2
  rw [Tm.IK,List.all_eq_true] at h2
  refine ⟨fun hv=>?_,h2⟩
  have hn:=Av.1 he
  have hnv0:Cj ⟨#[61]⟩=false:=by kernel_rfl
  rw [hn,hnv0] at hv
  cases hv
 | false =>
  rw [he,if_neg (by simp),zB] at h
  have hnm:x.names=true:=by have h3:=h.2; unfold Tm.valid at h3; rw [zB] at h3; exact h3.2
  exact ⟨fun hv=>Tm.Oh hnm hv,fun y hy=>Tm.KD hnm hy⟩
theorem Tm.Sq (x:Tm):x.vs=bif Cj x.name then [x.name] else Tm.vsL x.args:=by
 obtain ⟨n,a⟩:=x
 rw [Tm.vs]; rfl
theorem Tm.Pf {v:ByteArray}:∀ {xs:List Tm},v∈Tm.vsL xs ↔ ∃ x∈xs,v∈x.vs
 | []=>by simp [Tm.vsL]
 | x :: xs=>by rw [Tm.vsL,List.mem_append,Tm.Pf (xs:=xs)]; simp
theorem Tm.Sr:∀ xs:List Tm,(∀ x∈xs,x.vs.length≤x.nodes)→(Tm.vsL xs).length≤Tm.nodeS xs
 | [],_=>by simp [Tm.vsL]
 | x :: xs,h=>by
  have h1:=h x (by simp)
  have h2:=Tm.Sr xs fun y hy=>h y (by simp [hy])
  rw [Tm.vsL,Tm.nodeS,List.length_append]; omega
theorem Tm.MX (x:Tm):x.vs.length≤x.nodes:=by
 have h:=Tm.Sr x.args fun y hy=>Tm.MX y
 rw [Tm.Sq,Tm.nodes_eq]
 cases Cj x.name with
 | true=>simp
 | false=>simp only [cond_false]; omega
termination_by SizeOf.sizeOf x
decreasing_by exact Tm.lt_of_mem hy
noncomputable def HA (l:List ByteArray) (n:ByteArray):List ByteArray:=bif dec (n∈l) then l else l++[n]
theorem UP (l:List ByteArray) (n:ByteArray):(HA l n).length≤l.length+1:=by
 unfold HA
 cases dec (n∈l) <;> simp
theorem UQ {l:List ByteArray} {n m:ByteArray}:m∈HA l n ↔ m∈l∨m=n:=by
 unfold HA
 by_cases h:n∈l
 ·rw [A1 h,cond_true]
  exact ⟨.inl,fun h'=>h'.elim id fun e=>e▸h⟩
 ·rw [Aj h,cond_false]
  simp
theorem R0 {l:List ByteArray} {n:ByteArray} (h:l.Nodup):(HA l n).Nodup:=by
 unfold HA
 by_cases k:n∈l
 ·rw [A1 k]; exact h
 ·rw [Aj k,cond_false,List.nodup_append]
  exact ⟨h,by simp,fun a ha b hb e=>by simp at hb; subst hb; subst e; exact k ha⟩
noncomputable def CK (l ns:List ByteArray):List ByteArray:=ns.foldl HA l
theorem Ho:∀ (ns l:List ByteArray),(CK l ns).length≤l.length+ns.length
 | [],l=>by simp [CK]
 | n :: ns,l=>by
  have h:=Ho ns (HA l n)
  have h2:=UP l n
  simp only [CK,zS,zZ] at h ⊢
  omega
theorem Qr:∀ {ns l:List ByteArray} {m:ByteArray},m∈CK l ns ↔ m∈l∨m∈ns
 | [],l,m=>by simp [CK]
 | n :: ns,l,m=>by
  have h:=Qr (ns:=ns) (l:=HA l n) (m:=m)
  simp only [CK,zS] at h ⊢
  rw [h,UQ]
  simp only [zO]
  exact or_assoc
theorem MY:∀ {ns l:List ByteArray},l.Nodup→(CK l ns).Nodup
 | [],l,h=>h
 | n :: ns,l,h=>MY (ns:=ns) (R0 h)
theorem MZ (l a b:List ByteArray):CK l (a++b)=CK (CK l a) b:=List.foldl_append
def D6:SC:=(.seq (.reg [⟨some 4,none,.mv (.c (.int .i64 0))⟩]) (.seq (.seq (.reg [⟨some 6,none,.mv (.t 0)⟩,⟨some 7,none,.len false (.t 6)⟩,⟨some 8,none,.mv (.c (.int .i64 0))⟩]) (.block 0 (.loop [1,1,0,0,0,0,0,1,1,0,0,0,0,0,0,0,0,0,0] (.seq (.reg [⟨some 9,none,.bin .lss false (.t 8) (.t 7)⟩]) (.seq (.cond (.t 9) .skip (.exit 0)) (.seq (.block 1 (.seq (.reg [⟨some 10,none,.mv (.t 8)⟩,⟨some 5,none,.mv (.t 10)⟩]) (.seq (.reg [⟨some 11,none,.mv (.t 1)⟩,⟨some 12,none,.mv (.t 0)⟩,⟨some 13,none,.mv (.t 5)⟩,⟨some 14,none,.iaddr 1 (.t 12) (.t 13)⟩,⟨some 15,none,.load false 1 (.t 14)⟩,⟨some 16,none,.bin .eql false (.t 11) (.t 15)⟩]) (.cond (.t 16) (.seq (.reg [⟨some 17,none,.mv (.t 5)⟩,⟨some 4,none,.mv (.t 17)⟩]) .ret) .skip)))) (.reg [⟨some 18,none,.bin .add false (.t 8) (.c (.int .i64 1))⟩,⟨some 8,none,.mv (.t 18)⟩]))))))) (.seq (.reg [⟨some 4,none,.mv (.c (.int .i64 (-(0+1))))⟩]) .ret)))
theorem F7:As Tryz.prog 92=some ⟨19,D6,[(.tmp 4)]⟩:=by kernel_rfl
theorem D7:modes 92=⟨[],.asis,none,false⟩:=by unfold modes; rfl
def Dd:SC:=(.seq (.reg [⟨some 4,none,.mv (.c (.bool false))⟩]) (.seq (.reg [⟨some 5,none,.mv (.t 0)⟩,⟨some 6,none,.mv (.t 1)⟩,⟨some 7,none,.call 92 [(.t 5),(.t 6)]⟩,⟨some 8,none,.bin .geq false (.t 7) (.c (.int .i64 0))⟩,⟨some 4,none,.mv (.t 8)⟩]) .ret))
theorem EN:As Tryz.prog 58=some ⟨9,Dd,[(.tmp 4)]⟩:=by kernel_rfl
theorem Aw:modes 58=⟨[],.asis,none,false⟩:=by unfold modes; rfl
theorem UR (xs:List ByteArray) (n:ByteArray) (hl:xs.length≤1099511627776):E 92 [.arr (xs.map fun s=>[D.str s]),.str n] []=some (.int .i64 (CE (fun s=>dec (n=s)) xs 0),[]):=by
 refine Al F7 D7 (of_decide_eq_true rfl) ?_
 simp (disch:=omega) only [D6,go_sem,Ab]
 refine go_loop (α:=Int) (fun a=>⟨slots 19 0 [(0,.arr (xs.map fun s=>[D.str s])),(1,.str n),(7,.int .i64 xs.length),(8,.int .i64 a)],[]⟩) (fun a=>∃ k:Nat,a=k∧k≤(xs).length∧CE (fun s=>dec (n=s)) (xs.drop k) a=CE (fun s=>dec (n=s)) xs 0) (fun a=>(xs).length-(a).toNat) 0 ⟨0,rfl,zH _,by rw [zG]⟩ (by simp (disch:=omega) only [go_sem,Ab]) ?_
 rintro i ⟨k,hi,hk,hR⟩
 have hni:i.toNat=k:=by omega
 have hni1:(i+1).toNat=k+1:=by omega
 rcases zD k (xs).length with hlt | hge
 ·have hg:=get_at (fun s=>[D.str s]) hlt
  rw [zC hlt,CE] at hR
  cases hp:dec (n=xs[k]) with
  | true =>
   rw [hp] at hR
   simp (disch:=omega) only [go_sem,Ab,hni,hg,hp]
   simpa using hR
  | false =>
   rw [hp] at hR
   simp (disch:=omega) only [go_sem,Ab,hni,hg,hp]
   exact ⟨i+1,⟨k+1,by omega,hlt,by simpa using hR⟩,by omega,by first | trivial | rfl⟩
 ·rw [zF hge,CE] at hR
  simp (disch:=omega) only [go_sem,Ab,hni]
  exact hR
theorem F0 (xs:List ByteArray) (n:ByteArray) (hl:xs.length≤1099511627776):E 58 [.arr (xs.map fun s=>[D.str s]),.str n] []=some (.bool (dec (n∈xs)),[]):=by
 have h:=UR xs n hl
 have e:dec (n∈xs)=dec (0≤CE (fun s=>dec (n=s)) xs 0):=by
  rw [Hf]
  by_cases hm:n∈xs
  ·rw [A1 hm]
   exact (List.any_eq_true.2 ⟨n,hm,A1 rfl⟩).symm
  ·rw [Aj hm]
   refine Eq.symm (Bool.eq_false_iff.2 fun h=>?_)
   obtain ⟨x,h1,h2⟩:=List.any_eq_true.1 h
   have e:=Av.1 h2
   subst e
   exact hm h1
 rw [e]
 refine Al EN Aw (of_decide_eq_true rfl) ?_
 simp (disch:=omega) only [Dd,go_sem,Ab,h,D7]
theorem IQ:∀ (ns l:List ByteArray),l.length≤(CK l ns).length
 | [],l=>by simp [CK]
 | n :: ns,l=>by
  have h:=IQ ns (HA l n)
  have h2:l.length≤(HA l n).length:=by unfold HA; cases dec (n∈l) <;> simp
  simp only [CK,zS] at h ⊢
  omega
def DU:SC:=(.seq (.reg [⟨some 3,none,.boxv 30 2 (.t 1)⟩,⟨some 4,none,.mv (.c .nil)⟩]) (.seq (.seq (.reg [⟨some 7,none,.faddr 1 (.t 3)⟩,⟨some 8,none,.load false 1 (.t 7)⟩,⟨some 9,none,.len false (.t 8)⟩,⟨some 10,none,.bin .eql false (.t 9) (.c (.int .i64 0))⟩,⟨some 11,none,.mv (.t 10)⟩,⟨(some 12),(some (11,true)),(.load true 2 (.t 3))⟩,⟨(some 13),(some (11,true)),(.call 111 [(.t 12)])⟩,⟨some 14,none,.pick (.t 11) (.t 13) (.c (.bool false))⟩]) (.cond (.t 14) (.seq (.seq (.reg [⟨some 15,none,.mv (.t 0)⟩,⟨some 16,none,.faddr 0 (.t 3)⟩,⟨some 17,none,.load false 1 (.t 16)⟩,⟨some 18,none,.call 58 [(.t 15),(.t 17)]⟩,⟨some 19,none,.un .not (.t 18)⟩]) (.cond (.t 19) (.reg [⟨some 20,none,.mv (.t 0)⟩,⟨some 21,none,.faddr 0 (.t 3)⟩,⟨some 22,none,.load false 1 (.t 21)⟩,⟨(some 23),none,(.mkrow 9 1 [(.str ⟨#[]⟩)] 1 [(0,(.t 22))])⟩,⟨(some 24),none,(.append 9 1 16 [(.str ⟨#[]⟩)] (.t 20) (.t 23))⟩,⟨some 0,none,.mv (.t 24)⟩]) .skip)) (.seq (.reg [⟨some 25,none,.mv (.t 0)⟩,⟨some 4,none,.mv (.t 25)⟩]) .ret)) .skip)) (.seq (.seq (.reg [⟨some 26,none,.faddr 1 (.t 3)⟩,⟨some 27,none,.load false 1 (.t 26)⟩,⟨some 28,none,.len false (.t 27)⟩,⟨some 29,none,.mv (.c (.int .i64 0))⟩]) (.block 0 (.loop [1,0,0,0,0,0,0,0,0,0,0,0,0,0,0,0,0,0,0,0,0,0,0,0,0,0,0,1,1,1,0,0,0,0,0,0,0,0] (.seq (.reg [⟨some 30,none,.bin .lss false (.t 29) (.t 28)⟩]) (.seq (.cond (.t 30) .skip (.exit 0)) (.seq (.block 1 (.seq (.reg [⟨some 31,none,.iaddr 2 (.t 27) (.t 29)⟩,⟨some 32,none,.load true 2 (.t 31)⟩,⟨(some 6),none,(.alloc 30 [(.str ⟨#[]⟩),.nil])⟩,⟨none,none,(.store 2 (.t 6) (.t 32))⟩]) (.reg [⟨some 33,none,.mv (.t 0)⟩,⟨some 34,none,.load true 2 (.t 6)⟩,⟨some 35,none,.call 129 [(.t 33),(.t 34)]⟩,⟨some 0,none,.mv (.t 35)⟩]))) (.reg [⟨some 36,none,.bin .add false (.t 29) (.c (.int .i64 1))⟩,⟨some 29,none,.mv (.t 36)⟩]))))))) (.seq (.reg [⟨some 37,none,.mv (.t 0)⟩,⟨some 4,none,.mv (.t 37)⟩]) .ret))))
theorem EJ:As Tryz.prog 129=some ⟨38,DU,[(.tmp 4)]⟩:=by kernel_rfl
theorem CO:modes 129=⟨[true],.asis,none,false⟩:=by unfold modes; rfl
abbrev US (x:Tm):Prop:=∀ l:List ByteArray,l.length+x.nodes≤1048576→E 129 [.ref 0,x.sv] [.row 9 1 (l.map fun s=>[OT.str s])]=some ((bif dec (l.length<(CK l x.vs).length) then .ref 1 else .ref 0),(bif dec (l.length<(CK l x.vs).length) then [.gone,.row 9 1 ((CK l x.vs).map fun s=>[OT.str s])] else [.row 9 1 ((CK l x.vs).map fun s=>[OT.str s])]))
theorem Na (x:Tm) (hva:Cj x.name=true→x.args=[]) (hc:x.cok=true) (ih:∀ y∈x.args,US y):US x:=by
 intro l hn
 have hl:=Tm.length_le x.args
 have hne:=Tm.nodes_eq x
 have hv:=Sj x hc
 have hvs:=Tm.Sq x
 rcases Nat.eq_zero_or_pos x.args.length with h0 | h0
 ·have hx0:x.args=[]:=zW h0
  have hz:((x.args.length:Int)=0)=True:=by rw [hx0]; simp
  cases hvv:Cj x.name with
  | true =>
   rw [hvv] at hv hvs
   have h1:=F0 l x.name (by omega)
   rw [hvs]
   cases hm:dec (x.name∈l) with
   | true =>
    have e:CK l [x.name]=l:=by simp only [CK,zS,List.foldl_nil,HA,hm,cond_true]
    rw [hm] at h1
    simp only [cond_true,e]
    refine Al EJ CO (of_decide_eq_true rfl) ?_
    simp (disch:=omega) only [DU,go_sem,Ab,hz,hv,h1,Dy,Aw]
   | false =>
    have e:CK l [x.name]=l++[x.name]:=by simp only [CK,zS,List.foldl_nil,HA,hm,cond_false]
    have hg:l.length<(l++[x.name]).length:=by simp
    rw [hm] at h1
    simp only [cond_true,e,A1 hg]
    refine Al EJ CO (of_decide_eq_true rfl) ?_
    simp (disch:=omega) only [DU,go_sem,Ab,hz,hv,h1,Dy,Aw]
    simp only [yG,zK,zR]
  | false =>
   rw [hvv] at hv hvs
   have e:CK l x.vs=l:=by rw [hvs,hx0]; simp only [cond_false,Tm.vsL]; rfl
   rw [e]
   refine Al EJ CO (of_decide_eq_true rfl) ?_
   simp (disch:=omega) only [DU,go_sem,Ab,hz,hv,Dy]
   refine go_loop (α:=Int) (fun a=>⟨slots 38 0 [(0,.ref 0),(27,.arr (x.args.map Tm.d)),(28,.int .i64 x.args.length),(29,.int .i64 a)],[.row 9 1 (l.map fun s=>[OT.str s])]⟩) (fun a=>∃ k:Nat,a=k∧k≤(x.args).length) (fun a=>(x.args).length-(a).toNat) 0 ⟨0,rfl,zH _⟩ (by simp (disch:=omega) only [go_sem,Ab]) ?_
   rintro i ⟨k,hi,hk⟩
   have hni:i.toNat=k:=by omega
   have hni1:(i+1).toNat=k+1:=by omega
   rcases zD k (x.args).length with hlt | hge
   ·omega
   ·simp (disch:=omega) only [go_sem,Ab,hni]
 ·have hz:((x.args.length:Int)=0)=False:=eq_false (by omega)
  have hvv:Cj x.name=false:=by
   cases h:Cj x.name with
   | false=>rfl
   | true=>rw [hva h] at h0; simp at h0
  rw [hvv] at hvs
  simp only [cond_false] at hvs
  rw [hvs]
  refine Al EJ CO (of_decide_eq_true rfl) ?_
  simp (disch:=omega) only [DU,go_sem,Ab,hz]
  refine go_loop (α:=Int × (List ByteArray)) (fun a=>⟨slots 38 0 [(0,(bif dec (l.length<(a.2).length) then .ref 1 else .ref 0)),(27,.arr (x.args.map Tm.d)),(28,.int .i64 x.args.length),(29,.int .i64 (a.1))],(bif dec (l.length<(a.2).length) then [.gone,.row 9 1 ((a.2).map fun s=>[OT.str s])] else [.row 9 1 ((a.2).map fun s=>[OT.str s])])⟩) (fun a=>∃ k:Nat,a.1=k∧k≤(x.args).length∧CK (a.2) (Tm.vsL (x.args.drop k))=CK l (Tm.vsL x.args)∧(a.2).length+Tm.nodeS (x.args.drop k)≤1048576∧l.length≤(a.2).length) (fun a=>(x.args).length-(a.1).toNat) (0,l) ⟨0,rfl,zH _,by rw [zG],by rw [zG]; dsimp only; omega,yI _⟩ (by simp (disch:=omega) only [go_sem,Ab]) ?_
  rintro ⟨i,acc⟩ ⟨k,hi,hk,hR⟩
  dsimp only at hi hR
  have hni:i.toNat=k:=by omega
  have hni1:(i+1).toNat=k+1:=by omega
  rcases zD k (x.args).length with hlt | hge
  ·have hg:=get_at Tm.d hlt
   rw [Tm.d_eq] at hg
   obtain ⟨hR1,hR2,hR3⟩:=hR
   rw [zC hlt,Tm.vsL,MZ] at hR1
   rw [zC hlt,Tm.nodeS] at hR2
   have hc:=ih x.args[k] (zI hlt) acc (by omega)
   have hlen:=Ho x.args[k].vs acc
   have hgr:=IQ x.args[k].vs acc
   have hvl:=Tm.MX x.args[k]
   obtain ⟨acc2,ha2⟩:∃ a,a=CK acc x.args[k].vs:=⟨_,rfl⟩
   rw [←ha2] at hc hlen hgr hR1
   rcases zD l.length acc.length with q1 | q1 <;> rcases zD acc.length acc2.length with q2 | q2
   all_goals
    first
     |rw [A1 q2] at hc
     |rw [Aj (Nat.not_lt.2 q2)] at hc
    simp only [cond_true,cond_false] at hc
    simp (disch:=omega) only [go_sem,Ab,hni,hg,hc,CO]
    refine ⟨(i+1,acc2),⟨k+1,by dsimp only; omega,hlt,hR1,by dsimp only; omega,by dsimp only; omega⟩,by dsimp only; omega,?_⟩
    first | done | simp (disch:=omega) only [go_sem,Ab]
  ·rw [zF hge,Tm.vsL] at hR
   obtain ⟨hR1,hR2,hR3⟩:=hR
   have hR1:acc=CK l (Tm.vsL x.args):=hR1
   rw [←hR1]
   rcases zD l.length acc.length with q1 | q1
   ·simp (disch:=omega) only [go_sem,Ab,hni]
   ·simp (disch:=omega) only [go_sem,Ab,hni]
theorem Ow (x:Tm) (hx:x.names=true) (hc:x.cok=true):US x :=
 Na x (fun h=>Tm.Oh hx h) hc fun y hy=>Ow y (Tm.KD hx hy) (by rw [Tm.Rm,zB] at hc; exact Tm.UC hc.2 hy)
termination_by SizeOf.sizeOf x
decreasing_by exact Tm.lt_of_mem hy
noncomputable def Pg (l:List ByteArray):List ByteArray:=(srt (l.map (·.toList))).map fun x=>⟨x.toArray⟩
theorem Ty (l:List ByteArray):(Pg l).Perm l:=by
 unfold Pg
 have h:(srt (l.map (·.toList))).Perm (l.map (·.toList)):=List.mergeSort_perm _ _
 have h2:=h.map fun x:List UInt8=>(⟨x.toArray⟩:ByteArray)
 rw [yF] at h2
 have e:((fun x:List UInt8=>(⟨x.toArray⟩:ByteArray)) ∘ fun x:ByteArray=>x.toList)=id:=by
  funext x
  exact J1 x
 rw [e,List.map_id] at h2
 exact h2
theorem BE:modes 94=⟨[true],.asis,some sortStr,false⟩:=by unfold modes; rfl
theorem Ss (l:List ByteArray) (hl:l.length≤1099511627776):E 94 [.ref 0] [.row 9 1 (l.map fun s=>[OT.str s])]=some (.tup [],[.row 9 1 ((Pg l).map fun s=>[OT.str s])]):=by
 rw [Re (g:=sortStr) (congrArg FM.ext BE)]
 unfold sortStr
 simp only
 rw [A1 ⟨by first | trivial | rfl,fun e he=>by obtain ⟨s,_,rfl⟩:=yB.1 he; exact ⟨s,rfl⟩,by simpa using hl⟩,cond_true]
 have e1:(l.map fun s=>[OT.str s]).map (fun e=>(QY e).toList)=l.map (·.toList):=by rw [yF]; rfl
 rw [e1]
 unfold Pg
 rw [yF]
 rfl
noncomputable def Tm.vars (x:Tm):List ByteArray:=Pg (CK [] x.vs)
def Fe:SC:=(.seq (.reg [⟨some 1,none,.boxv 30 2 (.t 0)⟩,⟨some 2,none,.mv (.c .nil)⟩]) (.seq (.reg [⟨(some 4),none,(.mkrow 9 1 [(.str ⟨#[]⟩)] 0 [])⟩,⟨some 5,none,.load true 2 (.t 1)⟩,⟨some 6,none,.call 129 [(.t 4),(.t 5)]⟩,⟨some 3,none,.mv (.t 6)⟩]) (.seq (.reg [⟨some 7,none,.mv (.t 3)⟩,⟨some 8,none,.call 94 [(.t 7)]⟩]) (.seq (.reg [⟨some 9,none,.mv (.t 3)⟩,⟨some 2,none,.mv (.t 9)⟩]) .ret))))
theorem Hp:As Tryz.prog 113=some ⟨10,Fe,[(.tmp 2)]⟩:=by kernel_rfl
theorem Ff:modes 113=⟨[],.asis,none,false⟩:=by unfold modes; rfl
theorem Ph (x:Tm) (hcol:US x) (hn:x.nodes≤1048576):E 113 [x.sv] []=some (.ref 0,[.row 9 1 (x.vars.map fun s=>[OT.str s])]):=by
 have h1:=hcol [] (by simpa using hn)
 have hl:=Ho x.vs []
 have hv:=Tm.MX x
 rw [zT,Nat.zero_add] at hl
 have h2:=Ss (CK [] x.vs) (by omega)
 rw [zR,zT] at h1
 unfold Tm.vars
 rcases zD 0 (CK [] x.vs).length with q | q
 ·rw [A1 q] at h1
  simp only [cond_true] at h1
  refine Al Hp Ff (of_decide_eq_true rfl) ?_
  simp (disch:=omega) only [Fe,go_sem,Ab,h1,h2,CO,BE]
 ·rw [Aj (by omega)] at h1
  simp only [cond_false] at h1
  refine Al Hp Ff (of_decide_eq_true rfl) ?_
  simp (disch:=omega) only [Fe,go_sem,Ab,h1,h2,CO,BE]
theorem R1 (x:Tm) (h:x.atom=true):US x :=
 Na x (Tm.FP h).1 (Tm.UD h) fun y hy=>Ow y ((Tm.FP h).2 y hy) (Tm.IN y ((Tm.FP h).2 y hy))
theorem Nb:∀ {xs:List ByteArray} {n m:ByteArray},m∈Kr xs n ↔ m∈xs∨m=n
 | [],n,m=>by simp [Kr]
 | x :: xs,n,m=>by
  rw [Kr]
  cases strLt x n with
  | true=>rw [cond_true,zO,Nb,zO,or_assoc]
  | false =>
   rw [cond_false]
   by_cases h:x=n
   ·rw [A1 h,cond_true]
    exact ⟨.inl,fun h'=>h'.elim id fun e=>by subst e; subst h; simp⟩
   ·rw [Aj h,cond_false,zO]
    exact or_comm
theorem Qs:∀ (xs:List ByteArray) (n:ByteArray),(Kr xs n).length≤xs.length+1
 | [],n=>by simp [Kr]
 | x :: xs,n=>by
  have h:=Qs xs n
  rw [Kr]
  cases strLt x n with
  | true=>simp only [cond_true,zZ]; omega
  | false =>
   rw [cond_false]
   cases dec (x=n) with
   | true=>simp only [cond_true,zZ]; omega
   | false=>simp only [cond_false,zZ]; omega
theorem I3:∀ (ns l:List ByteArray),(IT l ns).length≤l.length+ns.length
 | [],l=>by simp [IT]
 | n :: ns,l=>by
  have h:=I3 ns (Kr l n)
  have h2:=Qs l n
  simp only [IT,zS,zZ] at h ⊢
  omega
theorem Ks:∀ {ns l:List ByteArray} {m:ByteArray},m∈IT l ns ↔ m∈l∨m∈ns
 | [],l,m=>by simp [IT]
 | n :: ns,l,m=>by
  have h:=Ks (ns:=ns) (l:=Kr l n) (m:=m)
  simp only [IT,zS] at h ⊢
  rw [h,Nb]
  simp only [zO]
  exact or_assoc
theorem Su:∀ x y:List UInt8,Op.bytesLess x y=true ↔ x<y
 | [],[]=>by simp [Op.bytesLess]
 | [],b :: y=>by simp [Op.bytesLess]
 | a :: x,[]=>by simp [Op.bytesLess]
 | a :: x,b :: y=>by
  have h:=Su x y
  rw [List.cons_lt_cons_iff,← h]
  simp only [Op.bytesLess,zX,decide_eq_true_eq,zB,beq_iff_eq]
theorem UT (a b:ByteArray):strLt a b=true ↔ a.toList<b.toList:=Su _ _
theorem Ox (n:ByteArray):∀ xs:List ByteArray,xs.Pairwise (fun x y=>strLt x y=true)→(Kr xs n).Pairwise fun x y=>strLt x y=true
 | [],_=>by simp [Kr]
 | x :: xs,h=>by
  rw [Kr]
  rw [zU] at h
  cases hq:strLt x n with
  | true =>
   rw [cond_true,zU]
   refine ⟨fun y hy=>?_,Ox n xs h.2⟩
   rcases Nb.1 hy with hy | rfl
   ·exact h.1 y hy
   ·exact hq
  | false =>
   rw [cond_false]
   by_cases he:x=n
   ·rw [A1 he,cond_true,zU]; exact h
   ·rw [Aj he,cond_false,zU,zU]
    have hn:strLt n x=true:=by
     cases hh:strLt n x with
     | true=>rfl
     | false=>exact absurd (Is hq hh) he
    refine ⟨fun y hy=>?_,h⟩
    rcases zO.1 hy with rfl | hy
    ·exact hn
    ·exact It hn (h.1 y hy)
theorem Oy:∀ (ns xs:List ByteArray),xs.Pairwise (fun x y=>strLt x y=true)→(IT xs ns).Pairwise fun x y=>strLt x y=true
 | [],xs,h=>h
 | n :: ns,xs,h=>Oy ns (Kr xs n) (Ox n xs h)
theorem R2 {xs:List ByteArray} (h:xs.Pairwise fun x y=>strLt x y=true):xs.Nodup :=
 h.imp fun {a b} hab e=>by rw [e,MC] at hab; cases hab
theorem Tz (l:List ByteArray):(Pg l).Pairwise fun x y=>strLt y x=false:=by
 unfold Pg srt
 rw [List.pairwise_map]
 have h:=List.pairwise_mergeSort (le:=fun x y:List UInt8=>decide (x≤y)) (fun a b c h k=>by
  rw [decide_eq_true_eq] at h k ⊢; exact List.le_trans h k) (fun a b=>by
  rw [zX,decide_eq_true_eq,decide_eq_true_eq]; exact List.le_total a b) (l.map (·.toList))
 refine h.imp fun {a b} hab=>?_
 rw [decide_eq_true_eq] at hab
 rw [Bool.eq_false_iff]
 intro hh
 have:=(UT _ _).1 hh
 rw [ByteArray.toList_eq,ByteArray.toList_eq] at this
 exact absurd this (List.not_lt.2 hab)
theorem Oz (ns:List ByteArray):Pg (CK [] ns)=IT [] ns:=by
 have h1:=Oy ns [] List.Pairwise.nil
 have n1:=R2 h1
 have n2:(CK [] ns).Nodup:=MY List.nodup_nil
 have hp:(Pg (CK [] ns)).Perm (IT [] ns):=(Ty _).trans ((List.perm_ext_iff_of_nodup n2 n1).2 fun a=>by rw [Qr,Ks])
 refine List.Perm.eq_of_pairwise (le:=fun x y=>strLt y x=false) (fun a b _ _ h k=>Is k h) (Tz _) (h1.imp fun h=>Lp h) hp
theorem Fm.Qt (x:Fm) (b:List ByteArray):x.fv b=bif dec (x.op=3) then (IT [] x.atom.vs).filter (fun n=>!dec (n∈b)) else Fm.fvL x.parts (bif qB x.op then b++[x.var] else b):=by
 obtain ⟨op,atom,var,parts⟩:=x
 rw [Fm.fv]; rfl
theorem Fm.HC {m:ByteArray} {b:List ByteArray}:∀ {xs:List Fm},m∈Fm.fvL xs b ↔ ∃ x∈xs,m∈x.fv b
 | []=>by simp [Fm.fvL]
 | x :: xs=>by rw [Fm.fvL,List.mem_append,Fm.HC (xs:=xs)]; simp
theorem Fm.Nc (m:ByteArray) (x:Fm):∀ b:List ByteArray,m∈x.fv b ↔ m∈x.fv []∧¬ m∈b:=by
 intro b
 rw [Fm.Qt,Fm.Qt]
 cases dec (x.op=3) with
 | true =>
  simp only [cond_true,List.mem_filter]
  have e:(!dec (m∈([]:List ByteArray)))=true:=by rw [Aj (by simp)]; rfl
  rw [e]
  constructor
  ·rintro ⟨h1,h2⟩
   refine ⟨⟨h1,rfl⟩,fun h=>?_⟩
   rw [A1 h] at h2
   cases h2
  ·rintro ⟨⟨h1,_⟩,h2⟩
   exact ⟨h1,by rw [Aj h2]; rfl⟩
 | false =>
  simp only [cond_false]
  have key:∀ c c0:List ByteArray,(∀ k,k∈c ↔ k∈c0∨k∈b)→(m∈Fm.fvL x.parts c ↔ m∈Fm.fvL x.parts c0∧¬ m∈b):=fun c c0 hc=>by
   rw [Fm.HC,Fm.HC]
   constructor
   ·rintro ⟨y,hy,h⟩
    have h1:=(Fm.Nc m y c).1 h
    exact ⟨⟨y,hy,(Fm.Nc m y c0).2 ⟨h1.1,fun h2=>h1.2 ((hc m).2 (.inl h2))⟩⟩,fun h2=>h1.2 ((hc m).2 (.inr h2))⟩
   ·rintro ⟨⟨y,hy,h⟩,h2⟩
    have h1:=(Fm.Nc m y c0).1 h
    exact ⟨y,hy,(Fm.Nc m y c).2 ⟨h1.1,fun h3=>((hc m).1 h3).elim h1.2 h2⟩⟩
  cases qB x.op with
  | true=>exact key _ _ fun k=>by simp [or_comm]
  | false=>exact key _ _ fun k=>by simp
termination_by SizeOf.sizeOf x
decreasing_by all_goals exact Fm.lt_of_mem hy
theorem Fm.Sv (b:List ByteArray):∀ xs:List Fm,(∀ x∈xs,(x.fv b).length≤x.vn)→(Fm.fvL xs b).length≤Fm.vnS xs
 | [],_=>by simp [Fm.fvL]
 | x :: xs,h=>by
  have h1:=h x (by simp)
  have h2:=Fm.Sv b xs fun y hy=>h y (by simp [hy])
  rw [Fm.fvL,Fm.vnS,List.length_append]; omega
theorem Fm.KL (x:Fm):∀ b:List ByteArray,(x.fv b).length≤x.vn:=by
 intro b
 rw [Fm.Qt,Fm.MS]
 cases dec (x.op=3) with
 | true =>
  simp only [cond_true]
  have h1:=List.length_filter_le (fun n=>!dec (n∈b)) (IT [] x.atom.vs)
  have h2:=I3 x.atom.vs []
  have h3:=Tm.MX x.atom
  simp only [zT] at h2
  omega
 | false =>
  simp only [cond_false]
  have h:=Fm.Sv (bif qB x.op then b++[x.var] else b) x.parts fun y hy=>Fm.KL y _
  omega
termination_by SizeOf.sizeOf x
decreasing_by exact Fm.lt_of_mem hy
theorem Fm.UU:∀ xs:List Fm,(∀ x∈xs,x.vn≤30*x.nodes)→Fm.vnS xs≤30*Fm.nodeS xs
 | [],_=>by simp [Fm.vnS]
 | x :: xs,h=>by
  have h1:=h x (by simp)
  have h2:=Fm.UU xs fun y hy=>h y (by simp [hy])
  rw [Fm.vnS,Fm.nodeS]; omega
theorem Fm.UV (x:Fm) (h:x.forms=true):x.vn≤30*x.nodes:=by
 have h1:=Fm.UU x.parts fun y hy=>Fm.UV y (Fm.CY h hy)
 have h2:=Fm.Sp (Fm.DT h)
 rw [Fm.MS,Fm.nodes_eq]; omega
termination_by SizeOf.sizeOf x
decreasing_by exact Fm.lt_of_mem hy
theorem Fm.Qu (x:Fm) (n:ByteArray):n∈x.free ↔ n∈x.fv []:=by unfold Fm.free; rw [Ks]; simp
theorem Fm.O0 {x:Fm} (h:x.form=true) (ho:x.op=1∨x.op=2):x=.mk x.op Tm.zero ⟨#[]⟩ []:=by
 have ha:=Fm.Gm h (by omega)
 unfold Fm.form at h
 rw [if_pos ho,zB,zB] at h
 have hl:x.parts.length=0:=by simpa using h.1.1
 have hp:x.parts=[]:=zW hl
 have hv:x.var=⟨#[]⟩:=Av.1 h.2
 obtain ⟨op,atom,var,parts⟩:=x
 change atom=_ at ha
 change parts=_ at hp
 change var=_ at hv
 subst ha hp hv; rfl
theorem Fm.I4 {x:Fm} (h:x.form=true) (ho:x.op=4):∃ p,x=.mk 4 Tm.zero ⟨#[]⟩ [p]:=by
 have ha:=Fm.Gm h (by omega)
 unfold Fm.form at h
 rw [if_neg (by omega),if_neg (by omega),if_pos ho,zB,zB] at h
 have hl:x.parts.length=1:=by simpa using h.1.1
 have hv:x.var=⟨#[]⟩:=Av.1 h.2
 obtain ⟨op,atom,var,parts⟩:=x
 change atom=_ at ha
 change parts.length=_ at hl
 change var=_ at hv
 change op=_ at ho
 subst ha hv ho
 match parts,hl with
 | [p],_=>exact ⟨p,rfl⟩
theorem Fm.EK {x:Fm} (h:x.form=true) (ho:x.op=5∨x.op=6∨x.op=7):∃ p q,x=.mk x.op Tm.zero ⟨#[]⟩ [p,q]:=by
 have ha:=Fm.Gm h (by omega)
 unfold Fm.form at h
 rw [if_neg (by omega),if_neg (by omega),if_neg (by omega),if_pos ho,zB,zB] at h
 have hl:x.parts.length=2:=by simpa using h.1.1
 have hv:x.var=⟨#[]⟩:=Av.1 h.2
 obtain ⟨op,atom,var,parts⟩:=x
 change atom=_ at ha
 change parts.length=_ at hl
 change var=_ at hv
 subst ha hv
 match parts,hl with
 | [p,q],_=>exact ⟨p,q,rfl⟩
theorem Fm.JC {x:Fm} (h:x.form=true) (ho:x.op=8∨x.op=9):∃ p,x=.mk x.op Tm.zero x.var [p]:=by
 have ha:=Fm.Gm h (by omega)
 obtain ⟨_,p,hp⟩:=Fm.Rz h (by unfold qB; rw [zX,Av,Av]; exact ho)
 obtain ⟨op,atom,var,parts⟩:=x
 change atom=_ at ha
 change parts=_ at hp
 subst ha hp
 exact ⟨p,rfl⟩
theorem Fm.I5 {x:Fm} (h:x.form=true):x.op=1∨x.op=2∨x.op=3∨x.op=4∨x.op=5∨x.op=6∨x.op=7∨x.op=8∨x.op=9:=by
 rcases MR x.op with h1 | h1 | h1 | h1 | h1 | h1 | h1 | h1 | h1 | h1 <;> try omega
 unfold Fm.form at h
 rw [if_neg (by omega),if_neg (by omega),if_neg (by omega),if_neg (by omega),if_neg (by omega)] at h
 cases h
noncomputable def O1 (p:EL):MF:=p.foldl (fun m e=>JJ m e.1 e.2) nomap
theorem R4 (p:EL) (k:MK) (x:MV):O1 (p++[(k,x)])=JJ (O1 p) k x:=by unfold O1; rw [List.foldl_append]; rfl
theorem UW {f:MF} {p:EL} (h:Enum f p):O1 p=f:=by
 have key:∀ (p:EL) (m0:MF) (k:MK),(p.map (·.1)).Nodup→p.foldl (fun m e=>JJ m e.1 e.2) m0 k=match p.find? (fun e=>dec (e.1=k)) with | some e=>some e.2 | none=>m0 k:=by
  intro p
  induction p with
  | nil=>intro m0 k _; rfl
  | cons e p ih =>
   intro m0 k hn
   rw [zK,List.nodup_cons] at hn
   rw [zS,ih _ _ hn.2,z8]
   by_cases he:e.1=k
   ·rw [A1 he]
    have:p.find? (fun e=>dec (e.1=k))=none:=by
     rw [yD]
     intro e' he' hd
     rw [Av] at hd
     exact hn.1 (yB.2 ⟨e',he',by rw [hd,he]⟩)
    rw [this]
    simp only
    rw [←he,GO]
   ·rw [Aj he]
    simp only
    cases p.find? (fun e=>dec (e.1=k)) with
    | some e'=>rfl
    | none=>simp only; rw [Gu fun h=>he h.symm]
 funext k
 unfold O1
 rw [key p nomap k h.nd]
 cases hf:p.find? (fun e=>dec (e.1=k)) with
 | some e =>
  have h1:=List.mem_of_find?_eq_some hf
  have h2:=List.find?_some hf
  rw [Av] at h2
  subst h2
  exact ((h.mem e.1 e.2).1 h1).symm
 | none =>
  simp only
  cases hk:f k with
  | none=>rfl
  | some x =>
   have h1:=(h.mem k x).2 hk
   rw [yD] at hf
   exact absurd (A1 rfl) (hf _ h1)
theorem HD {ts:List Tl} {n:ByteArray} {k:Int} {p:Bool} {a:Option Int}:(Dk ts n k p a).isSome=((Kl ts n k p).isSome&&a.isSome):=by
 unfold Dk
 cases Kl ts n k p <;> cases a <;> rfl
theorem Nd {m:Ip} {e e':Env}:∀ {xs:List Tm} {i j:Int},(∀ x∈xs,(x.val m e).isSome=(x.val m e').isSome)→(Tm.De m e xs i).isSome=(Tm.De m e' xs j).isSome
 | [],i,j,_=>by rw [Tm.De,Tm.De]; rfl
 | x :: xs,i,j,h=>by
  have hx:=h x (by simp)
  rw [Tm.De,Tm.De]
  cases h1:x.val m e with
  | none =>
   rw [h1] at hx
   cases h2:x.val m e' with
   | none=>rfl
   | some v=>rw [h2] at hx; cases hx
  | some u =>
   rw [h1] at hx
   cases h2:x.val m e' with
   | none=>rw [h2] at hx; cases hx
   | some v=>exact Nd fun y hy=>h y (by simp [hy])
theorem Sw {m:Ip} {e e':Env} (h:∀ s,(e s).isSome=(e' s).isSome) (x:Tm):(x.val m e).isSome=(x.val m e').isSome:=by
 have ih:∀ y∈x.args,(y.val m e).isSome=(y.val m e').isSome:=fun y hy=>Sw h y
 rw [Tm.J9,Tm.J9]
 cases Cj x.name with
 | true=>exact h _
 | false=>rw [cond_false,cond_false,HD,HD,Nd ih]
termination_by SizeOf.sizeOf x
decreasing_by exact Tm.lt_of_mem hy
theorem WA {m:Ip} {e e':Env} (h:∀ s,(e s).isSome=(e' s).isSome) (x:Tm):(x.tru m e).isSome=(x.tru m e').isSome:=by
 have hv:=Nd (m:=m) (xs:=x.args) (i:=0) (j:=0) fun y _=>Sw h y
 unfold Tm.tru
 cases x.eqn with
 | true =>
  simp only [if_true]
  cases h1:Tm.De m e x.args 0 with
  | none =>
   rw [h1] at hv
   cases h2:Tm.De m e' x.args 0 with
   | none=>rfl
   | some v=>rw [h2] at hv; cases hv
  | some u =>
   rw [h1] at hv
   cases h2:Tm.De m e' x.args 0 with
   | none=>rw [h2] at hv; cases hv
   | some v=>rfl
 | false =>
  simp only [yC,if_false]
  rw [HD,HD,hv]
theorem KM {m:Ip} {e e':Env}:∀ {xs:List Tm} {i:Int},(∀ x∈xs,x.val m e=x.val m e')→Tm.De m e xs i=Tm.De m e' xs i
 | [],i,_=>by rw [Tm.De,Tm.De]
 | x :: xs,i,h=>by
  rw [Tm.De,Tm.De,h x (by simp)]
  cases x.val m e' with
  | none=>rfl
  | some v=>exact KM fun y hy=>h y (by simp [hy])
theorem Qv {m:Ip} {e e':Env} (x:Tm) (h:∀ s∈x.vs,e s=e' s):x.val m e=x.val m e':=by
 rw [Tm.Sq] at h
 rw [Tm.J9,Tm.J9]
 cases hb:Cj x.name with
 | true =>
  rw [hb,cond_true] at h
  exact h _ (by simp)
 | false =>
  rw [hb,cond_false] at h
  rw [cond_false,cond_false,KM fun y hy=>Qv y fun s hs=>h s (Tm.Pf.2 ⟨y,hy,hs⟩)]
termination_by SizeOf.sizeOf x
decreasing_by exact Tm.lt_of_mem hy
theorem UX {m:Ip} {e e':Env} {x:Tm} (hv:Cj x.name=false) (h:∀ s∈x.vs,e s=e' s):x.tru m e=x.tru m e':=by
 rw [Tm.Sq,hv,cond_false] at h
 unfold Tm.tru
 rw [KM fun y hy=>Qv y fun s hs=>h s (Tm.Pf.2 ⟨y,hy,hs⟩)]
theorem UY {m:Ip} {e:Env} (hm:m.ok=true) (he:InE m.size e) (a b:Tm):(match Tm.De m e [a,b] 0 with
  | some i=>some (bif dec (i.tmod m.size=i.tdiv m.size) then (1:Int) else 0)
  | none=>none)=match a.val m e,b.val m e with
  | some u,some v=>some (bif dec (u=v) then 1 else 0)
  | _,_=>none:=by
 obtain ⟨⟨h1,_⟩,_⟩:=Ip.D4 hm
 rw [Tm.De]
 cases ha:a.val m e with
 | none=>rfl
 | some u =>
  simp only [Tm.De]
  cases hb:b.val m e with
  | none=>rfl
  | some v =>
   obtain ⟨u0,u1⟩:=Tm.KF hm he a u ha
   obtain ⟨v0,v1⟩:=Tm.KF hm he b v hb
   simp only [Int.zero_mul,Int.zero_add]
   have e1:(u*m.size+v).tmod m.size=v:=by
    rw [Int.tmod_eq_emod_of_nonneg (by have:=yH u0 (show 0≤m.size by omega); omega),Int.add_comm,Int.add_mul_emod_self_right]
    exact Int.emod_eq_of_lt v0 v1
   have e2:(u*m.size+v).tdiv m.size=u:=by
    rw [Int.tdiv_eq_ediv_of_nonneg (by have:=yH u0 (show 0≤m.size by omega); omega),Int.add_comm,Int.add_mul_ediv_right _ _ (by omega),Int.ediv_eq_zero_of_lt v0 v1]
    omega
   rw [e1,e2]
   have e3:(v=u)=(u=v):=propext ⟨Eq.symm,Eq.symm⟩
   rw [e3]
abbrev TF:=Env→Option Bool
noncomputable def conn (op:Int) (a b:Bool):Bool:=bif dec (op=5) then a&&b else bif dec (op=6) then a || b else !a || b
def CA (p:Int→Option Bool):Nat→Option (Bool × Bool)
 | 0=>some (true,false)
 | k+1=>match CA p k,p k with
  | some (a,s),some v=>some (a&&v,s || v)
  | _,_=>none
noncomputable def Qw (op:Int):Option (Bool × Bool)→Option Bool
 | some (a,s)=>some (bif dec (op=8) then a else s)
 | none=>none
noncomputable def two (op:Int):Option Bool→Option Bool→Option Bool
 | some a,some b=>some (conn op a b)
 | _,_=>none
noncomputable def trF (m:Ip) (op:Int) (atom:Tm) (var:ByteArray) (ps:List TF) (e:Env):Option Bool :=
 bif dec (op=1) then some true else bif dec (op=2) then some false
 else bif dec (op=3) then (atom.tru m e).map fun n=>dec (n=1)
 else bif qB op then Qw op (CA (fun x=>ps.getD 0 (fun _=>none) (Cx e var x)) m.size.toNat)
 else bif dec (op=4) then (ps.getD 0 (fun _=>none) e).map (fun b=>!b)
 else two op (ps.getD 0 (fun _=>none) e) (ps.getD 1 (fun _=>none) e)
mutual
noncomputable def Fm.tr (m:Ip):Fm→TF
 | .mk op atom var parts=>trF m op atom var (Fm.trL m parts)
noncomputable def Fm.trL (m:Ip):List Fm→List TF
 | []=>[]
 | x :: xs=>Fm.tr m x :: Fm.trL m xs
end
theorem Fm.Sx (m:Ip):∀ xs:List Fm,Fm.trL m xs=xs.map (Fm.tr m)
 | []=>by rw [Fm.trL]; rfl
 | x :: xs=>by rw [Fm.trL,Fm.Sx m xs]; rfl
theorem Fm.Lr (m:Ip) (x:Fm) (e:Env):x.tr m e=trF m x.op x.atom x.var (x.parts.map (Fm.tr m)) e:=by
 obtain ⟨op,atom,var,parts⟩:=x
 rw [Fm.tr,Fm.Sx]; rfl
section
variable {m:Ip} {x p q:Fm} {e:Env}
theorem Fm.HE (h:x.op=3):x.tr m e=(x.atom.tru m e).map fun n=>dec (n=1):=by
 rw [Fm.Lr]; unfold trF
 rw [Aj (by omega),Aj (by omega),A1 h]; rfl
theorem Fm.Qx (h:x.op=8∨x.op=9) (hp:x.parts=[p]):x.tr m e=Qw x.op (CA (fun k=>p.tr m (Cx e x.var k)) m.size.toNat):=by
 have hq:qB x.op=true:=by unfold qB; rcases h with h | h <;> rw [h,A1 rfl] <;> simp
 rw [Fm.Lr]; unfold trF
 rw [Aj (by omega),Aj (by omega),Aj (by omega),hq,hp]; rfl
theorem Fm.JD (h:x.op=4) (hp:x.parts=[p]):x.tr m e=(p.tr m e).map fun b=>!b:=by
 have hq:qB x.op=false:=by unfold qB; rw [Aj (by omega),Aj (by omega)]; rfl
 rw [Fm.Lr]; unfold trF
 rw [Aj (by omega),Aj (by omega),Aj (by omega),hq,A1 h,hp]; rfl
theorem Fm.Gn (h:x.op=5∨x.op=6∨x.op=7) (hp:x.parts=[p,q]):x.tr m e=two x.op (p.tr m e) (q.tr m e):=by
 have hq:qB x.op=false:=by unfold qB; rw [Aj (by omega),Aj (by omega)]; rfl
 rw [Fm.Lr]; unfold trF
 rw [Aj (by omega),Aj (by omega),Aj (by omega),hq,Aj (by omega),hp]; rfl
theorem Fm.R5 (h:x.op=1):x.tr m e=some true:=by rw [Fm.Lr]; unfold trF; rw [A1 h]; rfl
theorem Fm.R6 (h:x.op=2):x.tr m e=some false:=by rw [Fm.Lr]; unfold trF; rw [Aj (by omega),A1 h]; rfl
end
theorem Gp {p:Int→Option Bool}:∀ {n:Nat},(CA p n).isSome=true ↔ ∀ k:Nat,k<n→(p k).isSome=true
 | 0=>by simp [CA]
 | n+1=>by
  have ih:=Gp (p:=p) (n:=n)
  rw [CA]
  constructor
  ·intro h k hk
   cases h1:CA p n with
   | none=>rw [h1] at h; cases h
   | some v =>
    rw [h1] at h ih
    cases h2:p n with
    | none=>rw [h2] at h; cases h
    | some b =>
     rcases zD k n with h3 | h3
     ·exact ih.1 rfl k h3
     ·obtain rfl:k=n:=by omega
      rw [h2]; rfl
  ·intro h
   have h1:=ih.2 fun k hk=>h k (by omega)
   have h2:=h n (by omega)
   cases h3:CA p n with
   | none=>rw [h3] at h1; cases h1
   | some v =>
    cases h4:p n with
    | none=>rw [h4] at h2; cases h2
    | some b=>rfl
theorem KN {op:Int} {r:Option (Bool × Bool)}:(Qw op r).isSome=r.isSome:=by cases r <;> rfl
theorem Nf {op:Int} {a b:Option Bool}:(two op a b).isSome=(a.isSome&&b.isSome):=by cases a <;> cases b <;> rfl
theorem Qy {e e':Env} (h:∀ s,(e s).isSome=(e' s).isSome) (v:ByteArray) (k j:Int):∀ s,(Cx e v k s).isSome=(Cx e' v j s).isSome:=by
 intro s
 unfold Cx
 cases dec (s=v) with
 | true=>rfl
 | false=>exact h s
theorem Fm.UZ {m:Ip} (x:Fm) (hx:x.forms=true):∀ {e e':Env},(∀ s,(e s).isSome=(e' s).isSome)→(x.tr m e).isSome=(x.tr m e').isSome:=by
 intro e e' h
 have hf:=Fm.DT hx
 have ih:∀ y∈x.parts,∀ {e e':Env},(∀ s,(e s).isSome=(e' s).isSome)→(y.tr m e).isSome=(y.tr m e').isSome:=fun y hy _ _ h=>Fm.UZ y (Fm.CY hx hy) h
 rcases Fm.I5 hf with ho | ho | ho | ho | ho | ho | ho | ho | ho
 ·rw [Fm.R5 ho,Fm.R5 ho]
 ·rw [Fm.R6 ho,Fm.R6 ho]
 ·rw [Fm.HE ho,Fm.HE ho,zV,zV]
  exact WA h _
 ·obtain ⟨p,hp⟩:=Fm.I4 hf ho
  have hp:x.parts=[p]:=by rw [hp]; rfl
  rw [Fm.JD ho hp,Fm.JD ho hp,zV,zV]
  exact ih p (by simp [hp]) h
 all_goals try
  obtain ⟨p,q,hp⟩:=Fm.EK hf (by omega)
  have hp:x.parts=[p,q]:=by rw [hp]; rfl
  rw [Fm.Gn (by omega) hp,Fm.Gn (by omega) hp,Nf,Nf,ih p (by simp [hp]) h,ih q (by simp [hp]) h]
  done
 all_goals
  obtain ⟨p,hp⟩:=Fm.JC hf (by omega)
  have hp:x.parts=[p]:=by rw [hp]; rfl
  rw [Fm.Qx (by omega) hp,Fm.Qx (by omega) hp,KN,KN,Bool.eq_iff_iff,Gp,Gp]
  have hk:∀ k:Int,(p.tr m (Cx e x.var k)).isSome=(p.tr m (Cx e' x.var k)).isSome:=fun k=>ih p (by simp [hp]) (Qy h _ _ _)
  exact ⟨fun h k hk'=>by rw [←hk]; exact h k hk',fun h k hk'=>by rw [hk]; exact h k hk'⟩
termination_by SizeOf.sizeOf x
decreasing_by exact Fm.lt_of_mem hy
theorem Fm.XG {m:Ip} {x p:Fm} (hx:x.forms=true) (ho:x.op=8∨x.op=9) (hp:x.parts=[p]) (hs:1≤m.size) (e:Env):(x.tr m e).isSome=(p.tr m (Cx e x.var 0)).isSome:=by
 have hpf:=Fm.CY hx (y:=p) (by simp [hp])
 have hk:∀ k:Int,(p.tr m (Cx e x.var k)).isSome=(p.tr m (Cx e x.var 0)).isSome:=fun k=>Fm.UZ p hpf (Qy (fun _=>rfl) _ _ _)
 rw [Fm.Qx ho hp,KN,Bool.eq_iff_iff,Gp]
 exact ⟨fun h=>h 0 (by omega),fun h k _=>by rw [hk]; exact h⟩
theorem Fm.Sy {m:Ip} (x:Fm) (hx:x.forms=true):∀ {e e':Env},(∀ s∈x.fv [],e s=e' s)→x.tr m e=x.tr m e':=by
 intro e e' h
 have hf:=Fm.DT hx
 have ih:∀ y∈x.parts,∀ {e e':Env},(∀ s∈y.fv [],e s=e' s)→y.tr m e=y.tr m e':=fun y hy _ _ h=>Fm.Sy y (Fm.CY hx hy) h
 rw [Fm.Qt] at h
 rcases Fm.I5 hf with ho | ho | ho | ho | ho | ho | ho | ho | ho
 ·rw [Fm.R5 ho,Fm.R5 ho]
 ·rw [Fm.R6 ho,Fm.R6 ho]
 ·rw [A1 ho,cond_true] at h
  rw [Fm.HE ho,Fm.HE ho]
  have ha:=(Fm.FO hf ho).2.1
  have hvn:Cj x.atom.name=false:=by
   cases hv:Cj x.atom.name with
   | false=>rfl
   | true =>
    unfold Tm.atom at ha
    cases he:x.atom.eqn with
    | true=>exact absurd hv (by rw [Tm.Si he]; decide)
    | false =>
     rw [he,if_neg (by simp),zB] at ha
     rw [Ov hv] at ha; cases ha.1
  rw [UX hvn fun s hs=>h s (by
   rw [List.mem_filter,Ks]
   exact ⟨.inr hs,by rw [Aj (by simp)]; rfl⟩)]
 all_goals rw [Aj (by omega),cond_false] at h
 ·obtain ⟨p,hp⟩:=Fm.I4 hf ho
  have hp:x.parts=[p]:=by rw [hp]; rfl
  have hq:qB x.op=false:=by unfold qB; rw [Aj (by omega),Aj (by omega)]; rfl
  rw [hq,cond_false] at h
  rw [Fm.JD ho hp,Fm.JD ho hp,ih p (by simp [hp]) fun s hs=>h s (Fm.HC.2 ⟨p,by simp [hp],hs⟩)]
 all_goals try
  obtain ⟨p,q,hp⟩:=Fm.EK hf (by omega)
  have hp:x.parts=[p,q]:=by rw [hp]; rfl
  have hq:qB x.op=false:=by unfold qB; rw [Aj (by omega),Aj (by omega)]; rfl
  rw [hq,cond_false] at h
  rw [Fm.Gn (by omega) hp,Fm.Gn (by omega) hp,ih p (by simp [hp]) fun s hs=>h s (Fm.HC.2 ⟨p,by simp [hp],hs⟩),ih q (by simp [hp]) fun s hs=>h s (Fm.HC.2 ⟨q,by simp [hp],hs⟩)]
  done
 all_goals
  obtain ⟨p,hp⟩:=Fm.JC hf (by omega)
  have hp:x.parts=[p]:=by rw [hp]; rfl
  have hq:qB x.op=true:=by unfold qB; rw [ho]; simp [A1]
  rw [hq,cond_true] at h
  rw [Fm.Qx (by omega) hp,Fm.Qx (by omega) hp]
  have hk:(fun k:Int=>p.tr m (Cx e x.var k))=fun k=>p.tr m (Cx e' x.var k):=by
   funext k
   refine ih p (by simp [hp]) fun s hs=>?_
   unfold Cx
   by_cases hsv:s=x.var
   ·rw [A1 hsv]; rfl
   ·rw [Aj hsv]
    exact h s (Fm.HC.2 ⟨p,by simp [hp],(Fm.Nc s p _).2 ⟨hs,by simpa using hsv⟩⟩)
  rw [hk]
termination_by SizeOf.sizeOf x
decreasing_by exact Fm.lt_of_mem hy
theorem Fm.Sz {m:Ip} {p:Fm} (hp:p.forms=true) {n:ByteArray} (hn:¬ n∈p.fv []) (e:Env) (k j:Int):p.tr m (Cx e n k)=p.tr m (Cx e n j) :=
 Fm.Sy p hp fun s hs=>by
  unfold Cx
  rw [Aj fun h:s=n=>hn (h▸hs)]; rfl
theorem Ng {p:Int→Option Bool}:∀ {n:Nat} {a s:Bool},CA p n=some (a,s)→∀ k:Nat,k<n→∃ v,p k=some v∧(v=false→a=false)∧(v=true→s=true)
 | 0,_,_,_,k,hk=>by omega
 | n+1,a,s,h,k,hk=>by
  rw [CA] at h
  cases h1:CA p n with
  | none=>rw [h1] at h; cases h
  | some t =>
   obtain ⟨a1,s1⟩:=t
   rw [h1] at h
   cases h2:p n with
   | none=>rw [h2] at h; cases h
   | some b =>
    rw [h2] at h
    simp only [zY,z6] at h
    obtain ⟨rfl,rfl⟩:=h
    rcases zD k n with h3 | h3
    ·obtain ⟨v,g1,g2,g3⟩:=Ng h1 k h3
     exact ⟨v,g1,fun e=>by rw [g2 e]; rfl,fun e=>by rw [g3 e]; rfl⟩
    ·obtain rfl:k=n:=by omega
     exact ⟨b,h2,fun e=>by rw [e,zJ],fun e=>by rw [e,Bool.or_true]⟩
theorem Hq {p:Int→Option Bool} {b:Bool}:∀ {n:Nat},(∀ k:Nat,k<n→p k=some b)→0<n→CA p n=some (b,b)
 | 0,_,h=>by omega
 | 1,h,_=>by
  have:=h 0 (by omega)
  simp only [CA]
  rw [this]
  cases b <;> rfl
 | n+2,h,_=>by
  rw [CA,Hq (n:=n+1) (fun k hk=>h k (by omega)) (by omega),h (n+1) (by omega)]
  cases b <;> rfl
def FinE (e:Env):Prop:=∃ l:List ByteArray,∀ s,e s≠none→s∈l
theorem FinE.put {e:Env} (h:FinE e) (s:ByteArray) (n:Int):FinE (Cx e s n):=by
 obtain ⟨l,hl⟩:=h
 refine ⟨s :: l,fun q hq=>?_⟩
 unfold Cx at hq
 by_cases he:q=s
 ·simp [he]
 ·rw [Aj he,cond_false] at hq
  simp [hl q hq]
theorem FinE.asg:∀ xs:List Ag,FinE (asg xs)
 | []=>⟨[],fun s h=>absurd rfl h⟩
 | x :: xs=>by
  obtain ⟨l,hl⟩:=FinE.asg xs
  refine ⟨x.var :: l,fun s hs=>?_⟩
  rw [Go.Proofs.YtoglfpfdhojaaaaGreat.asg] at hs
  by_cases he:x.var=s
  ·simp [he]
  ·rw [Aj he,cond_false] at hs
   simp [hl s hs]
theorem FinE.enum {e:Env} (h:FinE e):∃ L,Enum (Dj e) L:=by
 obtain ⟨l,hl⟩:=h
 have key:∀ l:List ByteArray,∃ L:EL,(L.map (·.1)).Nodup∧∀ k x,(k,x)∈L ↔ Dj e k=some x∧k∈l.map MK.str:=by
  intro l
  induction l with
  | nil=>exact ⟨[],by simp,fun k x=>by simp⟩
  | cons s l ih =>
   obtain ⟨L,h1,h2⟩:=ih
   cases hs:Dj e (.str s) with
   | none =>
    refine ⟨L,h1,fun k x=>?_⟩
    rw [h2]
    constructor
    ·rintro ⟨a,b⟩; exact ⟨a,by simp only [zK,zO]; exact .inr b⟩
    ·rintro ⟨a,b⟩
     rcases zO.1 b with rfl | b
     ·rw [hs] at a; cases a
     ·exact ⟨a,b⟩
   | some v =>
    by_cases hm:MK.str s∈l.map MK.str
    ·refine ⟨L,h1,fun k x=>?_⟩
     rw [h2]
     constructor
     ·rintro ⟨a,b⟩; exact ⟨a,by simp only [zK,zO]; exact .inr b⟩
     ·rintro ⟨a,b⟩
      rcases zO.1 b with rfl | b
      ·exact ⟨a,hm⟩
      ·exact ⟨a,b⟩
    ·refine ⟨(.str s,v) :: L,?_,fun k x=>?_⟩
     ·rw [zK,List.nodup_cons]
      refine ⟨fun hk=>?_,h1⟩
      obtain ⟨⟨k,x⟩,hk1,hk2⟩:=yB.1 hk
      have:=(h2 k x).1 hk1
      have hk2:k=.str s:=hk2
      rw [hk2] at this
      exact hm this.2
     ·rw [zO,h2]
      constructor
      ·rintro (hk | ⟨a,b⟩)
       ·obtain ⟨rfl,rfl⟩:=Prod.mk.inj hk
        exact ⟨hs,by simp⟩
       ·exact ⟨a,by simp only [zK,zO]; exact .inr b⟩
      ·rintro ⟨a,b⟩
       rcases zO.1 b with rfl | b
       ·rw [hs] at a
        exact .inl (by rw [zM a])
       ·exact .inr ⟨a,b⟩
 obtain ⟨L,h1,h2⟩:=key l
 refine ⟨L,h1,fun k x=>?_⟩
 rw [h2]
 constructor
 ·exact fun h=>h.1
 ·intro h
  refine ⟨h,?_⟩
  cases k with
  | int i=>cases h
  | str s =>
   refine yB.2 ⟨s,hl s fun hn=>?_,rfl⟩
   rw [Hh,hn] at h
   cases h
def By:SC:=(.seq (.reg [⟨some 3,none,.boxv 26 2 (.t 0)⟩,⟨some 4,none,.boxv 30 2 (.t 1)⟩,⟨some 6,none,.mv (.c (.bool false))⟩,⟨some 7,none,.mv (.c (.bool false))⟩]) (.seq (.seq (.reg [⟨some 14,none,.load true 2 (.t 4)⟩,⟨some 15,none,.call 88 [(.t 14)]⟩]) (.cond (.t 15) (.seq (.dreg [[],[],[1],[2,1],[3,2,1],[],[0,4,3,2,1,5],[6,0,4,3,2,1,5],[7,6,0,4,3,2,1,5],[7,6,0,4,3,2,1,5],[8,7,6,0,4,3,2,1,5],[9,7,6,0,4,3,2,1,5,10,8]] [⟨some 17,none,.load true 2 (.t 3)⟩,⟨some 18,none,.faddr 1 (.t 4)⟩,⟨some 19,none,.load false 1 (.t 18)⟩,⟨some 20,none,.iaddr 2 (.t 19) (.c (.int .i64 0))⟩,⟨some 21,none,.load true 2 (.t 20)⟩,⟨some 22,none,.mv (.t 2)⟩,⟨some 23,none,.call 89 [(.t 17),(.t 21),(.t 22)]⟩,⟨some 16,none,.mv (.t 23)⟩,⟨some 24,none,.ext (.t 16) 0⟩,⟨some 25,none,.ext (.t 16) 1⟩,⟨some 8,none,.mv (.t 24)⟩,⟨some 9,none,.mv (.t 25)⟩]) (.seq (.dreg [[],[],[1],[2,1],[3,2,1],[],[0,4,3,2,1,5],[6,0,4,3,2,1,5],[7,6,0,4,3,2,1,5],[7,6,0,4,3,2,1,5],[8,7,6,0,4,3,2,1,5],[9,7,6,0,4,3,2,1,5,10,8]] [⟨some 27,none,.load true 2 (.t 3)⟩,⟨some 28,none,.faddr 1 (.t 4)⟩,⟨some 29,none,.load false 1 (.t 28)⟩,⟨some 30,none,.iaddr 2 (.t 29) (.c (.int .i64 1))⟩,⟨some 31,none,.load true 2 (.t 30)⟩,⟨some 32,none,.mv (.t 2)⟩,⟨some 33,none,.call 89 [(.t 27),(.t 31),(.t 32)]⟩,⟨some 26,none,.mv (.t 33)⟩,⟨some 34,none,.ext (.t 26) 0⟩,⟨some 35,none,.ext (.t 26) 1⟩,⟨some 10,none,.mv (.t 34)⟩,⟨some 11,none,.mv (.t 35)⟩]) (.seq (.reg [⟨some 36,none,.mv (.t 8)⟩,⟨some 37,none,.mv (.t 10)⟩,⟨some 38,none,.bin .eql false (.t 36) (.t 37)⟩,⟨some 39,none,.mv (.t 9)⟩,⟨some 40,none,.mv (.t 39)⟩,⟨(some 41),(some (40,true)),(.mv (.t 11))⟩,⟨some 42,none,.pick (.t 40) (.t 41) (.c (.bool false))⟩,⟨some 6,none,.mv (.t 38)⟩,⟨some 7,none,.mv (.t 42)⟩]) .ret))) .skip)) (.seq (.reg [⟨some 44,none,.load true 2 (.t 3)⟩,⟨some 45,none,.load true 2 (.t 4)⟩,⟨some 46,none,.mv (.t 2)⟩,⟨some 47,none,.call 90 [(.t 44),(.t 45),(.t 46),(.c (.bool true))]⟩,⟨some 43,none,.mv (.t 47)⟩,⟨some 48,none,.ext (.t 43) 0⟩,⟨some 49,none,.ext (.t 43) 1⟩,⟨some 12,none,.mv (.t 48)⟩,⟨some 13,none,.mv (.t 49)⟩]) (.seq (.reg [⟨some 50,none,.mv (.t 12)⟩,⟨some 51,none,.bin .eql false (.t 50) (.c (.int .i64 1))⟩,⟨some 52,none,.mv (.t 13)⟩,⟨some 6,none,.mv (.t 51)⟩,⟨some 7,none,.mv (.t 52)⟩]) .ret))))
theorem BF:As Tryz.prog 53=some ⟨53,By,[(.tmp 6),(.tmp 7)]⟩:=by kernel_rfl
theorem A3:modes 53=⟨[],.asis,none,false⟩:=by unfold modes; rfl
def EQ:SC:=(.seq (.reg [⟨some 6,none,.mv (.c (.mp true nomap))⟩]) (.seq (.reg [⟨some 10,none,.mkmap true none⟩,⟨some 7,none,.mv (.t 10)⟩]) (.seq (.seq (.reg [⟨some 11,none,.mv (.t 0)⟩,⟨some 12,none,.mkit (.t 11)⟩]) (.block 0 (.mloop [0,1,1,0,0,0,0,1,0,0,0,0,1,0,0,0,0,0,0,0,0,0,0,0,0] [0,1,1,0,0,0,1,1,0,0,0,0,0,0,0,0,0,0,0,0,0,0,0,0,0] (.t 12) 13 14 (.seq (.cond (.t 14) .skip (.exit 0)) (.block 1 (.seq (.reg [⟨some 15,none,.mcur (.t 12)⟩,⟨some 16,none,.ext (.t 15) 0⟩,⟨some 17,none,.ext (.t 15) 1⟩,⟨some 8,none,.mv (.t 16)⟩,⟨some 9,none,.mv (.t 17)⟩]) (.reg [⟨some 18,none,.mv (.t 7)⟩,⟨some 19,none,.mv (.t 8)⟩,⟨some 20,none,.mv (.t 9)⟩,⟨none,none,(.mset true (.t 18) (.t 19) (.t 20))⟩]))))))) (.seq (.reg [⟨some 21,none,.mv (.t 7)⟩,⟨some 22,none,.mv (.t 1)⟩,⟨some 23,none,.mv (.t 2)⟩,⟨none,none,(.mset true (.t 21) (.t 22) (.t 23))⟩]) (.seq (.reg [⟨some 24,none,.mv (.t 7)⟩,⟨some 6,none,.mv (.t 24)⟩]) .ret)))))
theorem HQ:As Tryz.prog 55=some ⟨25,EQ,[(.tmp 6)]⟩:=by kernel_rfl
theorem Bb:modes 55=⟨[],.frz,none,false⟩:=by unfold modes; rfl
theorem Tm.Va {x:Tm} (hx:x.atom=true) (he:x.eqn=true):x.args.length=2:=by
 unfold Tm.atom at hx
 rw [he,if_pos rfl,zB,zB] at hx
 simpa using hx.1.1
theorem Vb {α:Type} {xs:List α} (h:xs.length=2):xs=[xs[0],xs[1]]:=by
 match xs,h with
 | [a,b],_=>rfl
theorem Tm.WB {m:Ip} (hm:m.ok=true) {e:Env} (he:InE m.size e) {x:Tm} (hx:x.eqn=true) (hl:x.args.length=2):x.tru m e=match x.args[0].val m e,x.args[1].val m e with
  | some u,some v=>some (bif dec (u=v) then 1 else 0)
  | _,_=>none:=by
 have key:=UY hm he x.args[0] x.args[1]
 rw [←Vb hl] at key
 unfold Tm.tru
 rw [hx,if_pos rfl]
 exact key
theorem S1 (m:Ip) (hm:m.ok=true) (ht:m.tame) (e:Env) (he:InE m.size e) (x:Tm) (hx:x.atom=true):∃ b,E 53 [m.sv,x.sv,.mp true (Dj e)] []=some (.tup [.bool b,.bool (x.tru m e).isSome],[])∧∀ n,x.tru m e=some n→b=dec (n=1):=by
 have h1:=H4 x
 have hnn:=Tm.H9 hx
 have hll:=Tm.length_le x.args
 have hnq:=Tm.nodes_eq x
 cases hq:x.eqn with
 | true =>
  rw [hq] at h1
  have hl:=Tm.Va hx hq
  have hg0:=get_at Tm.d (xs:=x.args) (k:=0) (by omega)
  have hg1:=get_at Tm.d (xs:=x.args) (k:=1) (by omega)
  rw [Tm.d_eq] at hg0 hg1
  have hc0:=LM m hm ht.1 (fun t h=>ht.2 t h) e he x.args[0] ((Tm.FP hx).2 _ (zI _)) (by have:=Tm.nodes_le x.args 0 (by omega); omega)
  have hc1:=LM m hm ht.1 (fun t h=>ht.2 t h) e he x.args[1] ((Tm.FP hx).2 _ (zI _)) (by have:=Tm.nodes_le x.args 1 (by omega); omega)
  rw [Tm.WB hm he hq hl]
  unfold VaC at hc0 hc1
  cases hv0:x.args[0].val m e with
  | none =>
   rw [hv0] at hc0
   cases hv1:x.args[1].val m e with
   | none =>
    rw [hv1] at hc1
    refine ⟨true,?_,fun n hn=>by cases hn⟩
    refine Al BF A3 (of_decide_eq_true rfl) ?_
    simp (disch:=omega) only [By,go_sem,Ab,h1,hg0,hg1,hc0,hc1,Bk,AH,zQ,zN,zP,zL]
   | some v =>
    rw [hv1] at hc1
    refine ⟨dec (0=v),?_,fun n hn=>by cases hn⟩
    refine Al BF A3 (of_decide_eq_true rfl) ?_
    simp (disch:=omega) only [By,go_sem,Ab,h1,hg0,hg1,hc0,hc1,Bk,AH,zQ,zN,zP,zL]
  | some u =>
   rw [hv0] at hc0
   cases hv1:x.args[1].val m e with
   | none =>
    rw [hv1] at hc1
    refine ⟨dec (u=0),?_,fun n hn=>by cases hn⟩
    refine Al BF A3 (of_decide_eq_true rfl) ?_
    simp (disch:=omega) only [By,go_sem,Ab,h1,hg0,hg1,hc0,hc1,Bk,AH,zQ,zN,zP,zL]
   | some v =>
    rw [hv1] at hc1
    refine ⟨dec (u=v),?_,fun n hn=>?_⟩
    ·refine Al BF A3 (of_decide_eq_true rfl) ?_
     simp (disch:=omega) only [By,go_sem,Ab,h1,hg0,hg1,hc0,hc1,Bk,AH,zQ,zN,zP,zL]
    ·obtain rfl:=zM hn
     cases dec (u=v) with
     | true=>exact (A1 rfl).symm
     | false=>exact (Aj (by simp)).symm
 | false =>
  rw [hq] at h1
  have hc:=Ot m hm ht.1 (fun t h=>ht.2 t h) e he x (by omega) true fun y hy=>LM m hm ht.1 (fun t h=>ht.2 t h) e he y ((Tm.FP hx).2 _ hy) (by have:=Tm.nodes_mem hy; omega)
  have htr:x.tru m e=Dk m.tables x.name x.args.length true (Tm.De m e x.args 0):=by unfold Tm.tru; rw [hq,if_neg (by simp)]
  rw [htr]
  generalize Dk m.tables x.name x.args.length true (Tm.De m e x.args 0)=r at *
  refine ⟨dec (r.getD 0=1),?_,fun n hn=>by rw [hn]; rfl⟩
  refine Al BF A3 (of_decide_eq_true rfl) ?_
  simp (disch:=omega) only [By,go_sem,Ab,h1,hc,Bk,BX]
theorem R7 (e:Env) (hf:FinE e) (n:ByteArray) (k:Int):E 55 [.mp true (Dj e),.str n,.int .i64 k] []=some (.mp true (Dj (Cx e n k)),[]):=by
 refine Al HQ Bb (of_decide_eq_true rfl) ?_
 simp (disch:=omega) only [EQ,go_sem,Ab]
 refine U5 (Dj e) hf.enum (.exit 0,⟨slots 25 0 [(1,.str n),(2,.int .i64 k),(7,.ref 0)],[.mp true (Dj e)]⟩) (by simp (disch:=omega) only [go_sem,Ab,Ki]) (fun p=>⟨slots 25 0 [(1,.str n),(2,.int .i64 k),(7,.ref 0),(12,.ptr 1 0)],[.mp true (O1 p),.it true (Dj e) (p.map (·.1)).reverse p.getLast?]⟩) 1 true (by simp (disch:=omega) only [go_sem,Ab]; exact ⟨rfl,rfl⟩) (fun p=>by simp (disch:=omega) only [go_sem,Ab]) (fun p q x _ _ hq _=>?_) (fun p hp=>?_)
 ·cases q with
  | int i=>cases hq
  | str s =>
   rw [Hh] at hq
   cases hs:e s with
   | none=>rw [hs] at hq; cases hq
   | some v =>
    rw [hs] at hq
    obtain rfl:=zM hq
    simp (disch:=omega) only [go_sem,Ab,R4,List.getLast?_append,yG,List.reverse_append]
    rfl
 ·simp (disch:=omega) only [go_sem,Ab,UW hp]
def Ji:SC:=(.seq (.reg [⟨some 1,none,.boxv 33 5 (.t 0)⟩,⟨some 2,none,.mv (.c (.int .i64 0))⟩]) (.seq (.reg [⟨some 3,none,.mv (.c (.int .i64 1))⟩]) (.seq (.seq (.reg [⟨some 6,none,.faddr 4 (.t 1)⟩,⟨some 7,none,.load false 1 (.t 6)⟩,⟨some 8,none,.len false (.t 7)⟩,⟨some 9,none,.mv (.c (.int .i64 0))⟩]) (.block 0 (.loop [0,0,0,1,0,0,0,1,1,1,0,0,0,0,0,0,0,0,0,0,0,0] (.seq (.reg [⟨some 10,none,.bin .lss false (.t 9) (.t 8)⟩]) (.seq (.cond (.t 10) .skip (.exit 0)) (.seq (.block 1 (.seq (.reg [⟨some 11,none,.iaddr 5 (.t 7) (.t 9)⟩,⟨some 12,none,.load true 5 (.t 11)⟩,⟨(some 5),none,(.alloc 33 [(.int .i64 0),(.str ⟨#[]⟩),.nil,(.str ⟨#[]⟩),.nil])⟩,⟨none,none,(.store 5 (.t 5) (.t 12))⟩]) (.seq (.seq (.reg [⟨some 13,none,.mv (.t 3)⟩,⟨some 14,none,.bin .gtr false (.t 13) (.c (.int .i64 40))⟩]) (.cond (.t 14) (.seq (.reg [⟨some 15,none,.mv (.t 3)⟩,⟨some 2,none,.mv (.t 15)⟩]) .ret) .skip)) (.reg [⟨some 16,none,.mv (.t 3)⟩,⟨some 17,none,.load true 5 (.t 5)⟩,⟨some 18,none,.call 51 [(.t 17)]⟩,⟨some 19,none,.bin .add false (.t 16) (.t 18)⟩,⟨some 3,none,.mv (.t 19)⟩])))) (.reg [⟨some 20,none,.bin .add false (.t 9) (.c (.int .i64 1))⟩,⟨some 9,none,.mv (.t 20)⟩]))))))) (.seq (.reg [⟨some 21,none,.mv (.t 3)⟩,⟨some 2,none,.mv (.t 21)⟩]) .ret))))
theorem N3:As Tryz.prog 51=some ⟨22,Ji,[(.tmp 2)]⟩:=by kernel_rfl
theorem Ek:modes 51=⟨[],.asis,none,false⟩:=by unfold modes; rfl
theorem Vd (x:Fm) (hn:x.nodes≤1099511627776) (ih:∀ y∈x.parts,E 51 [y.sv] []=some (.int .i64 y.cap,[])):E 51 [x.sv] []=some (.int .i64 x.cap,[]):=by
 have hl:=Fm.length_le x.parts
 have hx:=Fm.nodes_eq x
 rw [Fm.cap_eq]
 refine Al N3 Ek (of_decide_eq_true rfl) ?_
 simp (disch:=omega) only [Ji,go_sem,Ab]
 refine go_loop (α:=Int × Int) (fun a=>⟨slots 22 0 [(3,.int .i64 a.2),(7,.arr (x.parts.map Fm.d)),(8,.int .i64 x.parts.length),(9,.int .i64 a.1)],[]⟩) (fun a=>∃ k:Nat,a.1=k∧k≤x.parts.length∧1≤a.2∧a.2+Fm.nodeS (x.parts.drop k)≤x.nodes∧Fm.capL (x.parts.drop k) a.2=Fm.capL x.parts 1) (fun a=>x.parts.length-a.1.toNat) (0,1) ⟨0,rfl,zH _,by dsimp only; omega,by rw [zG]; dsimp only; omega,rfl⟩ (by simp (disch:=omega) only [go_sem,Ab]) ?_
 rintro ⟨i,n⟩ ⟨k,hi,hk,hn0,hn1,hs⟩
 dsimp only at hi hn0 hn1 hs
 have hni:i.toNat=k:=by omega
 rcases zD k x.parts.length with hlt | hge
 ·have hg:=get_at Fm.d hlt
  rw [Fm.d_eq] at hg
  have hd:x.parts.drop k=x.parts[k] :: x.parts.drop (k+1):=zC hlt
  have hc:=ih x.parts[k] (zI hlt)
  have hp:=Fm.cap_spec x.parts[k]
  rw [hd,Fm.capL] at hs
  rw [hd,Fm.nodeS] at hn1
  rcases yA 40 n with h30 | h30
  ·rw [if_pos h30] at hs
   simp (disch:=omega) only [go_sem,Ab,hni,hg,hc,Ek]
   exact hs
  ·rw [if_neg (by omega)] at hs
   simp (disch:=omega) only [go_sem,Ab,hni,hg,hc,Ek]
   refine ⟨(i+1,n+x.parts[k].cap),⟨k+1,by dsimp only; omega,hlt,by dsimp only; omega,by dsimp only; omega,hs⟩,by dsimp only; omega,?_⟩
   simp only [and_self]
 ·have hd:x.parts.drop k=[]:=zF hge
  rw [hd,Fm.capL] at hs
  simp (disch:=omega) only [go_sem,Ab,hni]
  exact hs
theorem S2 (x:Fm) (hn:x.nodes≤1099511627776):E 51 [x.sv] []=some (.int .i64 x.cap,[]) :=
 Vd x hn fun y hy=>S2 y (by have:=Fm.nodes_mem hy; have:=Fm.nodes_eq x; omega)
termination_by SizeOf.sizeOf x
decreasing_by exact Fm.lt_of_mem hy
def Jj:SC:=(.seq (.reg [⟨some 2,none,.boxv 33 5 (.t 0)⟩,⟨some 4,none,.mv (.c (.int .i64 0))⟩]) (.seq (.reg [⟨some 5,none,.mv (.c (.int .i64 1))⟩]) (.seq (.seq (.reg [⟨some 6,none,.mv (.c (.int .i64 0))⟩]) (.block 0 (.loop [0,1,1,0,0,1,1,0,0,0,0,0,0,0,0,0,0,0,0,0,0,0,0,0,0,0,0,0,0,0,0] (.seq (.seq (.reg [⟨some 7,none,.mv (.t 6)⟩,⟨some 8,none,.faddr 4 (.t 2)⟩,⟨some 9,none,.load false 1 (.t 8)⟩,⟨some 10,none,.len false (.t 9)⟩,⟨some 11,none,.bin .lss false (.t 7) (.t 10)⟩,⟨some 12,none,.mv (.t 11)⟩,⟨(some 13),(some (12,true)),(.mv (.t 5))⟩,⟨(some 14),(some (12,true)),(.mv (.t 1))⟩,⟨(some 15),(some (12,true)),(.bin .leq false (.t 13) (.t 14))⟩,⟨some 16,none,.pick (.t 12) (.t 15) (.c (.bool false))⟩]) (.cond (.t 16) .skip (.exit 0))) (.seq (.block 1 (.reg [⟨some 19,none,.mv (.t 5)⟩,⟨some 20,none,.faddr 4 (.t 2)⟩,⟨some 21,none,.load false 1 (.t 20)⟩,⟨some 22,none,.mv (.t 6)⟩,⟨some 23,none,.iaddr 5 (.t 21) (.t 22)⟩,⟨some 24,none,.load true 5 (.t 23)⟩,⟨some 25,none,.mv (.t 1)⟩,⟨some 26,none,.mv (.t 5)⟩,⟨some 27,none,.bin .sub false (.t 25) (.t 26)⟩,⟨some 28,none,.call 63 [(.t 24),(.t 27)]⟩,⟨some 29,none,.bin .add false (.t 19) (.t 28)⟩,⟨some 5,none,.mv (.t 29)⟩])) (.reg [⟨some 17,none,.mv (.t 6)⟩,⟨some 18,none,.bin .add false (.t 17) (.c (.int .i64 1))⟩,⟨some 6,none,.mv (.t 18)⟩])))))) (.seq (.reg [⟨some 30,none,.mv (.t 5)⟩,⟨some 4,none,.mv (.t 30)⟩]) .ret))))
theorem N4:As Tryz.prog 63=some ⟨31,Jj,[(.tmp 4)]⟩:=by kernel_rfl
theorem El:modes 63=⟨[],.asis,none,false⟩:=by unfold modes; rfl
theorem Ve (x:Fm) (m:Int) (hm:0≤m) (hm1:m≤1099511627776) (hn:x.nodes≤1099511627776) (ih:∀ y∈x.parts,∀ m:Int,0≤m→m≤1099511627776→E 63 [y.sv,.int .i64 m] []=some (.int .i64 (y.many m),[])):E 63 [x.sv,.int .i64 m] []=some (.int .i64 (x.many m),[]):=by
 have hl:=Fm.length_le x.parts
 have hx:=Fm.nodes_eq x
 rw [Fm.many_eq]
 refine Al N4 El (of_decide_eq_true rfl) ?_
 simp (disch:=omega) only [Jj,go_sem,Ab]
 refine go_loop (α:=Int × Int) (fun a=>⟨slots 31 0 [(1,.int .i64 m),(2,.ptr 0 0),(5,.int .i64 a.2),(6,.int .i64 a.1)],[.box 33 [.int .i64 x.op,.str x.atom.name,.arr (x.atom.args.map Tm.d),.str x.var,.arr (x.parts.map Fm.d)]]⟩) (fun a=>∃ k:Nat,a.1=k∧k≤x.parts.length∧1≤a.2∧a.2+Fm.nodeS (x.parts.drop k)≤x.nodes∧Fm.manyL (x.parts.drop k) m a.2=Fm.manyL x.parts m 1) (fun a=>x.parts.length-a.1.toNat) (0,1) ⟨0,rfl,zH _,by dsimp only; omega,by rw [zG]; dsimp only; omega,rfl⟩ (by simp (disch:=omega) only [go_sem,Ab]) ?_
 rintro ⟨i,n⟩ ⟨k,hi,hk,hn0,hn1,hs⟩
 dsimp only at hi hn0 hn1 hs
 have hni:i.toNat=k:=by omega
 rcases zD k x.parts.length with hlt | hge
 ·have hg:=get_at Fm.d hlt
  rw [Fm.d_eq] at hg
  have hd:x.parts.drop k=x.parts[k] :: x.parts.drop (k+1):=zC hlt
  rw [hd,Fm.manyL] at hs
  rw [hd,Fm.nodeS] at hn1
  rcases yA m n with h30 | h30
  ·rw [if_neg (by omega)] at hs
   simp (disch:=omega) only [go_sem,Ab,hni,hg,El]
   exact hs
  ·rw [if_pos h30] at hs
   have hc:=ih x.parts[k] (zI hlt) (m-n) (by omega) (by omega)
   have hp:=Fm.many_spec x.parts[k] (m-n)
   simp (disch:=omega) only [go_sem,Ab,hni,hg,hc,El]
   refine ⟨(i+1,n+x.parts[k].many (m-n)),⟨k+1,by dsimp only; omega,hlt,by dsimp only; omega,by dsimp only; omega,hs⟩,by dsimp only; omega,?_⟩
   simp only [and_self]
 ·have hd:x.parts.drop k=[]:=zF hge
  rw [hd,Fm.manyL] at hs
  simp (disch:=omega) only [go_sem,Ab,hni]
  exact hs
theorem S3 (x:Fm) (m:Int) (hm:0≤m) (hm1:m≤1099511627776) (hn:x.nodes≤1099511627776):E 63 [x.sv,.int .i64 m] []=some (.int .i64 (x.many m),[]) :=
 Ve x m hm hm1 hn fun y hy m hm hm1=>S3 y m hm hm1 (by have:=Fm.nodes_mem hy; have:=Fm.nodes_eq x; omega)
termination_by SizeOf.sizeOf x
decreasing_by exact Fm.lt_of_mem hy
def Ef:SC:=(.seq (.reg [⟨some 2,none,.mv (.c (.bool false))⟩]) (.seq (.reg [⟨some 3,none,.mv (.t 0)⟩,⟨some 4,none,.bin .eql false (.t 3) (.c (.int .i64 8))⟩,⟨some 5,none,.mv (.t 4)⟩,⟨(some 6),(some (5,false)),(.mv (.t 0))⟩,⟨(some 7),(some (5,false)),(.bin .eql false (.t 6) (.c (.int .i64 9)))⟩,⟨some 8,none,.pick (.t 5) (.c (.bool true)) (.t 7)⟩,⟨some 2,none,.mv (.t 8)⟩]) .ret))
theorem FE:As Tryz.prog 54=some ⟨9,Ef,[(.tmp 2)]⟩:=by kernel_rfl
theorem Ac:modes 54=⟨[],.asis,none,false⟩:=by unfold modes; rfl
def HO:SC:=(.seq (.reg [⟨some 2,none,.mv (.c (.bool false))⟩]) (.seq (.reg [⟨some 3,none,.mv (.t 0)⟩,⟨some 4,none,.bin .eql false (.t 3) (.c (.int .i64 5))⟩,⟨some 5,none,.mv (.t 4)⟩,⟨(some 6),(some (5,false)),(.mv (.t 0))⟩,⟨(some 7),(some (5,false)),(.bin .eql false (.t 6) (.c (.int .i64 6)))⟩,⟨some 8,none,.pick (.t 5) (.c (.bool true)) (.t 7)⟩,⟨some 9,none,.mv (.t 8)⟩,⟨(some 10),(some (9,false)),(.mv (.t 0))⟩,⟨(some 11),(some (9,false)),(.bin .eql false (.t 10) (.c (.int .i64 7)))⟩,⟨some 12,none,.pick (.t 9) (.c (.bool true)) (.t 11)⟩,⟨some 2,none,.mv (.t 12)⟩]) .ret))
theorem L7:As Tryz.prog 84=some ⟨13,HO,[(.tmp 2)]⟩:=by kernel_rfl
theorem Ai:modes 84=⟨[],.asis,none,false⟩:=by unfold modes; rfl
def EM:SC:=(.seq (.reg [⟨some 1,none,.boxv 30 2 (.t 0)⟩,⟨some 2,none,.mv (.c (.bool false))⟩]) (.seq (.reg [⟨some 3,none,.faddr 0 (.t 1)⟩,⟨some 4,none,.load false 1 (.t 3)⟩,⟨(some 5),none,(.bin .eql false (.t 4) (.c (.str ⟨#[]⟩)))⟩,⟨some 6,none,.mv (.t 5)⟩,⟨(some 7),(some (6,true)),(.faddr 1 (.t 1))⟩,⟨(some 8),(some (6,true)),(.load false 1 (.t 7))⟩,⟨(some 9),(some (6,true)),(.len false (.t 8))⟩,⟨(some 10),(some (6,true)),(.bin .eql false (.t 9) (.c (.int .i64 0)))⟩,⟨some 11,none,.pick (.t 6) (.t 10) (.c (.bool false))⟩,⟨some 2,none,.mv (.t 11)⟩]) .ret))
theorem G8:As Tryz.prog 86=some ⟨12,EM,[(.tmp 2)]⟩:=by kernel_rfl
theorem Af:modes 86=⟨[],.asis,none,false⟩:=by unfold modes; rfl
def GG:SC:=(.seq (.reg [⟨some 1,none,.boxv 30 2 (.t 0)⟩,⟨some 2,none,.mv (.c (.bool false))⟩]) (.seq (.reg [⟨some 3,none,.faddr 0 (.t 1)⟩,⟨some 4,none,.load false 1 (.t 3)⟩,⟨(some 5),none,(.bin .eql false (.t 4) (.c (.str ⟨#[]⟩)))⟩,⟨some 6,none,.mv (.t 5)⟩,⟨(some 7),(some (6,true)),(.faddr 1 (.t 1))⟩,⟨(some 8),(some (6,true)),(.load false 1 (.t 7))⟩,⟨(some 9),(some (6,true)),(.len false (.t 8))⟩,⟨(some 10),(some (6,true)),(.bin .eql false (.t 9) (.c (.int .i64 0)))⟩,⟨some 11,none,.pick (.t 6) (.t 10) (.c (.bool false))⟩,⟨some 2,none,.mv (.t 11)⟩]) .ret))
theorem Jk:As Tryz.prog 117=some ⟨12,GG,[(.tmp 2)]⟩:=by kernel_rfl
theorem Ap:modes 117=⟨[],.asis,none,false⟩:=by unfold modes; rfl
def B3:SC:=(.seq (.reg [⟨some 4,none,.mv (.c (.int .i64 0))⟩]) (.seq (.seq (.reg [⟨some 6,none,.mv (.t 0)⟩,⟨some 7,none,.len false (.t 6)⟩,⟨some 8,none,.mv (.c (.int .i64 0))⟩]) (.block 0 (.loop [1,1,0,0,0,0,0,1,1,0,0,0,0,0,0,0,0,0,0] (.seq (.reg [⟨some 9,none,.bin .lss false (.t 8) (.t 7)⟩]) (.seq (.cond (.t 9) .skip (.exit 0)) (.seq (.block 1 (.seq (.reg [⟨some 10,none,.mv (.t 8)⟩,⟨some 5,none,.mv (.t 10)⟩]) (.seq (.reg [⟨some 11,none,.mv (.t 1)⟩,⟨some 12,none,.mv (.t 0)⟩,⟨some 13,none,.mv (.t 5)⟩,⟨some 14,none,.iaddr 5 (.t 12) (.t 13)⟩,⟨some 15,none,.load true 5 (.t 14)⟩,⟨some 16,none,.callv (.t 11) [(.t 15)]⟩]) (.cond (.t 16) (.seq (.reg [⟨some 17,none,.mv (.t 5)⟩,⟨some 4,none,.mv (.t 17)⟩]) .ret) .skip)))) (.reg [⟨some 18,none,.bin .add false (.t 8) (.c (.int .i64 1))⟩,⟨some 8,none,.mv (.t 18)⟩]))))))) (.seq (.reg [⟨some 4,none,.mv (.c (.int .i64 (-(0+1))))⟩]) .ret)))
theorem Ca:As Tryz.prog 91=some ⟨19,B3,[(.tmp 4)]⟩:=by kernel_rfl
theorem Ba:modes 91=⟨[],.asis,none,false⟩:=by unfold modes; rfl
def Bv:SC:=(.seq (.reg [⟨some 4,none,.mv (.c (.bool false))⟩]) (.seq (.reg [⟨some 5,none,.mv (.t 0)⟩,⟨some 6,none,.mv (.t 1)⟩,⟨some 7,none,.call 91 [(.t 5),(.t 6)]⟩,⟨some 8,none,.bin .geq false (.t 7) (.c (.int .i64 0))⟩,⟨some 4,none,.mv (.t 8)⟩]) .ret))
theorem BR:As Tryz.prog 56=some ⟨9,Bv,[(.tmp 4)]⟩:=by kernel_rfl
theorem Aa:modes 56=⟨[],.asis,none,false⟩:=by unfold modes; rfl
theorem L8 (fid:Nat) (p:Fm→Bool) (xs:List Fm) (hl:xs.length≤1099511627776) (hg:HP Tryz.prog fid=true) (hm:(modes fid).hand=[]) (hE:∀ x∈xs,E fid [x.sv] []=some (.bool (p x),[])):E 91 [.arr (xs.map Fm.d),.fn fid []] []=some (.int .i64 (CE p xs 0),[]):=by
 refine Al Ca Ba (of_decide_eq_true rfl) ?_
 simp (disch:=omega) only [B3,go_sem,Ab]
 refine go_loop (α:=Int) (fun a=>⟨slots 19 0 [(0,.arr (xs.map Fm.d)),(1,.fn fid []),(7,.int .i64 xs.length),(8,.int .i64 a)],[]⟩) (fun a=>∃ k:Nat,a=k∧k≤(xs).length∧CE p (xs.drop k) a=CE p xs 0) (fun a=>(xs).length-(a).toNat) 0 ⟨0,rfl,zH _,by rw [zG]⟩ (by simp (disch:=omega) only [go_sem,Ab]) ?_
 rintro i ⟨k,hi,hk,hR⟩
 have hni:i.toNat=k:=by omega
 have hni1:(i+1).toNat=k+1:=by omega
 rcases zD k (xs).length with hlt | hge
 ·have hg':=get_at Fm.d hlt
  rw [Fm.d_eq] at hg'
  have hc:=hE xs[k] (zI hlt)
  rw [zC hlt,CE] at hR
  cases hp:p xs[k] with
  | true =>
   rw [hp] at hc hR
   simp (disch:=omega) only [go_sem,Ab,hni,hg',hc,hg,hm]
   simpa using hR
  | false =>
   rw [hp] at hc hR
   simp (disch:=omega) only [go_sem,Ab,hni,hg',hc,hg,hm]
   exact ⟨i+1,⟨k+1,by omega,hlt,by simpa using hR⟩,by omega,by first | trivial | rfl⟩
 ·rw [zF hge,CE] at hR
  simp (disch:=omega) only [go_sem,Ab,hni]
  exact hR
theorem JE (fid:Nat) (p:Fm→Bool) (xs:List Fm) (hl:xs.length≤1099511627776) (hg:HP Tryz.prog fid=true) (hm:(modes fid).hand=[]) (hE:∀ x∈xs,E fid [x.sv] []=some (.bool (p x),[])):E 56 [.arr (xs.map Fm.d),.fn fid []] []=some (.bool (xs.any p),[]):=by
 have h:=L8 fid p xs hl hg hm hE
 refine Al BR Aa (of_decide_eq_true rfl) ?_
 simp (disch:=omega) only [Bv,go_sem,Ab,h,Ba]
 rw [Hf]
def AB:SC:=(.seq (.reg [⟨some 1,none,.boxv 33 5 (.t 0)⟩,⟨some 2,none,.mv (.c (.bool false))⟩]) (.seq (.reg [⟨some 3,none,.mv (.c (.int .i64 0))⟩]) (.seq (.block 0 (.seq (.seq (.reg [⟨some 5,none,.faddr 0 (.t 1)⟩,⟨some 6,none,.load false 1 (.t 5)⟩,⟨some 7,none,.bin .eql false (.t 6) (.c (.int .i64 1))⟩,⟨some 4,none,.mv (.t 7)⟩]) (.cond (.t 4) .skip (.seq (.reg [⟨some 8,none,.faddr 0 (.t 1)⟩,⟨some 9,none,.load false 1 (.t 8)⟩,⟨some 10,none,.bin .eql false (.t 9) (.c (.int .i64 2))⟩,⟨some 4,none,.mv (.t 10)⟩]) (.cond (.t 4) .skip (.reg [⟨some 11,none,.faddr 0 (.t 1)⟩,⟨some 12,none,.load false 1 (.t 11)⟩,⟨some 13,none,.bin .eql false (.t 12) (.c (.int .i64 3))⟩,⟨some 4,none,.mv (.t 13)⟩]))))) (.cond (.t 4) .skip (.seq (.seq (.reg [⟨some 15,none,.faddr 0 (.t 1)⟩,⟨some 16,none,.load false 1 (.t 15)⟩,⟨some 17,none,.bin .eql false (.t 16) (.c (.int .i64 4))⟩,⟨some 14,none,.mv (.t 17)⟩]) (.cond (.t 14) .skip (.reg [⟨some 18,none,.faddr 0 (.t 1)⟩,⟨some 19,none,.load false 1 (.t 18)⟩,⟨some 20,none,.call 54 [(.t 19)]⟩,⟨some 14,none,.mv (.t 20)⟩]))) (.cond (.t 14) (.reg [⟨some 3,none,.mv (.c (.int .i64 1))⟩]) (.seq (.reg [⟨some 22,none,.faddr 0 (.t 1)⟩,⟨some 23,none,.load false 1 (.t 22)⟩,⟨some 24,none,.call 84 [(.t 23)]⟩,⟨some 21,none,.mv (.t 24)⟩]) (.cond (.t 21) (.reg [⟨some 3,none,.mv (.c (.int .i64 2))⟩]) (.seq (.reg [⟨some 2,none,.mv (.c (.bool false))⟩]) .ret)))))))) (.seq (.seq (.reg [⟨some 25,none,.faddr 4 (.t 1)⟩,⟨some 26,none,.load false 1 (.t 25)⟩,⟨some 27,none,.len false (.t 26)⟩,⟨some 28,none,.mv (.t 3)⟩,⟨some 29,none,.bin .neq false (.t 27) (.t 28)⟩,⟨some 30,none,.mv (.t 29)⟩,⟨(some 31),(some (30,false)),(.faddr 0 (.t 1))⟩,⟨(some 32),(some (30,false)),(.load false 1 (.t 31))⟩,⟨(some 33),(some (30,false)),(.call 54 [(.t 32)])⟩,⟨(some 34),(some (30,false)),(.mv (.t 33))⟩,⟨(some 35),(some (34,true)),(.faddr 3 (.t 1))⟩,⟨(some 36),(some (34,true)),(.load false 1 (.t 35))⟩,⟨(some 37),(some (34,true)),(.call 42 [(.t 36)])⟩,⟨(some 38),(some (34,true)),(.un .not (.t 37))⟩,⟨(some 39),(some (30,false)),(.pick (.t 34) (.t 38) (.c (.bool false)))⟩,⟨some 40,none,.pick (.t 30) (.c (.bool true)) (.t 39)⟩,⟨some 41,none,.mv (.t 40)⟩,⟨(some 42),(some (41,false)),(.faddr 0 (.t 1))⟩,⟨(some 43),(some (41,false)),(.load false 1 (.t 42))⟩,⟨(some 44),(some (41,false)),(.call 54 [(.t 43)])⟩,⟨(some 45),(some (41,false)),(.un .not (.t 44))⟩,⟨(some 46),(some (41,false)),(.mv (.t 45))⟩,⟨(some 47),(some (46,true)),(.faddr 3 (.t 1))⟩,⟨(some 48),(some (46,true)),(.load false 1 (.t 47))⟩,⟨(some 49),(some (46,true)),(.bin .neq false (.t 48) (.c (.str ⟨#[]⟩)))⟩,⟨(some 50),(some (41,false)),(.pick (.t 46) (.t 49) (.c (.bool false)))⟩,⟨some 51,none,.pick (.t 41) (.c (.bool true)) (.t 50)⟩]) (.cond (.t 51) (.seq (.reg [⟨some 2,none,.mv (.c (.bool false))⟩]) .ret) .skip)) (.seq (.seq (.reg [⟨some 52,none,.faddr 0 (.t 1)⟩,⟨some 53,none,.load false 1 (.t 52)⟩,⟨some 54,none,.bin .eql false (.t 53) (.c (.int .i64 3))⟩,⟨some 55,none,.mv (.t 54)⟩,⟨(some 56),(some (55,true)),(.faddr 1 (.t 1))⟩,⟨(some 57),(some (55,true)),(.load true 2 (.t 56))⟩,⟨(some 58),(some (55,true)),(.call 85 [(.t 57)])⟩,⟨(some 59),(some (55,true)),(.un .not (.t 58))⟩,⟨some 60,none,.pick (.t 55) (.t 59) (.c (.bool false))⟩,⟨some 61,none,.mv (.t 60)⟩,⟨(some 62),(some (61,false)),(.faddr 0 (.t 1))⟩,⟨(some 63),(some (61,false)),(.load false 1 (.t 62))⟩,⟨(some 64),(some (61,false)),(.bin .neq false (.t 63) (.c (.int .i64 3)))⟩,⟨(some 65),(some (61,false)),(.mv (.t 64))⟩,⟨(some 66),(some (65,true)),(.faddr 1 (.t 1))⟩,⟨(some 67),(some (65,true)),(.load true 2 (.t 66))⟩,⟨(some 68),(some (65,true)),(.call 86 [(.t 67)])⟩,⟨(some 69),(some (65,true)),(.un .not (.t 68))⟩,⟨(some 70),(some (61,false)),(.pick (.t 65) (.t 69) (.c (.bool false)))⟩,⟨some 71,none,.pick (.t 61) (.c (.bool true)) (.t 70)⟩]) (.cond (.t 71) (.seq (.reg [⟨some 2,none,.mv (.c (.bool false))⟩]) .ret) .skip)) (.seq (.reg [⟨some 72,none,.faddr 4 (.t 1)⟩,⟨some 73,none,.load false 1 (.t 72)⟩,⟨some 74,none,.call 56 [(.t 73),(.c (.fn 87 []))]⟩,⟨some 75,none,.un .not (.t 74)⟩,⟨some 2,none,.mv (.t 75)⟩]) .ret))))))
theorem AE:As Tryz.prog 52=some ⟨76,AB,[(.tmp 2)]⟩:=by kernel_rfl
theorem A8:modes 52=⟨[],.asis,none,false⟩:=by unfold modes; rfl
def Hr:SC:=(.seq (.reg [⟨some 1,none,.boxv 33 5 (.t 0)⟩,⟨some 2,none,.mv (.c (.bool false))⟩]) (.seq (.reg [⟨some 3,none,.load true 5 (.t 1)⟩,⟨some 4,none,.call 52 [(.t 3)]⟩,⟨some 5,none,.un .not (.t 4)⟩,⟨some 2,none,.mv (.t 5)⟩]) .ret))
theorem KO:As Tryz.prog 87=some ⟨6,Hr,[(.tmp 2)]⟩:=by kernel_rfl
theorem Hs:modes 87=⟨[],.asis,none,false⟩:=by unfold modes; rfl
theorem KP:HP Tryz.prog 87=true:=by kernel_rfl
def Bi:SC:=(.seq (.reg [⟨some 1,none,.boxv 33 5 (.t 0)⟩,⟨some 2,none,.mv (.c (.bool false))⟩]) (.seq (.reg [⟨some 4,none,.faddr 4 (.t 1)⟩,⟨some 5,none,.load false 1 (.t 4)⟩,⟨some 6,none,.len false (.t 5)⟩,⟨some 3,none,.mv (.t 6)⟩]) (.seq (.seq (.reg [⟨some 7,none,.faddr 0 (.t 1)⟩,⟨some 8,none,.load false 1 (.t 7)⟩]) (.block 0 (.seq (.seq (.reg [⟨some 10,none,.bin .eql false (.t 8) (.c (.int .i64 1))⟩,⟨some 9,none,.mv (.t 10)⟩]) (.cond (.t 9) .skip (.reg [⟨some 11,none,.bin .eql false (.t 8) (.c (.int .i64 2))⟩,⟨some 9,none,.mv (.t 11)⟩]))) (.cond (.t 9) (.seq (.reg [⟨some 12,none,.mv (.t 3)⟩,⟨some 13,none,.bin .eql false (.t 12) (.c (.int .i64 0))⟩,⟨some 14,none,.mv (.t 13)⟩,⟨(some 15),(some (14,true)),(.faddr 1 (.t 1))⟩,⟨(some 16),(some (14,true)),(.load true 2 (.t 15))⟩,⟨(some 17),(some (14,true)),(.call 117 [(.t 16)])⟩,⟨some 18,none,.pick (.t 14) (.t 17) (.c (.bool false))⟩,⟨some 19,none,.mv (.t 18)⟩,⟨(some 20),(some (19,true)),(.faddr 3 (.t 1))⟩,⟨(some 21),(some (19,true)),(.load false 1 (.t 20))⟩,⟨(some 22),(some (19,true)),(.bin .eql false (.t 21) (.c (.str ⟨#[]⟩)))⟩,⟨some 23,none,.pick (.t 19) (.t 22) (.c (.bool false))⟩,⟨some 2,none,.mv (.t 23)⟩]) .ret) (.seq (.reg [⟨some 25,none,.bin .eql false (.t 8) (.c (.int .i64 3))⟩,⟨some 24,none,.mv (.t 25)⟩]) (.cond (.t 24) (.seq (.reg [⟨some 26,none,.mv (.t 3)⟩,⟨some 27,none,.bin .eql false (.t 26) (.c (.int .i64 0))⟩,⟨some 28,none,.mv (.t 27)⟩,⟨(some 29),(some (28,true)),(.faddr 1 (.t 1))⟩,⟨(some 30),(some (28,true)),(.load true 2 (.t 29))⟩,⟨(some 31),(some (28,true)),(.call 118 [(.t 30)])⟩,⟨some 32,none,.pick (.t 28) (.t 31) (.c (.bool false))⟩,⟨some 33,none,.mv (.t 32)⟩,⟨(some 34),(some (33,true)),(.faddr 3 (.t 1))⟩,⟨(some 35),(some (33,true)),(.load false 1 (.t 34))⟩,⟨(some 36),(some (33,true)),(.bin .eql false (.t 35) (.c (.str ⟨#[]⟩)))⟩,⟨some 37,none,.pick (.t 33) (.t 36) (.c (.bool false))⟩,⟨some 2,none,.mv (.t 37)⟩]) .ret) (.seq (.reg [⟨some 39,none,.bin .eql false (.t 8) (.c (.int .i64 4))⟩,⟨some 38,none,.mv (.t 39)⟩]) (.cond (.t 38) (.seq (.reg [⟨some 40,none,.mv (.t 3)⟩,⟨some 41,none,.bin .eql false (.t 40) (.c (.int .i64 1))⟩,⟨some 42,none,.mv (.t 41)⟩,⟨(some 43),(some (42,true)),(.faddr 1 (.t 1))⟩,⟨(some 44),(some (42,true)),(.load true 2 (.t 43))⟩,⟨(some 45),(some (42,true)),(.call 117 [(.t 44)])⟩,⟨some 46,none,.pick (.t 42) (.t 45) (.c (.bool false))⟩,⟨some 47,none,.mv (.t 46)⟩,⟨(some 48),(some (47,true)),(.faddr 3 (.t 1))⟩,⟨(some 49),(some (47,true)),(.load false 1 (.t 48))⟩,⟨(some 50),(some (47,true)),(.bin .eql false (.t 49) (.c (.str ⟨#[]⟩)))⟩,⟨some 51,none,.pick (.t 47) (.t 50) (.c (.bool false))⟩,⟨some 2,none,.mv (.t 51)⟩]) .ret) (.seq (.seq (.reg [⟨some 53,none,.bin .eql false (.t 8) (.c (.int .i64 5))⟩,⟨some 52,none,.mv (.t 53)⟩]) (.cond (.t 52) .skip (.seq (.reg [⟨some 54,none,.bin .eql false (.t 8) (.c (.int .i64 6))⟩,⟨some 52,none,.mv (.t 54)⟩]) (.cond (.t 52) .skip (.reg [⟨some 55,none,.bin .eql false (.t 8) (.c (.int .i64 7))⟩,⟨some 52,none,.mv (.t 55)⟩]))))) (.cond (.t 52) (.seq (.reg [⟨some 56,none,.mv (.t 3)⟩,⟨some 57,none,.bin .eql false (.t 56) (.c (.int .i64 2))⟩,⟨some 58,none,.mv (.t 57)⟩,⟨(some 59),(some (58,true)),(.faddr 1 (.t 1))⟩,⟨(some 60),(some (58,true)),(.load true 2 (.t 59))⟩,⟨(some 61),(some (58,true)),(.call 117 [(.t 60)])⟩,⟨some 62,none,.pick (.t 58) (.t 61) (.c (.bool false))⟩,⟨some 63,none,.mv (.t 62)⟩,⟨(some 64),(some (63,true)),(.faddr 3 (.t 1))⟩,⟨(some 65),(some (63,true)),(.load false 1 (.t 64))⟩,⟨(some 66),(some (63,true)),(.bin .eql false (.t 65) (.c (.str ⟨#[]⟩)))⟩,⟨some 67,none,.pick (.t 63) (.t 66) (.c (.bool false))⟩,⟨some 2,none,.mv (.t 67)⟩]) .ret) (.seq (.seq (.reg [⟨some 69,none,.bin .eql false (.t 8) (.c (.int .i64 8))⟩,⟨some 68,none,.mv (.t 69)⟩]) (.cond (.t 68) .skip (.reg [⟨some 70,none,.bin .eql false (.t 8) (.c (.int .i64 9))⟩,⟨some 68,none,.mv (.t 70)⟩]))) (.cond (.t 68) (.seq (.reg [⟨some 71,none,.mv (.t 3)⟩,⟨some 72,none,.bin .eql false (.t 71) (.c (.int .i64 1))⟩,⟨some 73,none,.mv (.t 72)⟩,⟨(some 74),(some (73,true)),(.faddr 1 (.t 1))⟩,⟨(some 75),(some (73,true)),(.load true 2 (.t 74))⟩,⟨(some 76),(some (73,true)),(.call 117 [(.t 75)])⟩,⟨some 77,none,.pick (.t 73) (.t 76) (.c (.bool false))⟩,⟨some 78,none,.mv (.t 77)⟩,⟨(some 79),(some (78,true)),(.faddr 3 (.t 1))⟩,⟨(some 80),(some (78,true)),(.load false 1 (.t 79))⟩,⟨(some 81),(some (78,true)),(.call 62 [(.t 80)])⟩,⟨some 82,none,.pick (.t 78) (.t 81) (.c (.bool false))⟩,⟨some 2,none,.mv (.t 82)⟩]) .ret) .skip)))))))))))) (.seq (.reg [⟨some 2,none,.mv (.c (.bool false))⟩]) .ret))))
theorem Bp:As Tryz.prog 97=some ⟨83,Bi,[(.tmp 2)]⟩:=by kernel_rfl
theorem Be:modes 97=⟨[],.asis,none,false⟩:=by unfold modes; rfl
def Gq:SC:=(.seq (.reg [⟨some 1,none,.boxv 33 5 (.t 0)⟩,⟨some 2,none,.mv (.c (.bool false))⟩]) (.seq (.seq (.reg [⟨some 4,none,.load true 5 (.t 1)⟩,⟨some 5,none,.call 97 [(.t 4)]⟩,⟨some 6,none,.un .not (.t 5)⟩]) (.cond (.t 6) (.seq (.reg [⟨some 2,none,.mv (.c (.bool false))⟩]) .ret) .skip)) (.seq (.seq (.reg [⟨some 3,none,.mv (.c (.int .i64 0))⟩]) (.block 0 (.loop [0,1,0,1,0,0,0,0,0,0,0,0,0,0,0,0,0,0,0,0,0] (.seq (.seq (.reg [⟨some 7,none,.mv (.t 3)⟩,⟨some 8,none,.faddr 4 (.t 1)⟩,⟨some 9,none,.load false 1 (.t 8)⟩,⟨some 10,none,.len false (.t 9)⟩,⟨some 11,none,.bin .lss false (.t 7) (.t 10)⟩]) (.cond (.t 11) .skip (.exit 0))) (.seq (.block 1 (.seq (.reg [⟨some 14,none,.faddr 4 (.t 1)⟩,⟨some 15,none,.load false 1 (.t 14)⟩,⟨some 16,none,.mv (.t 3)⟩,⟨some 17,none,.iaddr 5 (.t 15) (.t 16)⟩,⟨some 18,none,.load true 5 (.t 17)⟩,⟨some 19,none,.call 64 [(.t 18)]⟩,⟨some 20,none,.un .not (.t 19)⟩]) (.cond (.t 20) (.seq (.reg [⟨some 2,none,.mv (.c (.bool false))⟩]) .ret) .skip))) (.reg [⟨some 12,none,.mv (.t 3)⟩,⟨some 13,none,.bin .add false (.t 12) (.c (.int .i64 1))⟩,⟨some 3,none,.mv (.t 13)⟩])))))) (.seq (.reg [⟨some 2,none,.mv (.c (.bool true))⟩]) .ret))))
theorem I6:As Tryz.prog 64=some ⟨21,Gq,[(.tmp 2)]⟩:=by kernel_rfl
theorem Do:modes 64=⟨[],.asis,none,false⟩:=by unfold modes; rfl
def DD:SC:=(.seq (.reg [⟨some 1,none,.boxv 33 5 (.t 0)⟩,⟨some 2,none,.mv (.c (.bool false))⟩]) (.seq (.reg [⟨some 3,none,.load true 5 (.t 1)⟩,⟨some 4,none,.call 51 [(.t 3)]⟩,⟨some 5,none,.bin .leq false (.t 4) (.c (.int .i64 40))⟩,⟨some 6,none,.mv (.t 5)⟩,⟨(some 7),(some (6,true)),(.load true 5 (.t 1))⟩,⟨(some 8),(some (6,true)),(.call 52 [(.t 7)])⟩,⟨some 9,none,.pick (.t 6) (.t 8) (.c (.bool false))⟩,⟨some 2,none,.mv (.t 9)⟩]) .ret))
theorem ER:As Tryz.prog 21=some ⟨10,DD,[(.tmp 2)]⟩:=by kernel_rfl
theorem BC:modes 21=⟨[],.asis,none,false⟩:=by unfold modes; rfl
def GH:SC:=(.seq (.reg [⟨some 1,none,.boxv 33 5 (.t 0)⟩,⟨some 2,none,.mv (.c (.bool false))⟩]) (.seq (.reg [⟨some 3,none,.load true 5 (.t 1)⟩,⟨some 4,none,.call 63 [(.t 3),(.c (.int .i64 40))]⟩,⟨some 5,none,.bin .leq false (.t 4) (.c (.int .i64 40))⟩,⟨some 6,none,.mv (.t 5)⟩,⟨(some 7),(some (6,true)),(.load true 5 (.t 1))⟩,⟨(some 8),(some (6,true)),(.call 64 [(.t 7)])⟩,⟨some 9,none,.pick (.t 6) (.t 8) (.c (.bool false))⟩,⟨some 2,none,.mv (.t 9)⟩]) .ret))
theorem Jl:As Tryz.prog 26=some ⟨10,GH,[(.tmp 2)]⟩:=by kernel_rfl
theorem DB:modes 26=⟨[],.asis,none,false⟩:=by unfold modes; rfl
theorem C7 (n:Int):E 54 [.int .i64 n] []=some (.bool (dec (n=8) || dec (n=9)),[]):=by
 cases h1:dec (n=8) with
 | true =>
  refine Al FE Ac (of_decide_eq_true rfl) ?_
  simp (disch:=omega) only [Ef,go_sem,Ab,h1]
 | false =>
  refine Al FE Ac (of_decide_eq_true rfl) ?_
  simp (disch:=omega) only [Ef,go_sem,Ab,h1]
theorem Fg (n:Int):E 84 [.int .i64 n] []=some (.bool (dec (n=5) || dec (n=6) || dec (n=7)),[]):=by
 cases h1:dec (n=5) <;> cases h2:dec (n=6)
 all_goals
  refine Al L7 Ai (of_decide_eq_true rfl) ?_
  simp (disch:=omega) only [HO,go_sem,Ab,h1,h2]
theorem FJ (x:Tm):E 86 [x.sv] []=some (.bool x.isZ,[]):=by
 unfold Tm.isZ
 have hl:dec ((x.args.length:Int)=0)=(x.args.length == 0):=by
  rw [Ia]
  cases x.args <;> simp <;> omega
 cases h1:dec (x.name=⟨#[]⟩) with
 | true =>
  refine Al G8 Af (of_decide_eq_true rfl) ?_
  simp (disch:=omega) only [EM,go_sem,Ab,h1]
  try rw [hl]
 | false =>
  refine Al G8 Af (of_decide_eq_true rfl) ?_
  simp (disch:=omega) only [EM,go_sem,Ab,h1]
theorem Kt (x:Tm):E 117 [x.sv] []=some (.bool x.isZ,[]):=by
 unfold Tm.isZ
 have hl:dec ((x.args.length:Int)=0)=(x.args.length == 0):=by
  rw [Ia]
  cases x.args <;> simp <;> omega
 cases h1:dec (x.name=⟨#[]⟩) with
 | true =>
  refine Al Jk Ap (of_decide_eq_true rfl) ?_
  simp (disch:=omega) only [GG,go_sem,Ab,h1]
  try rw [hl]
 | false =>
  refine Al Jk Ap (of_decide_eq_true rfl) ?_
  simp (disch:=omega) only [GG,go_sem,Ab,h1]
theorem Qz (x:Fm) (hn:x.atom.nodes≤1099511627776) (ho:x.op=1∨x.op=2):E 97 [x.sv] []=some (.bool x.form,[]):=by
 have hf:x.form=(x.parts.length == 0&&x.atom.isZ&&dec (x.var=⟨#[]⟩)):=by unfold Fm.form; rcases ho with ho | ho <;> simp [ho]
 rcases ho with ho | ho
 all_goals
  first
   |(have o1:dec (x.op=1)=true:=A1 ho)
   |(have o1:dec (x.op=1)=false:=Aj (by omega))
  first
   |(have o2:dec (x.op=2)=true:=A1 ho)
   |(have o2:dec (x.op=2)=false:=Aj (by omega))
  have o3:dec (x.op=3)=false:=Aj (by omega)
  have o4:dec (x.op=4)=false:=Aj (by omega)
  have o5:dec (x.op=5)=false:=Aj (by omega)
  have o6:dec (x.op=6)=false:=Aj (by omega)
  have o7:dec (x.op=7)=false:=Aj (by omega)
  have o8:dec (x.op=8)=false:=Aj (by omega)
  have o9:dec (x.op=9)=false:=Aj (by omega)
  have ha:=Kt x.atom
  have hv:=FG x.var
  rw [hf]
  by_cases hl:x.parts.length=0
  ·have hl2:dec ((x.parts.length:Int)=0)=true:=A1 (by omega)
   rw [hl,beq_self_eq_true,zE]
   cases hq:x.atom.isZ with
   | true =>
    rw [hq] at ha
    rw [zE]
    refine Al Bp Be (of_decide_eq_true rfl) ?_
    simp (disch:=omega) only [Bi,go_sem,o1,o2,o3,o4,o5,o6,o7,o8,o9,hl2,ha,hv,Ao,Ap,An]
    repeat ((first | (refine At ?_ ?_; (focus (simp (disch:=omega) only [go_sem,o1,o2,o3,o4,o5,o6,o7,o8,o9,hl2,ha,hv,Ao,Ap,An]; done))) | (refine Au ?_ ?_; (focus (simp (disch:=omega) only [go_sem,o1,o2,o3,o4,o5,o6,o7,o8,o9,hl2,ha,hv,Ao,Ap,An]; done)))); (try simp (disch:=omega) only [go_sem,o1,o2,o3,o4,o5,o6,o7,o8,o9,hl2,ha,hv,Ao,Ap,An]))
   | false =>
    rw [hq] at ha
    rw [zA]
    refine Al Bp Be (of_decide_eq_true rfl) ?_
    simp (disch:=omega) only [Bi,go_sem,o1,o2,o3,o4,o5,o6,o7,o8,o9,hl2,ha,hv,Ao,Ap,An]
    repeat ((first | (refine At ?_ ?_; (focus (simp (disch:=omega) only [go_sem,o1,o2,o3,o4,o5,o6,o7,o8,o9,hl2,ha,hv,Ao,Ap,An]; done))) | (refine Au ?_ ?_; (focus (simp (disch:=omega) only [go_sem,o1,o2,o3,o4,o5,o6,o7,o8,o9,hl2,ha,hv,Ao,Ap,An]; done)))); (try simp (disch:=omega) only [go_sem,o1,o2,o3,o4,o5,o6,o7,o8,o9,hl2,ha,hv,Ao,Ap,An]))
  ·have hl2:dec ((x.parts.length:Int)=0)=false:=Aj (by omega)
   have hl3:(x.parts.length == 0)=false:=by simpa using hl
   rw [hl3,zA,zA]
   refine Al Bp Be (of_decide_eq_true rfl) ?_
   simp (disch:=omega) only [Bi,go_sem,o1,o2,o3,o4,o5,o6,o7,o8,o9,hl2,ha,hv,Ao,Ap,An]
   repeat ((first | (refine At ?_ ?_; (focus (simp (disch:=omega) only [go_sem,o1,o2,o3,o4,o5,o6,o7,o8,o9,hl2,ha,hv,Ao,Ap,An]; done))) | (refine Au ?_ ?_; (focus (simp (disch:=omega) only [go_sem,o1,o2,o3,o4,o5,o6,o7,o8,o9,hl2,ha,hv,Ao,Ap,An]; done)))); (try simp (disch:=omega) only [go_sem,o1,o2,o3,o4,o5,o6,o7,o8,o9,hl2,ha,hv,Ao,Ap,An]))
theorem Vf (x:Fm) (hn:x.atom.nodes≤1099511627776) (ho:x.op=3):E 97 [x.sv] []=some (.bool x.form,[]):=by
 have hf:x.form=(x.parts.length == 0&&x.atom.atom&&dec (x.var=⟨#[]⟩)):=by unfold Fm.form; rcases ho with ho <;> simp [ho]
 rcases ho with ho
 all_goals
  have o1:dec (x.op=1)=false:=Aj (by omega)
  have o2:dec (x.op=2)=false:=Aj (by omega)
  have o3:dec (x.op=3)=true:=A1 ho
  have o4:dec (x.op=4)=false:=Aj (by omega)
  have o5:dec (x.op=5)=false:=Aj (by omega)
  have o6:dec (x.op=6)=false:=Aj (by omega)
  have o7:dec (x.op=7)=false:=Aj (by omega)
  have o8:dec (x.op=8)=false:=Aj (by omega)
  have o9:dec (x.op=9)=false:=Aj (by omega)
  have ha:=UA x.atom (by omega)
  have hv:=FG x.var
  rw [hf]
  by_cases hl:x.parts.length=0
  ·have hl2:dec ((x.parts.length:Int)=0)=true:=A1 (by omega)
   rw [hl,beq_self_eq_true,zE]
   cases hq:x.atom.atom with
   | true =>
    rw [hq] at ha
    rw [zE]
    refine Al Bp Be (of_decide_eq_true rfl) ?_
    simp (disch:=omega) only [Bi,go_sem,o1,o2,o3,o4,o5,o6,o7,o8,o9,hl2,ha,hv,Ao,Ap,An]
    repeat ((first | (refine At ?_ ?_; (focus (simp (disch:=omega) only [go_sem,o1,o2,o3,o4,o5,o6,o7,o8,o9,hl2,ha,hv,Ao,Ap,An]; done))) | (refine Au ?_ ?_; (focus (simp (disch:=omega) only [go_sem,o1,o2,o3,o4,o5,o6,o7,o8,o9,hl2,ha,hv,Ao,Ap,An]; done)))); (try simp (disch:=omega) only [go_sem,o1,o2,o3,o4,o5,o6,o7,o8,o9,hl2,ha,hv,Ao,Ap,An]))
   | false =>
    rw [hq] at ha
    rw [zA]
    refine Al Bp Be (of_decide_eq_true rfl) ?_
    simp (disch:=omega) only [Bi,go_sem,o1,o2,o3,o4,o5,o6,o7,o8,o9,hl2,ha,hv,Ao,Ap,An]
    repeat ((first | (refine At ?_ ?_; (focus (simp (disch:=omega) only [go_sem,o1,o2,o3,o4,o5,o6,o7,o8,o9,hl2,ha,hv,Ao,Ap,An]; done))) | (refine Au ?_ ?_; (focus (simp (disch:=omega) only [go_sem,o1,o2,o3,o4,o5,o6,o7,o8,o9,hl2,ha,hv,Ao,Ap,An]; done)))); (try simp (disch:=omega) only [go_sem,o1,o2,o3,o4,o5,o6,o7,o8,o9,hl2,ha,hv,Ao,Ap,An]))
  ·have hl2:dec ((x.parts.length:Int)=0)=false:=Aj (by omega)
   have hl3:(x.parts.length == 0)=false:=by simpa using hl
   rw [hl3,zA,zA]
   refine Al Bp Be (of_decide_eq_true rfl) ?_
   simp (disch:=omega) only [Bi,go_sem,o1,o2,o3,o4,o5,o6,o7,o8,o9,hl2,ha,hv,Ao,Ap,An]
   repeat ((first | (refine At ?_ ?_; (focus (simp (disch:=omega) only [go_sem,o1,o2,o3,o4,o5,o6,o7,o8,o9,hl2,ha,hv,Ao,Ap,An]; done))) | (refine Au ?_ ?_; (focus (simp (disch:=omega) only [go_sem,o1,o2,o3,o4,o5,o6,o7,o8,o9,hl2,ha,hv,Ao,Ap,An]; done)))); (try simp (disch:=omega) only [go_sem,o1,o2,o3,o4,o5,o6,o7,o8,o9,hl2,ha,hv,Ao,Ap,An]))
theorem Vg (x:Fm) (hn:x.atom.nodes≤1099511627776) (ho:x.op=4):E 97 [x.sv] []=some (.bool x.form,[]):=by
 have hf:x.form=(x.parts.length == 1&&x.atom.isZ&&dec (x.var=⟨#[]⟩)):=by unfold Fm.form; rcases ho with ho <;> simp [ho]
 rcases ho with ho
 all_goals
  have o1:dec (x.op=1)=false:=Aj (by omega)
  have o2:dec (x.op=2)=false:=Aj (by omega)
  have o3:dec (x.op=3)=false:=Aj (by omega)
  have o4:dec (x.op=4)=true:=A1 ho
  have o5:dec (x.op=5)=false:=Aj (by omega)
  have o6:dec (x.op=6)=false:=Aj (by omega)
  have o7:dec (x.op=7)=false:=Aj (by omega)
  have o8:dec (x.op=8)=false:=Aj (by omega)
  have o9:dec (x.op=9)=false:=Aj (by omega)
  have ha:=Kt x.atom
  have hv:=FG x.var
  rw [hf]
  by_cases hl:x.parts.length=1
  ·have hl2:dec ((x.parts.length:Int)=1)=true:=A1 (by omega)
   rw [hl,beq_self_eq_true,zE]
   cases hq:x.atom.isZ with
   | true =>
    rw [hq] at ha
    rw [zE]
    refine Al Bp Be (of_decide_eq_true rfl) ?_
    simp (disch:=omega) only [Bi,go_sem,o1,o2,o3,o4,o5,o6,o7,o8,o9,hl2,ha,hv,Ao,Ap,An]
    repeat ((first | (refine At ?_ ?_; (focus (simp (disch:=omega) only [go_sem,o1,o2,o3,o4,o5,o6,o7,o8,o9,hl2,ha,hv,Ao,Ap,An]; done))) | (refine Au ?_ ?_; (focus (simp (disch:=omega) only [go_sem,o1,o2,o3,o4,o5,o6,o7,o8,o9,hl2,ha,hv,Ao,Ap,An]; done)))); (try simp (disch:=omega) only [go_sem,o1,o2,o3,o4,o5,o6,o7,o8,o9,hl2,ha,hv,Ao,Ap,An]))
   | false =>
    rw [hq] at ha
    rw [zA]
    refine Al Bp Be (of_decide_eq_true rfl) ?_
    simp (disch:=omega) only [Bi,go_sem,o1,o2,o3,o4,o5,o6,o7,o8,o9,hl2,ha,hv,Ao,Ap,An]
    repeat ((first | (refine At ?_ ?_; (focus (simp (disch:=omega) only [go_sem,o1,o2,o3,o4,o5,o6,o7,o8,o9,hl2,ha,hv,Ao,Ap,An]; done))) | (refine Au ?_ ?_; (focus (simp (disch:=omega) only [go_sem,o1,o2,o3,o4,o5,o6,o7,o8,o9,hl2,ha,hv,Ao,Ap,An]; done)))); (try simp (disch:=omega) only [go_sem,o1,o2,o3,o4,o5,o6,o7,o8,o9,hl2,ha,hv,Ao,Ap,An]))
  ·have hl2:dec ((x.parts.length:Int)=1)=false:=Aj (by omega)
   have hl3:(x.parts.length == 1)=false:=by simpa using hl
   rw [hl3,zA,zA]
   refine Al Bp Be (of_decide_eq_true rfl) ?_
   simp (disch:=omega) only [Bi,go_sem,o1,o2,o3,o4,o5,o6,o7,o8,o9,hl2,ha,hv,Ao,Ap,An]
   repeat ((first | (refine At ?_ ?_; (focus (simp (disch:=omega) only [go_sem,o1,o2,o3,o4,o5,o6,o7,o8,o9,hl2,ha,hv,Ao,Ap,An]; done))) | (refine Au ?_ ?_; (focus (simp (disch:=omega) only [go_sem,o1,o2,o3,o4,o5,o6,o7,o8,o9,hl2,ha,hv,Ao,Ap,An]; done)))); (try simp (disch:=omega) only [go_sem,o1,o2,o3,o4,o5,o6,o7,o8,o9,hl2,ha,hv,Ao,Ap,An]))
theorem Nh (x:Fm) (hn:x.atom.nodes≤1099511627776) (ho:x.op=5∨x.op=6∨x.op=7):E 97 [x.sv] []=some (.bool x.form,[]):=by
 have hf:x.form=(x.parts.length == 2&&x.atom.isZ&&dec (x.var=⟨#[]⟩)):=by unfold Fm.form; rcases ho with ho | ho | ho <;> simp [ho]
 rcases ho with ho | ho | ho
 all_goals
  have o1:dec (x.op=1)=false:=Aj (by omega)
  have o2:dec (x.op=2)=false:=Aj (by omega)
  have o3:dec (x.op=3)=false:=Aj (by omega)
  have o4:dec (x.op=4)=false:=Aj (by omega)
  first
   |(have o5:dec (x.op=5)=true:=A1 ho)
   |(have o5:dec (x.op=5)=false:=Aj (by omega))
  first
   |(have o6:dec (x.op=6)=true:=A1 ho)
   |(have o6:dec (x.op=6)=false:=Aj (by omega))
  first
   |(have o7:dec (x.op=7)=true:=A1 ho)
   |(have o7:dec (x.op=7)=false:=Aj (by omega))
  have o8:dec (x.op=8)=false:=Aj (by omega)
  have o9:dec (x.op=9)=false:=Aj (by omega)
  have ha:=Kt x.atom
  have hv:=FG x.var
  rw [hf]
  by_cases hl:x.parts.length=2
  ·have hl2:dec ((x.parts.length:Int)=2)=true:=A1 (by omega)
   rw [hl,beq_self_eq_true,zE]
   cases hq:x.atom.isZ with
   | true =>
    rw [hq] at ha
    rw [zE]
    refine Al Bp Be (of_decide_eq_true rfl) ?_
    simp (disch:=omega) only [Bi,go_sem,o1,o2,o3,o4,o5,o6,o7,o8,o9,hl2,ha,hv,Ao,Ap,An]
    repeat ((first | (refine At ?_ ?_; (focus (simp (disch:=omega) only [go_sem,o1,o2,o3,o4,o5,o6,o7,o8,o9,hl2,ha,hv,Ao,Ap,An]; done))) | (refine Au ?_ ?_; (focus (simp (disch:=omega) only [go_sem,o1,o2,o3,o4,o5,o6,o7,o8,o9,hl2,ha,hv,Ao,Ap,An]; done)))); (try simp (disch:=omega) only [go_sem,o1,o2,o3,o4,o5,o6,o7,o8,o9,hl2,ha,hv,Ao,Ap,An]))
   | false =>
    rw [hq] at ha
    rw [zA]
    refine Al Bp Be (of_decide_eq_true rfl) ?_
    simp (disch:=omega) only [Bi,go_sem,o1,o2,o3,o4,o5,o6,o7,o8,o9,hl2,ha,hv,Ao,Ap,An]
    repeat ((first | (refine At ?_ ?_; (focus (simp (disch:=omega) only [go_sem,o1,o2,o3,o4,o5,o6,o7,o8,o9,hl2,ha,hv,Ao,Ap,An]; done))) | (refine Au ?_ ?_; (focus (simp (disch:=omega) only [go_sem,o1,o2,o3,o4,o5,o6,o7,o8,o9,hl2,ha,hv,Ao,Ap,An]; done)))); (try simp (disch:=omega) only [go_sem,o1,o2,o3,o4,o5,o6,o7,o8,o9,hl2,ha,hv,Ao,Ap,An]))
  ·have hl2:dec ((x.parts.length:Int)=2)=false:=Aj (by omega)
   have hl3:(x.parts.length == 2)=false:=by simpa using hl
   rw [hl3,zA,zA]
   refine Al Bp Be (of_decide_eq_true rfl) ?_
   simp (disch:=omega) only [Bi,go_sem,o1,o2,o3,o4,o5,o6,o7,o8,o9,hl2,ha,hv,Ao,Ap,An]
   repeat ((first | (refine At ?_ ?_; (focus (simp (disch:=omega) only [go_sem,o1,o2,o3,o4,o5,o6,o7,o8,o9,hl2,ha,hv,Ao,Ap,An]; done))) | (refine Au ?_ ?_; (focus (simp (disch:=omega) only [go_sem,o1,o2,o3,o4,o5,o6,o7,o8,o9,hl2,ha,hv,Ao,Ap,An]; done)))); (try simp (disch:=omega) only [go_sem,o1,o2,o3,o4,o5,o6,o7,o8,o9,hl2,ha,hv,Ao,Ap,An]))
theorem Q0 (x:Fm) (hn:x.atom.nodes≤1099511627776) (ho:x.op=8∨x.op=9):E 97 [x.sv] []=some (.bool x.form,[]):=by
 have hf:x.form=(x.parts.length == 1&&x.atom.isZ&&Cj x.var):=by unfold Fm.form; rcases ho with ho | ho <;> simp [ho]
 rcases ho with ho | ho
 all_goals
  have o1:dec (x.op=1)=false:=Aj (by omega)
  have o2:dec (x.op=2)=false:=Aj (by omega)
  have o3:dec (x.op=3)=false:=Aj (by omega)
  have o4:dec (x.op=4)=false:=Aj (by omega)
  have o5:dec (x.op=5)=false:=Aj (by omega)
  have o6:dec (x.op=6)=false:=Aj (by omega)
  have o7:dec (x.op=7)=false:=Aj (by omega)
  first
   |(have o8:dec (x.op=8)=true:=A1 ho)
   |(have o8:dec (x.op=8)=false:=Aj (by omega))
  first
   |(have o9:dec (x.op=9)=true:=A1 ho)
   |(have o9:dec (x.op=9)=false:=Aj (by omega))
  have ha:=Kt x.atom
  have hv:=FG x.var
  rw [hf]
  by_cases hl:x.parts.length=1
  ·have hl2:dec ((x.parts.length:Int)=1)=true:=A1 (by omega)
   rw [hl,beq_self_eq_true,zE]
   cases hq:x.atom.isZ with
   | true =>
    rw [hq] at ha
    rw [zE]
    refine Al Bp Be (of_decide_eq_true rfl) ?_
    simp (disch:=omega) only [Bi,go_sem,o1,o2,o3,o4,o5,o6,o7,o8,o9,hl2,ha,hv,Ao,Ap,An]
    repeat ((first | (refine At ?_ ?_; (focus (simp (disch:=omega) only [go_sem,o1,o2,o3,o4,o5,o6,o7,o8,o9,hl2,ha,hv,Ao,Ap,An]; done))) | (refine Au ?_ ?_; (focus (simp (disch:=omega) only [go_sem,o1,o2,o3,o4,o5,o6,o7,o8,o9,hl2,ha,hv,Ao,Ap,An]; done)))); (try simp (disch:=omega) only [go_sem,o1,o2,o3,o4,o5,o6,o7,o8,o9,hl2,ha,hv,Ao,Ap,An]))
   | false =>
    rw [hq] at ha
    rw [zA]
    refine Al Bp Be (of_decide_eq_true rfl) ?_
    simp (disch:=omega) only [Bi,go_sem,o1,o2,o3,o4,o5,o6,o7,o8,o9,hl2,ha,hv,Ao,Ap,An]
    repeat ((first | (refine At ?_ ?_; (focus (simp (disch:=omega) only [go_sem,o1,o2,o3,o4,o5,o6,o7,o8,o9,hl2,ha,hv,Ao,Ap,An]; done))) | (refine Au ?_ ?_; (focus (simp (disch:=omega) only [go_sem,o1,o2,o3,o4,o5,o6,o7,o8,o9,hl2,ha,hv,Ao,Ap,An]; done)))); (try simp (disch:=omega) only [go_sem,o1,o2,o3,o4,o5,o6,o7,o8,o9,hl2,ha,hv,Ao,Ap,An]))
  ·have hl2:dec ((x.parts.length:Int)=1)=false:=Aj (by omega)
   have hl3:(x.parts.length == 1)=false:=by simpa using hl
   rw [hl3,zA,zA]
   refine Al Bp Be (of_decide_eq_true rfl) ?_
   simp (disch:=omega) only [Bi,go_sem,o1,o2,o3,o4,o5,o6,o7,o8,o9,hl2,ha,hv,Ao,Ap,An]
   repeat ((first | (refine At ?_ ?_; (focus (simp (disch:=omega) only [go_sem,o1,o2,o3,o4,o5,o6,o7,o8,o9,hl2,ha,hv,Ao,Ap,An]; done))) | (refine Au ?_ ?_; (focus (simp (disch:=omega) only [go_sem,o1,o2,o3,o4,o5,o6,o7,o8,o9,hl2,ha,hv,Ao,Ap,An]; done)))); (try simp (disch:=omega) only [go_sem,o1,o2,o3,o4,o5,o6,o7,o8,o9,hl2,ha,hv,Ao,Ap,An]))
theorem Vh (x:Fm) (hn:x.atom.nodes≤1099511627776):E 97 [x.sv] []=some (.bool x.form,[]):=by
 rcases MR x.op with h | h | h | h | h | h | h | h | h | h
 ·exact Qz x hn (.inl h)
 ·exact Qz x hn (.inr h)
 ·exact Vf x hn h
 ·exact Vg x hn h
 ·exact Nh x hn (.inl h)
 ·exact Nh x hn (.inr (.inl h))
 ·exact Nh x hn (.inr (.inr h))
 ·exact Q0 x hn (.inl h)
 ·exact Q0 x hn (.inr h)
 ·obtain ⟨h1,h2,h3,h4,h5,h6,h7,h8,h9⟩:=h
  have hf:x.form=false:=by unfold Fm.form; simp [h1,h2,h3,h4,h5,h6,h7,h8,h9]
  have o1:=Aj h1
  have o2:=Aj h2
  have o3:=Aj h3
  have o4:=Aj h4
  have o5:=Aj h5
  have o6:=Aj h6
  have o7:=Aj h7
  have o8:=Aj h8
  have o9:=Aj h9
  rw [hf]
  refine Al Bp Be (of_decide_eq_true rfl) ?_
  simp (disch:=omega) only [Bi,go_sem,o1,o2,o3,o4,o5,o6,o7,o8,o9]
  repeat ((first | (refine At ?_ ?_; (focus (simp (disch:=omega) only [go_sem,o1,o2,o3,o4,o5,o6,o7,o8,o9]; done))) | (refine Au ?_ ?_; (focus (simp (disch:=omega) only [go_sem,o1,o2,o3,o4,o5,o6,o7,o8,o9]; done)))); (try simp (disch:=omega) only [go_sem,o1,o2,o3,o4,o5,o6,o7,o8,o9]))
theorem R8 (x:Fm) (ht:x.tame) (hn:x.nodes≤1099511627776) (ih:∀ y∈x.parts,E 64 [y.sv] []=some (.bool y.forms,[])):E 64 [x.sv] []=some (.bool x.forms,[]):=by
 have hl:=Fm.length_le x.parts
 have hx:=Fm.nodes_eq x
 have hf:=Vh x (Fm.LL ht)
 rw [Fm.EH]
 cases hq:x.form with
 | false =>
  rw [hq] at hf
  rw [zA]
  refine Al I6 Do (of_decide_eq_true rfl) ?_
  simp (disch:=omega) only [Gq,go_sem,Ab,hf,Be]
 | true =>
  rw [hq] at hf
  rw [zE]
  refine Al I6 Do (of_decide_eq_true rfl) ?_
  simp (disch:=omega) only [Gq,go_sem,Ab,hf,Be]
  refine go_loop (α:=Int) (fun a=>⟨slots 21 0 [(1,.ptr 0 0),(3,.int .i64 a)],[.box 33 [.int .i64 x.op,.str x.atom.name,.arr (x.atom.args.map Tm.d),.str x.var,.arr (x.parts.map Fm.d)]]⟩) (fun a=>∃ k:Nat,a=k∧k≤(x.parts).length∧Fm.Ja (x.parts.drop k)=Fm.Ja x.parts) (fun a=>(x.parts).length-(a).toNat) 0 ⟨0,rfl,zH _,by rw [zG]⟩ (by simp (disch:=omega) only [go_sem,Ab]) ?_
  rintro i ⟨k,hi,hk,hR⟩
  have hni:i.toNat=k:=by omega
  have hni1:(i+1).toNat=k+1:=by omega
  rcases zD k (x.parts).length with hlt | hge
  ·have hg:=get_at Fm.d hlt
   rw [Fm.d_eq] at hg
   have hc:=ih x.parts[k] (zI hlt)
   rw [zC hlt,Fm.Ja] at hR
   cases hp:x.parts[k].forms with
   | true =>
    rw [hp] at hc hR
    rw [zE] at hR
    simp (disch:=omega) only [go_sem,Ab,hni,hg,hc,Do]
    exact ⟨i+1,⟨k+1,by omega,hlt,hR⟩,by omega,by first | trivial | rfl⟩
   | false =>
    rw [hp] at hc hR
    rw [zA] at hR
    simp (disch:=omega) only [go_sem,Ab,hni,hg,hc,Do]
    exact hR
  ·rw [zF hge,Fm.Ja] at hR
   simp (disch:=omega) only [go_sem,Ab,hni]
   exact hR
theorem O2 (x:Fm) (ht:x.tame) (hn:x.nodes≤1099511627776):E 64 [x.sv] []=some (.bool x.forms,[]) :=
 R8 x ht hn fun y hy=>O2 y (Fm.On ht hy) (by have:=Fm.nodes_mem hy; have:=Fm.nodes_eq x; omega)
termination_by SizeOf.sizeOf x
decreasing_by exact Fm.lt_of_mem hy
theorem O3 (x:Fm) (hn:x.atom.nodes≤1099511627776) (hl0:x.parts.length≤1099511627776) (ho:x.op=1∨x.op=2) (h2:E 56 [.arr (x.parts.map Fm.d),.fn 87 []] []=some (.bool (x.parts.any fun y=>!y.forms),[])):E 52 [x.sv] []=some (.bool x.forms,[]):=by
 have hf:x.form=(x.parts.length == 0&&x.atom.isZ&&dec (x.var=⟨#[]⟩)):=by unfold Fm.form; rcases ho with ho | ho <;> simp [ho]
 rcases ho with ho | ho
 all_goals
  first
   |(have o1:dec (x.op=1)=true:=A1 ho)
   |(have o1:dec (x.op=1)=false:=Aj (by omega))
  first
   |(have o2:dec (x.op=2)=true:=A1 ho)
   |(have o2:dec (x.op=2)=false:=Aj (by omega))
  have o3:dec (x.op=3)=false:=Aj (by omega)
  have o4:dec (x.op=4)=false:=Aj (by omega)
  have o5:dec (x.op=5)=false:=Aj (by omega)
  have o6:dec (x.op=6)=false:=Aj (by omega)
  have o7:dec (x.op=7)=false:=Aj (by omega)
  have o8:dec (x.op=8)=false:=Aj (by omega)
  have o9:dec (x.op=9)=false:=Aj (by omega)
  have ha:=FJ x.atom
  have hv:=CS x.var
  have hb:=Fg x.op
  have hu:=C7 x.op
  rw [o5,o6,o7] at hb
  rw [o8,o9] at hu
  rw [Fm.EH,hf,← Fm.any_not]
  by_cases hl:x.parts.length=0
  ·have hl2:dec ((x.parts.length:Int)=0)=true:=A1 (by omega)
   rw [hl,beq_self_eq_true,zE]
   cases hw:dec (x.var=⟨#[]⟩) with
   | false =>
    try rw [hw] at hv
    rw [zJ,zA]
    refine Al AE A8 (of_decide_eq_true rfl) ?_
    simp (disch:=omega) only [AB,go_sem,o1,o2,o3,o4,o5,o6,o7,o8,o9,hl2,ha,hv,hb,hu,hw,h2,Ad,Af,Ae,Ac,Ai,Aa]
    repeat ((first | (refine At ?_ ?_; (focus (simp (disch:=omega) only [go_sem,o1,o2,o3,o4,o5,o6,o7,o8,o9,hl2,ha,hv,hb,hu,hw,h2,Ad,Af,Ae,Ac,Ai,Aa]; done))) | (refine Au ?_ ?_; (focus (simp (disch:=omega) only [go_sem,o1,o2,o3,o4,o5,o6,o7,o8,o9,hl2,ha,hv,hb,hu,hw,h2,Ad,Af,Ae,Ac,Ai,Aa]; done)))); (try simp (disch:=omega) only [go_sem,o1,o2,o3,o4,o5,o6,o7,o8,o9,hl2,ha,hv,hb,hu,hw,h2,Ad,Af,Ae,Ac,Ai,Aa]))
   | true =>
    try rw [hw] at hv
    rw [z7]
    cases hq:x.atom.isZ with
    | true =>
     rw [hq] at ha
     rw [zE]
     refine Al AE A8 (of_decide_eq_true rfl) ?_
     simp (disch:=omega) only [AB,go_sem,o1,o2,o3,o4,o5,o6,o7,o8,o9,hl2,ha,hv,hb,hu,hw,h2,Ad,Af,Ae,Ac,Ai,Aa]
     repeat ((first | (refine At ?_ ?_; (focus (simp (disch:=omega) only [go_sem,o1,o2,o3,o4,o5,o6,o7,o8,o9,hl2,ha,hv,hb,hu,hw,h2,Ad,Af,Ae,Ac,Ai,Aa]; done))) | (refine Au ?_ ?_; (focus (simp (disch:=omega) only [go_sem,o1,o2,o3,o4,o5,o6,o7,o8,o9,hl2,ha,hv,hb,hu,hw,h2,Ad,Af,Ae,Ac,Ai,Aa]; done)))); (try simp (disch:=omega) only [go_sem,o1,o2,o3,o4,o5,o6,o7,o8,o9,hl2,ha,hv,hb,hu,hw,h2,Ad,Af,Ae,Ac,Ai,Aa]))
    | false =>
     rw [hq] at ha
     rw [zA]
     refine Al AE A8 (of_decide_eq_true rfl) ?_
     simp (disch:=omega) only [AB,go_sem,o1,o2,o3,o4,o5,o6,o7,o8,o9,hl2,ha,hv,hb,hu,hw,h2,Ad,Af,Ae,Ac,Ai,Aa]
     repeat ((first | (refine At ?_ ?_; (focus (simp (disch:=omega) only [go_sem,o1,o2,o3,o4,o5,o6,o7,o8,o9,hl2,ha,hv,hb,hu,hw,h2,Ad,Af,Ae,Ac,Ai,Aa]; done))) | (refine Au ?_ ?_; (focus (simp (disch:=omega) only [go_sem,o1,o2,o3,o4,o5,o6,o7,o8,o9,hl2,ha,hv,hb,hu,hw,h2,Ad,Af,Ae,Ac,Ai,Aa]; done)))); (try simp (disch:=omega) only [go_sem,o1,o2,o3,o4,o5,o6,o7,o8,o9,hl2,ha,hv,hb,hu,hw,h2,Ad,Af,Ae,Ac,Ai,Aa]))
  ·have hl2:dec ((x.parts.length:Int)=0)=false:=Aj (by omega)
   have hl3:(x.parts.length == 0)=false:=by simpa using hl
   rw [hl3,zA,zA,zA]
   refine Al AE A8 (of_decide_eq_true rfl) ?_
   simp (disch:=omega) only [AB,go_sem,o1,o2,o3,o4,o5,o6,o7,o8,o9,hl2,ha,hv,hb,hu, h2,Ad,Af,Ae,Ac,Ai,Aa]
   repeat ((first | (refine At ?_ ?_; (focus (simp (disch:=omega) only [go_sem,o1,o2,o3,o4,o5,o6,o7,o8,o9,hl2,ha,hv,hb,hu, h2,Ad,Af,Ae,Ac,Ai,Aa]; done))) | (refine Au ?_ ?_; (focus (simp (disch:=omega) only [go_sem,o1,o2,o3,o4,o5,o6,o7,o8,o9,hl2,ha,hv,hb,hu, h2,Ad,Af,Ae,Ac,Ai,Aa]; done)))); (try simp (disch:=omega) only [go_sem,o1,o2,o3,o4,o5,o6,o7,o8,o9,hl2,ha,hv,hb,hu, h2,Ad,Af,Ae,Ac,Ai,Aa]))
theorem T0 (x:Fm) (hn:x.atom.nodes≤1099511627776) (hl0:x.parts.length≤1099511627776) (ho:x.op=3) (h2:E 56 [.arr (x.parts.map Fm.d),.fn 87 []] []=some (.bool (x.parts.any fun y=>!y.forms),[])):E 52 [x.sv] []=some (.bool x.forms,[]):=by
 have hf:x.form=(x.parts.length == 0&&x.atom.atom&&dec (x.var=⟨#[]⟩)):=by unfold Fm.form; rcases ho with ho <;> simp [ho]
 rcases ho with ho
 all_goals
  have o1:dec (x.op=1)=false:=Aj (by omega)
  have o2:dec (x.op=2)=false:=Aj (by omega)
  have o3:dec (x.op=3)=true:=A1 ho
  have o4:dec (x.op=4)=false:=Aj (by omega)
  have o5:dec (x.op=5)=false:=Aj (by omega)
  have o6:dec (x.op=6)=false:=Aj (by omega)
  have o7:dec (x.op=7)=false:=Aj (by omega)
  have o8:dec (x.op=8)=false:=Aj (by omega)
  have o9:dec (x.op=9)=false:=Aj (by omega)
  have ha:=Nw x.atom (by omega)
  have hv:=CS x.var
  have hb:=Fg x.op
  have hu:=C7 x.op
  rw [o5,o6,o7] at hb
  rw [o8,o9] at hu
  rw [Fm.EH,hf,← Fm.any_not]
  by_cases hl:x.parts.length=0
  ·have hl2:dec ((x.parts.length:Int)=0)=true:=A1 (by omega)
   rw [hl,beq_self_eq_true,zE]
   cases hw:dec (x.var=⟨#[]⟩) with
   | false =>
    try rw [hw] at hv
    rw [zJ,zA]
    refine Al AE A8 (of_decide_eq_true rfl) ?_
    simp (disch:=omega) only [AB,go_sem,o1,o2,o3,o4,o5,o6,o7,o8,o9,hl2,ha,hv,hb,hu,hw,h2,Ad,Af,Ae,Ac,Ai,Aa]
    repeat ((first | (refine At ?_ ?_; (focus (simp (disch:=omega) only [go_sem,o1,o2,o3,o4,o5,o6,o7,o8,o9,hl2,ha,hv,hb,hu,hw,h2,Ad,Af,Ae,Ac,Ai,Aa]; done))) | (refine Au ?_ ?_; (focus (simp (disch:=omega) only [go_sem,o1,o2,o3,o4,o5,o6,o7,o8,o9,hl2,ha,hv,hb,hu,hw,h2,Ad,Af,Ae,Ac,Ai,Aa]; done)))); (try simp (disch:=omega) only [go_sem,o1,o2,o3,o4,o5,o6,o7,o8,o9,hl2,ha,hv,hb,hu,hw,h2,Ad,Af,Ae,Ac,Ai,Aa]))
   | true =>
    try rw [hw] at hv
    rw [z7]
    cases hq:x.atom.atom with
    | true =>
     rw [hq] at ha
     rw [zE]
     refine Al AE A8 (of_decide_eq_true rfl) ?_
     simp (disch:=omega) only [AB,go_sem,o1,o2,o3,o4,o5,o6,o7,o8,o9,hl2,ha,hv,hb,hu,hw,h2,Ad,Af,Ae,Ac,Ai,Aa]
     repeat ((first | (refine At ?_ ?_; (focus (simp (disch:=omega) only [go_sem,o1,o2,o3,o4,o5,o6,o7,o8,o9,hl2,ha,hv,hb,hu,hw,h2,Ad,Af,Ae,Ac,Ai,Aa]; done))) | (refine Au ?_ ?_; (focus (simp (disch:=omega) only [go_sem,o1,o2,o3,o4,o5,o6,o7,o8,o9,hl2,ha,hv,hb,hu,hw,h2,Ad,Af,Ae,Ac,Ai,Aa]; done)))); (try simp (disch:=omega) only [go_sem,o1,o2,o3,o4,o5,o6,o7,o8,o9,hl2,ha,hv,hb,hu,hw,h2,Ad,Af,Ae,Ac,Ai,Aa]))
    | false =>
     rw [hq] at ha
     rw [zA]
     refine Al AE A8 (of_decide_eq_true rfl) ?_
     simp (disch:=omega) only [AB,go_sem,o1,o2,o3,o4,o5,o6,o7,o8,o9,hl2,ha,hv,hb,hu,hw,h2,Ad,Af,Ae,Ac,Ai,Aa]
     repeat ((first | (refine At ?_ ?_; (focus (simp (disch:=omega) only [go_sem,o1,o2,o3,o4,o5,o6,o7,o8,o9,hl2,ha,hv,hb,hu,hw,h2,Ad,Af,Ae,Ac,Ai,Aa]; done))) | (refine Au ?_ ?_; (focus (simp (disch:=omega) only [go_sem,o1,o2,o3,o4,o5,o6,o7,o8,o9,hl2,ha,hv,hb,hu,hw,h2,Ad,Af,Ae,Ac,Ai,Aa]; done)))); (try simp (disch:=omega) only [go_sem,o1,o2,o3,o4,o5,o6,o7,o8,o9,hl2,ha,hv,hb,hu,hw,h2,Ad,Af,Ae,Ac,Ai,Aa]))
  ·have hl2:dec ((x.parts.length:Int)=0)=false:=Aj (by omega)
   have hl3:(x.parts.length == 0)=false:=by simpa using hl
   rw [hl3,zA,zA,zA]
   refine Al AE A8 (of_decide_eq_true rfl) ?_
   simp (disch:=omega) only [AB,go_sem,o1,o2,o3,o4,o5,o6,o7,o8,o9,hl2,ha,hv,hb,hu, h2,Ad,Af,Ae,Ac,Ai,Aa]
   repeat ((first | (refine At ?_ ?_; (focus (simp (disch:=omega) only [go_sem,o1,o2,o3,o4,o5,o6,o7,o8,o9,hl2,ha,hv,hb,hu, h2,Ad,Af,Ae,Ac,Ai,Aa]; done))) | (refine Au ?_ ?_; (focus (simp (disch:=omega) only [go_sem,o1,o2,o3,o4,o5,o6,o7,o8,o9,hl2,ha,hv,hb,hu, h2,Ad,Af,Ae,Ac,Ai,Aa]; done)))); (try simp (disch:=omega) only [go_sem,o1,o2,o3,o4,o5,o6,o7,o8,o9,hl2,ha,hv,hb,hu, h2,Ad,Af,Ae,Ac,Ai,Aa]))
theorem T1 (x:Fm) (hn:x.atom.nodes≤1099511627776) (hl0:x.parts.length≤1099511627776) (ho:x.op=4) (h2:E 56 [.arr (x.parts.map Fm.d),.fn 87 []] []=some (.bool (x.parts.any fun y=>!y.forms),[])):E 52 [x.sv] []=some (.bool x.forms,[]):=by
 have hf:x.form=(x.parts.length == 1&&x.atom.isZ&&dec (x.var=⟨#[]⟩)):=by unfold Fm.form; rcases ho with ho <;> simp [ho]
 rcases ho with ho
 all_goals
  have o1:dec (x.op=1)=false:=Aj (by omega)
  have o2:dec (x.op=2)=false:=Aj (by omega)
  have o3:dec (x.op=3)=false:=Aj (by omega)
  have o4:dec (x.op=4)=true:=A1 ho
  have o5:dec (x.op=5)=false:=Aj (by omega)
  have o6:dec (x.op=6)=false:=Aj (by omega)
  have o7:dec (x.op=7)=false:=Aj (by omega)
  have o8:dec (x.op=8)=false:=Aj (by omega)
  have o9:dec (x.op=9)=false:=Aj (by omega)
  have ha:=FJ x.atom
  have hv:=CS x.var
  have hb:=Fg x.op
  have hu:=C7 x.op
  rw [o5,o6,o7] at hb
  rw [o8,o9] at hu
  rw [Fm.EH,hf,← Fm.any_not]
  by_cases hl:x.parts.length=1
  ·have hl2:dec ((x.parts.length:Int)=1)=true:=A1 (by omega)
   rw [hl,beq_self_eq_true,zE]
   cases hw:dec (x.var=⟨#[]⟩) with
   | false =>
    try rw [hw] at hv
    rw [zJ,zA]
    refine Al AE A8 (of_decide_eq_true rfl) ?_
    simp (disch:=omega) only [AB,go_sem,o1,o2,o3,o4,o5,o6,o7,o8,o9,hl2,ha,hv,hb,hu,hw,h2,Ad,Af,Ae,Ac,Ai,Aa]
    repeat ((first | (refine At ?_ ?_; (focus (simp (disch:=omega) only [go_sem,o1,o2,o3,o4,o5,o6,o7,o8,o9,hl2,ha,hv,hb,hu,hw,h2,Ad,Af,Ae,Ac,Ai,Aa]; done))) | (refine Au ?_ ?_; (focus (simp (disch:=omega) only [go_sem,o1,o2,o3,o4,o5,o6,o7,o8,o9,hl2,ha,hv,hb,hu,hw,h2,Ad,Af,Ae,Ac,Ai,Aa]; done)))); (try simp (disch:=omega) only [go_sem,o1,o2,o3,o4,o5,o6,o7,o8,o9,hl2,ha,hv,hb,hu,hw,h2,Ad,Af,Ae,Ac,Ai,Aa]))
   | true =>
    try rw [hw] at hv
    rw [z7]
    cases hq:x.atom.isZ with
    | true =>
     rw [hq] at ha
     rw [zE]
     refine Al AE A8 (of_decide_eq_true rfl) ?_
     simp (disch:=omega) only [AB,go_sem,o1,o2,o3,o4,o5,o6,o7,o8,o9,hl2,ha,hv,hb,hu,hw,h2,Ad,Af,Ae,Ac,Ai,Aa]
     repeat ((first | (refine At ?_ ?_; (focus (simp (disch:=omega) only [go_sem,o1,o2,o3,o4,o5,o6,o7,o8,o9,hl2,ha,hv,hb,hu,hw,h2,Ad,Af,Ae,Ac,Ai,Aa]; done))) | (refine Au ?_ ?_; (focus (simp (disch:=omega) only [go_sem,o1,o2,o3,o4,o5,o6,o7,o8,o9,hl2,ha,hv,hb,hu,hw,h2,Ad,Af,Ae,Ac,Ai,Aa]; done)))); (try simp (disch:=omega) only [go_sem,o1,o2,o3,o4,o5,o6,o7,o8,o9,hl2,ha,hv,hb,hu,hw,h2,Ad,Af,Ae,Ac,Ai,Aa]))
    | false =>
     rw [hq] at ha
     rw [zA]
     refine Al AE A8 (of_decide_eq_true rfl) ?_
     simp (disch:=omega) only [AB,go_sem,o1,o2,o3,o4,o5,o6,o7,o8,o9,hl2,ha,hv,hb,hu,hw,h2,Ad,Af,Ae,Ac,Ai,Aa]
     repeat ((first | (refine At ?_ ?_; (focus (simp (disch:=omega) only [go_sem,o1,o2,o3,o4,o5,o6,o7,o8,o9,hl2,ha,hv,hb,hu,hw,h2,Ad,Af,Ae,Ac,Ai,Aa]; done))) | (refine Au ?_ ?_; (focus (simp (disch:=omega) only [go_sem,o1,o2,o3,o4,o5,o6,o7,o8,o9,hl2,ha,hv,hb,hu,hw,h2,Ad,Af,Ae,Ac,Ai,Aa]; done)))); (try simp (disch:=omega) only [go_sem,o1,o2,o3,o4,o5,o6,o7,o8,o9,hl2,ha,hv,hb,hu,hw,h2,Ad,Af,Ae,Ac,Ai,Aa]))
  ·have hl2:dec ((x.parts.length:Int)=1)=false:=Aj (by omega)
   have hl3:(x.parts.length == 1)=false:=by simpa using hl
   rw [hl3,zA,zA,zA]
   refine Al AE A8 (of_decide_eq_true rfl) ?_
   simp (disch:=omega) only [AB,go_sem,o1,o2,o3,o4,o5,o6,o7,o8,o9,hl2,ha,hv,hb,hu, h2,Ad,Af,Ae,Ac,Ai,Aa]
   repeat ((first | (refine At ?_ ?_; (focus (simp (disch:=omega) only [go_sem,o1,o2,o3,o4,o5,o6,o7,o8,o9,hl2,ha,hv,hb,hu, h2,Ad,Af,Ae,Ac,Ai,Aa]; done))) | (refine Au ?_ ?_; (focus (simp (disch:=omega) only [go_sem,o1,o2,o3,o4,o5,o6,o7,o8,o9,hl2,ha,hv,hb,hu, h2,Ad,Af,Ae,Ac,Ai,Aa]; done)))); (try simp (disch:=omega) only [go_sem,o1,o2,o3,o4,o5,o6,o7,o8,o9,hl2,ha,hv,hb,hu, h2,Ad,Af,Ae,Ac,Ai,Aa]))
theorem KQ (x:Fm) (hn:x.atom.nodes≤1099511627776) (hl0:x.parts.length≤1099511627776) (ho:x.op=5∨x.op=6∨x.op=7) (h2:E 56 [.arr (x.parts.map Fm.d),.fn 87 []] []=some (.bool (x.parts.any fun y=>!y.forms),[])):E 52 [x.sv] []=some (.bool x.forms,[]):=by
 have hf:x.form=(x.parts.length == 2&&x.atom.isZ&&dec (x.var=⟨#[]⟩)):=by unfold Fm.form; rcases ho with ho | ho | ho <;> simp [ho]
 rcases ho with ho | ho | ho
 all_goals
  have o1:dec (x.op=1)=false:=Aj (by omega)
  have o2:dec (x.op=2)=false:=Aj (by omega)
  have o3:dec (x.op=3)=false:=Aj (by omega)
  have o4:dec (x.op=4)=false:=Aj (by omega)
  first
   |(have o5:dec (x.op=5)=true:=A1 ho)
   |(have o5:dec (x.op=5)=false:=Aj (by omega))
  first
   |(have o6:dec (x.op=6)=true:=A1 ho)
   |(have o6:dec (x.op=6)=false:=Aj (by omega))
  first
   |(have o7:dec (x.op=7)=true:=A1 ho)
   |(have o7:dec (x.op=7)=false:=Aj (by omega))
  have o8:dec (x.op=8)=false:=Aj (by omega)
  have o9:dec (x.op=9)=false:=Aj (by omega)
  have ha:=FJ x.atom
  have hv:=CS x.var
  have hb:=Fg x.op
  have hu:=C7 x.op
  rw [o5,o6,o7] at hb
  rw [o8,o9] at hu
  rw [Fm.EH,hf,← Fm.any_not]
  by_cases hl:x.parts.length=2
  ·have hl2:dec ((x.parts.length:Int)=2)=true:=A1 (by omega)
   rw [hl,beq_self_eq_true,zE]
   cases hw:dec (x.var=⟨#[]⟩) with
   | false =>
    try rw [hw] at hv
    rw [zJ,zA]
    refine Al AE A8 (of_decide_eq_true rfl) ?_
    simp (disch:=omega) only [AB,go_sem,o1,o2,o3,o4,o5,o6,o7,o8,o9,hl2,ha,hv,hb,hu,hw,h2,Ad,Af,Ae,Ac,Ai,Aa]
    repeat ((first | (refine At ?_ ?_; (focus (simp (disch:=omega) only [go_sem,o1,o2,o3,o4,o5,o6,o7,o8,o9,hl2,ha,hv,hb,hu,hw,h2,Ad,Af,Ae,Ac,Ai,Aa]; done))) | (refine Au ?_ ?_; (focus (simp (disch:=omega) only [go_sem,o1,o2,o3,o4,o5,o6,o7,o8,o9,hl2,ha,hv,hb,hu,hw,h2,Ad,Af,Ae,Ac,Ai,Aa]; done)))); (try simp (disch:=omega) only [go_sem,o1,o2,o3,o4,o5,o6,o7,o8,o9,hl2,ha,hv,hb,hu,hw,h2,Ad,Af,Ae,Ac,Ai,Aa]))
   | true =>
    try rw [hw] at hv
    rw [z7]
    cases hq:x.atom.isZ with
    | true =>
     rw [hq] at ha
     rw [zE]
     refine Al AE A8 (of_decide_eq_true rfl) ?_
     simp (disch:=omega) only [AB,go_sem,o1,o2,o3,o4,o5,o6,o7,o8,o9,hl2,ha,hv,hb,hu,hw,h2,Ad,Af,Ae,Ac,Ai,Aa]
     repeat ((first | (refine At ?_ ?_; (focus (simp (disch:=omega) only [go_sem,o1,o2,o3,o4,o5,o6,o7,o8,o9,hl2,ha,hv,hb,hu,hw,h2,Ad,Af,Ae,Ac,Ai,Aa]; done))) | (refine Au ?_ ?_; (focus (simp (disch:=omega) only [go_sem,o1,o2,o3,o4,o5,o6,o7,o8,o9,hl2,ha,hv,hb,hu,hw,h2,Ad,Af,Ae,Ac,Ai,Aa]; done)))); (try simp (disch:=omega) only [go_sem,o1,o2,o3,o4,o5,o6,o7,o8,o9,hl2,ha,hv,hb,hu,hw,h2,Ad,Af,Ae,Ac,Ai,Aa]))
    | false =>
     rw [hq] at ha
     rw [zA]
     refine Al AE A8 (of_decide_eq_true rfl) ?_
     simp (disch:=omega) only [AB,go_sem,o1,o2,o3,o4,o5,o6,o7,o8,o9,hl2,ha,hv,hb,hu,hw,h2,Ad,Af,Ae,Ac,Ai,Aa]
     repeat ((first | (refine At ?_ ?_; (focus (simp (disch:=omega) only [go_sem,o1,o2,o3,o4,o5,o6,o7,o8,o9,hl2,ha,hv,hb,hu,hw,h2,Ad,Af,Ae,Ac,Ai,Aa]; done))) | (refine Au ?_ ?_; (focus (simp (disch:=omega) only [go_sem,o1,o2,o3,o4,o5,o6,o7,o8,o9,hl2,ha,hv,hb,hu,hw,h2,Ad,Af,Ae,Ac,Ai,Aa]; done)))); (try simp (disch:=omega) only [go_sem,o1,o2,o3,o4,o5,o6,o7,o8,o9,hl2,ha,hv,hb,hu,hw,h2,Ad,Af,Ae,Ac,Ai,Aa]))
  ·have hl2:dec ((x.parts.length:Int)=2)=false:=Aj (by omega)
   have hl3:(x.parts.length == 2)=false:=by simpa using hl
   rw [hl3,zA,zA,zA]
   refine Al AE A8 (of_decide_eq_true rfl) ?_
   simp (disch:=omega) only [AB,go_sem,o1,o2,o3,o4,o5,o6,o7,o8,o9,hl2,ha,hv,hb,hu, h2,Ad,Af,Ae,Ac,Ai,Aa]
   repeat ((first | (refine At ?_ ?_; (focus (simp (disch:=omega) only [go_sem,o1,o2,o3,o4,o5,o6,o7,o8,o9,hl2,ha,hv,hb,hu, h2,Ad,Af,Ae,Ac,Ai,Aa]; done))) | (refine Au ?_ ?_; (focus (simp (disch:=omega) only [go_sem,o1,o2,o3,o4,o5,o6,o7,o8,o9,hl2,ha,hv,hb,hu, h2,Ad,Af,Ae,Ac,Ai,Aa]; done)))); (try simp (disch:=omega) only [go_sem,o1,o2,o3,o4,o5,o6,o7,o8,o9,hl2,ha,hv,hb,hu, h2,Ad,Af,Ae,Ac,Ai,Aa]))
theorem O4 (x:Fm) (hn:x.atom.nodes≤1099511627776) (hl0:x.parts.length≤1099511627776) (ho:x.op=8∨x.op=9) (h2:E 56 [.arr (x.parts.map Fm.d),.fn 87 []] []=some (.bool (x.parts.any fun y=>!y.forms),[])):E 52 [x.sv] []=some (.bool x.forms,[]):=by
 have hf:x.form=(x.parts.length == 1&&x.atom.isZ&&Cj x.var):=by unfold Fm.form; rcases ho with ho | ho <;> simp [ho]
 rcases ho with ho | ho
 all_goals
  have o1:dec (x.op=1)=false:=Aj (by omega)
  have o2:dec (x.op=2)=false:=Aj (by omega)
  have o3:dec (x.op=3)=false:=Aj (by omega)
  have o4:dec (x.op=4)=false:=Aj (by omega)
  have o5:dec (x.op=5)=false:=Aj (by omega)
  have o6:dec (x.op=6)=false:=Aj (by omega)
  have o7:dec (x.op=7)=false:=Aj (by omega)
  first
   |(have o8:dec (x.op=8)=true:=A1 ho)
   |(have o8:dec (x.op=8)=false:=Aj (by omega))
  first
   |(have o9:dec (x.op=9)=true:=A1 ho)
   |(have o9:dec (x.op=9)=false:=Aj (by omega))
  have ha:=FJ x.atom
  have hv:=CS x.var
  have hb:=Fg x.op
  have hu:=C7 x.op
  rw [o5,o6,o7] at hb
  rw [o8,o9] at hu
  rw [Fm.EH,hf,← Fm.any_not]
  by_cases hl:x.parts.length=1
  ·have hl2:dec ((x.parts.length:Int)=1)=true:=A1 (by omega)
   rw [hl,beq_self_eq_true,zE]
   cases hw:Cj x.var with
   | false =>
    try rw [hw] at hv
    rw [zJ,zA]
    refine Al AE A8 (of_decide_eq_true rfl) ?_
    simp (disch:=omega) only [AB,go_sem,o1,o2,o3,o4,o5,o6,o7,o8,o9,hl2,ha,hv,hb,hu, h2,Ad,Af,Ae,Ac,Ai,Aa]
    repeat ((first | (refine At ?_ ?_; (focus (simp (disch:=omega) only [go_sem,o1,o2,o3,o4,o5,o6,o7,o8,o9,hl2,ha,hv,hb,hu, h2,Ad,Af,Ae,Ac,Ai,Aa]; done))) | (refine Au ?_ ?_; (focus (simp (disch:=omega) only [go_sem,o1,o2,o3,o4,o5,o6,o7,o8,o9,hl2,ha,hv,hb,hu, h2,Ad,Af,Ae,Ac,Ai,Aa]; done)))); (try simp (disch:=omega) only [go_sem,o1,o2,o3,o4,o5,o6,o7,o8,o9,hl2,ha,hv,hb,hu, h2,Ad,Af,Ae,Ac,Ai,Aa]))
   | true =>
    try rw [hw] at hv
    rw [z7]
    cases hq:x.atom.isZ with
    | true =>
     rw [hq] at ha
     rw [zE]
     refine Al AE A8 (of_decide_eq_true rfl) ?_
     simp (disch:=omega) only [AB,go_sem,o1,o2,o3,o4,o5,o6,o7,o8,o9,hl2,ha,hv,hb,hu, h2,Ad,Af,Ae,Ac,Ai,Aa]
     repeat ((first | (refine At ?_ ?_; (focus (simp (disch:=omega) only [go_sem,o1,o2,o3,o4,o5,o6,o7,o8,o9,hl2,ha,hv,hb,hu, h2,Ad,Af,Ae,Ac,Ai,Aa]; done))) | (refine Au ?_ ?_; (focus (simp (disch:=omega) only [go_sem,o1,o2,o3,o4,o5,o6,o7,o8,o9,hl2,ha,hv,hb,hu, h2,Ad,Af,Ae,Ac,Ai,Aa]; done)))); (try simp (disch:=omega) only [go_sem,o1,o2,o3,o4,o5,o6,o7,o8,o9,hl2,ha,hv,hb,hu, h2,Ad,Af,Ae,Ac,Ai,Aa]))
    | false =>
     rw [hq] at ha
     rw [zA]
     refine Al AE A8 (of_decide_eq_true rfl) ?_
     simp (disch:=omega) only [AB,go_sem,o1,o2,o3,o4,o5,o6,o7,o8,o9,hl2,ha,hv,hb,hu, h2,Ad,Af,Ae,Ac,Ai,Aa]
     repeat ((first | (refine At ?_ ?_; (focus (simp (disch:=omega) only [go_sem,o1,o2,o3,o4,o5,o6,o7,o8,o9,hl2,ha,hv,hb,hu, h2,Ad,Af,Ae,Ac,Ai,Aa]; done))) | (refine Au ?_ ?_; (focus (simp (disch:=omega) only [go_sem,o1,o2,o3,o4,o5,o6,o7,o8,o9,hl2,ha,hv,hb,hu, h2,Ad,Af,Ae,Ac,Ai,Aa]; done)))); (try simp (disch:=omega) only [go_sem,o1,o2,o3,o4,o5,o6,o7,o8,o9,hl2,ha,hv,hb,hu, h2,Ad,Af,Ae,Ac,Ai,Aa]))
  ·have hl2:dec ((x.parts.length:Int)=1)=false:=Aj (by omega)
   have hl3:(x.parts.length == 1)=false:=by simpa using hl
   rw [hl3,zA,zA,zA]
   refine Al AE A8 (of_decide_eq_true rfl) ?_
   simp (disch:=omega) only [AB,go_sem,o1,o2,o3,o4,o5,o6,o7,o8,o9,hl2,ha,hv,hb,hu, h2,Ad,Af,Ae,Ac,Ai,Aa]
   repeat ((first | (refine At ?_ ?_; (focus (simp (disch:=omega) only [go_sem,o1,o2,o3,o4,o5,o6,o7,o8,o9,hl2,ha,hv,hb,hu, h2,Ad,Af,Ae,Ac,Ai,Aa]; done))) | (refine Au ?_ ?_; (focus (simp (disch:=omega) only [go_sem,o1,o2,o3,o4,o5,o6,o7,o8,o9,hl2,ha,hv,hb,hu, h2,Ad,Af,Ae,Ac,Ai,Aa]; done)))); (try simp (disch:=omega) only [go_sem,o1,o2,o3,o4,o5,o6,o7,o8,o9,hl2,ha,hv,hb,hu, h2,Ad,Af,Ae,Ac,Ai,Aa]))
theorem R9 (x:Fm) (ht:x.tame) (hn:x.nodes≤1099511627776) (ih:∀ y∈x.parts,E 52 [y.sv] []=some (.bool y.forms,[])):E 52 [x.sv] []=some (.bool x.forms,[]):=by
 have hl:=Fm.length_le x.parts
 have hx:=Fm.nodes_eq x
 have ha:=Fm.LL ht
 have h1:∀ y∈x.parts,E 87 [y.sv] []=some (.bool (!y.forms),[]):=fun y hy=>by
  have h:=ih y hy
  refine Al KO Hs (of_decide_eq_true rfl) ?_
  simp (disch:=omega) only [Hr,go_sem,Ab,h,A8]
 have h2:=JE 87 (fun y=>!y.forms) x.parts (by omega) KP (by rw [Hs]) h1
 rcases MR x.op with h | h | h | h | h | h | h | h | h | h
 ·exact O3 x ha (by omega) (.inl h) h2
 ·exact O3 x ha (by omega) (.inr h) h2
 ·exact T0 x ha (by omega) h h2
 ·exact T1 x ha (by omega) h h2
 ·exact KQ x ha (by omega) (.inl h) h2
 ·exact KQ x ha (by omega) (.inr (.inl h)) h2
 ·exact KQ x ha (by omega) (.inr (.inr h)) h2
 ·exact O4 x ha (by omega) (.inl h) h2
 ·exact O4 x ha (by omega) (.inr h) h2
 ·obtain ⟨k1,k2,k3,k4,k5,k6,k7,k8,k9⟩:=h
  have hf:x.form=false:=by unfold Fm.form; simp [k1,k2,k3,k4,k5,k6,k7,k8,k9]
  have o1:=Aj k1
  have o2:=Aj k2
  have o3:=Aj k3
  have o4:=Aj k4
  have o5:=Aj k5
  have o6:=Aj k6
  have o7:=Aj k7
  have o8:=Aj k8
  have o9:=Aj k9
  have hb:=Fg x.op
  have hu:=C7 x.op
  rw [o5,o6,o7] at hb
  rw [o8,o9] at hu
  rw [Fm.EH,hf,zA]
  refine Al AE A8 (of_decide_eq_true rfl) ?_
  simp (disch:=omega) only [AB,go_sem,o1,o2,o3,o4,o5,o6,o7,o8,o9,hb,hu,Ac,Ai]
  repeat ((first | (refine At ?_ ?_; (focus (simp (disch:=omega) only [go_sem,o1,o2,o3,o4,o5,o6,o7,o8,o9,hb,hu,Ac,Ai]; done))) | (refine Au ?_ ?_; (focus (simp (disch:=omega) only [go_sem,o1,o2,o3,o4,o5,o6,o7,o8,o9,hb,hu,Ac,Ai]; done)))); (try simp (disch:=omega) only [go_sem,o1,o2,o3,o4,o5,o6,o7,o8,o9,hb,hu,Ac,Ai]))
theorem O5 (x:Fm) (ht:x.tame) (hn:x.nodes≤1099511627776):E 52 [x.sv] []=some (.bool x.forms,[]) :=
 R9 x ht hn fun y hy=>O5 y (Fm.On ht hy) (by have:=Fm.nodes_mem hy; have:=Fm.nodes_eq x; omega)
termination_by SizeOf.sizeOf x
decreasing_by exact Fm.lt_of_mem hy
theorem KR (x:Fm) (ht:x.tame) (hn:x.nodes≤1099511627776):E 21 [x.sv] []=some (.bool x.valid,[]):=by
 have h1:=S2 x hn
 have h2:=O5 x ht hn
 have h3:=Fm.cap_spec x
 unfold Fm.valid
 rcases zD 40 x.nodes with h5 | h5
 ·rw [decide_eq_false (by omega),zA]
  have d:dec (x.cap≤40)=false:=Aj (by omega)
  refine Al ER BC (of_decide_eq_true rfl) ?_
  simp (disch:=omega) only [DD,go_sem,Ab,h1,h2,d,Ek,A8]
 ·rw [decide_eq_true h5,zE]
  have d:dec (x.cap≤40)=true:=A1 (by omega)
  refine Al ER BC (of_decide_eq_true rfl) ?_
  simp (disch:=omega) only [DD,go_sem,Ab,h1,h2,d,Ek,A8]
theorem Vi (x:Fm) (ht:x.tame) (hn:x.nodes≤1099511627776):E 26 [x.sv] []=some (.bool x.valid,[]):=by
 have h1:=S3 x 40 (by omega) (by omega) hn
 have h2:=O2 x ht hn
 have h3:=Fm.many_spec x 40
 unfold Fm.valid
 rcases zD 40 x.nodes with h5 | h5
 ·rw [decide_eq_false (by omega),zA]
  have d:dec ((x.many 40)≤40)=false:=Aj (by omega)
  refine Al Jl DB (of_decide_eq_true rfl) ?_
  simp (disch:=omega) only [GH,go_sem,Ab,h1,h2,d,El,Do]
 ·rw [decide_eq_true h5,zE]
  have d:dec ((x.many 40)≤40)=true:=A1 (by omega)
  refine Al Jl DB (of_decide_eq_true rfl) ?_
  simp (disch:=omega) only [GH,go_sem,Ab,h1,h2,d,El,Do]
theorem Vj (xs:List ByteArray) (h:xs.length≤1048576):E 114 [.arr (xs.map fun s=>[D.str s])] []=some (.ref 0,[.row 9 1 (xs.map fun s=>[OT.str s])]):=by
 rw [Re (g:=KB) (by unfold modes; rfl)]
 unfold KB
 simp only
 rw [A1 ⟨fun e he=>by obtain ⟨s,_,rfl⟩:=yB.1 he; exact ⟨s,rfl⟩,by simpa using h⟩,cond_true,yF]
 rfl
theorem F8:modes 114=⟨[],.asis,some KB,false⟩:=by unfold modes; rfl
theorem Pi {x:Fm} (h:x.form=true) (ho:x.op=3):E 113 [x.atom.sv] []=some (.ref 0,[.row 9 1 ((IT [] x.atom.vs).map fun s=>[OT.str s])]):=by
 have ha:=(Fm.FO h ho).2.1
 have hn:=Tm.H9 ha
 have h1:=Ph x.atom (R1 x.atom ha) (by omega)
 have e:x.atom.vars=IT [] x.atom.vs:=Oz _
 rw [e] at h1
 exact h1
theorem Q1 (b acc:List ByteArray) (n:ByteArray) (ns:List ByteArray):CK acc ((n :: ns).filter fun m=>!dec (m∈b))=CK (bif dec (n∈b) then acc else HA acc n) (ns.filter fun m=>!dec (m∈b)):=by
 rw [List.filter_cons]
 cases dec (n∈b) with
 | true=>rfl
 | false=>rfl
def Fj:SC:=(.seq (.reg [⟨some 4,none,.boxv 33 5 (.t 1)⟩,⟨some 6,none,.mv (.c .nil)⟩]) (.seq (.seq (.reg [⟨some 11,none,.faddr 0 (.t 4)⟩,⟨some 12,none,.load false 1 (.t 11)⟩,⟨some 13,none,.bin .eql false (.t 12) (.c (.int .i64 3))⟩]) (.cond (.t 13) (.seq (.seq (.reg [⟨some 14,none,.faddr 1 (.t 4)⟩,⟨some 15,none,.load true 2 (.t 14)⟩,⟨some 16,none,.call 113 [(.t 15)]⟩,⟨some 17,none,.len false (.t 16)⟩,⟨some 18,none,.mv (.c (.int .i64 0))⟩]) (.block 0 (.loop [1,0,1,0,0,0,0,0,0,0,0,0,0,0,0,0,1,1,1,0,0,0,0,0,0,0,0,0,0,0,0,0,0,0,0,0,0,0,0,0,0,0,0,0,0,0,0,0,0,0,0,0,0,0,0,0,0,0,0,0] (.seq (.reg [⟨some 19,none,.bin .lss false (.t 18) (.t 17)⟩]) (.seq (.cond (.t 19) .skip (.exit 0)) (.seq (.block 1 (.seq (.reg [⟨some 20,none,.iaddr 1 (.t 16) (.t 18)⟩,⟨some 21,none,.load false 1 (.t 20)⟩,⟨some 8,none,.mv (.t 21)⟩]) (.seq (.reg [⟨some 22,none,.mv (.t 2)⟩,⟨some 23,none,.mv (.t 8)⟩,⟨some 24,none,.call 58 [(.t 22),(.t 23)]⟩,⟨some 25,none,.un .not (.t 24)⟩,⟨some 26,none,.mv (.t 25)⟩,⟨(some 27),(some (26,true)),(.mv (.t 0))⟩,⟨(some 28),(some (26,true)),(.mv (.t 8))⟩,⟨(some 29),(some (26,true)),(.call 58 [(.t 27),(.t 28)])⟩,⟨(some 30),(some (26,true)),(.un .not (.t 29))⟩,⟨some 31,none,.pick (.t 26) (.t 30) (.c (.bool false))⟩]) (.cond (.t 31) (.reg [⟨some 32,none,.mv (.t 0)⟩,⟨some 33,none,.mv (.t 8)⟩,⟨(some 34),none,(.mkrow 9 1 [(.str ⟨#[]⟩)] 1 [(0,(.t 33))])⟩,⟨(some 35),none,(.append 9 1 16 [(.str ⟨#[]⟩)] (.t 32) (.t 34))⟩,⟨some 0,none,.mv (.t 35)⟩]) .skip)))) (.reg [⟨some 36,none,.bin .add false (.t 18) (.c (.int .i64 1))⟩,⟨some 18,none,.mv (.t 36)⟩]))))))) (.seq (.reg [⟨some 37,none,.mv (.t 0)⟩,⟨some 6,none,.mv (.t 37)⟩]) .ret)) .skip)) (.seq (.seq (.reg [⟨some 38,none,.faddr 0 (.t 4)⟩,⟨some 39,none,.load false 1 (.t 38)⟩,⟨some 40,none,.call 54 [(.t 39)]⟩]) (.cond (.t 40) (.dreg [[],[0],[],[2],[3,2],[1,0,4,3,2],[5,1,0,4,3,2]] [⟨some 41,none,.mv (.t 2)⟩,⟨some 42,none,.call 114 [(.t 41)]⟩,⟨some 43,none,.faddr 3 (.t 4)⟩,⟨some 44,none,.load false 1 (.t 43)⟩,⟨(some 45),none,(.mkrow 9 1 [(.str ⟨#[]⟩)] 1 [(0,(.t 44))])⟩,⟨(some 46),none,(.append 9 1 16 [(.str ⟨#[]⟩)] (.t 42) (.t 45))⟩,⟨some 2,none,.mv (.t 46)⟩]) .skip)) (.seq (.seq (.reg [⟨some 47,none,.faddr 4 (.t 4)⟩,⟨some 48,none,.load false 1 (.t 47)⟩,⟨some 49,none,.len false (.t 48)⟩,⟨some 50,none,.mv (.c (.int .i64 0))⟩]) (.block 2 (.loop [1,0,1,0,0,0,0,0,0,0,0,0,0,0,0,0,0,0,0,0,0,0,0,0,0,0,0,0,0,0,0,0,0,0,0,0,0,0,0,0,0,0,0,0,0,0,0,0,1,1,1,0,0,0,0,0,0,0,0,0] (.seq (.reg [⟨some 51,none,.bin .lss false (.t 50) (.t 49)⟩]) (.seq (.cond (.t 51) .skip (.exit 2)) (.seq (.block 3 (.seq (.reg [⟨some 52,none,.iaddr 5 (.t 48) (.t 50)⟩,⟨some 53,none,.load true 5 (.t 52)⟩,⟨(some 10),none,(.alloc 33 [(.int .i64 0),(.str ⟨#[]⟩),.nil,(.str ⟨#[]⟩),.nil])⟩,⟨none,none,(.store 5 (.t 10) (.t 53))⟩]) (.reg [⟨some 54,none,.mv (.t 0)⟩,⟨some 55,none,.load true 5 (.t 10)⟩,⟨some 56,none,.mv (.t 2)⟩,⟨some 57,none,.call 93 [(.t 54),(.t 55),(.t 56)]⟩,⟨some 0,none,.mv (.t 57)⟩]))) (.reg [⟨some 58,none,.bin .add false (.t 50) (.c (.int .i64 1))⟩,⟨some 50,none,.mv (.t 58)⟩]))))))) (.seq (.reg [⟨some 59,none,.mv (.t 0)⟩,⟨some 6,none,.mv (.t 59)⟩]) .ret)))))
theorem GI:As Tryz.prog 93=some ⟨60,Fj,[(.tmp 6)]⟩:=by kernel_rfl
theorem CZ:modes 93=⟨[true],.asis,none,false⟩:=by unfold modes; rfl
def I7:SC:=(.seq (.reg [⟨some 1,none,.boxv 33 5 (.t 0)⟩,⟨some 2,none,.mv (.c .nil)⟩]) (.seq (.reg [⟨(some 4),none,(.mkrow 9 1 [(.str ⟨#[]⟩)] 0 [])⟩,⟨some 5,none,.load true 5 (.t 1)⟩,⟨some 6,none,.call 93 [(.t 4),(.t 5),(.c .nil)]⟩,⟨some 3,none,.mv (.t 6)⟩]) (.seq (.reg [⟨some 7,none,.mv (.t 3)⟩,⟨some 8,none,.call 94 [(.t 7)]⟩]) (.seq (.reg [⟨some 9,none,.mv (.t 3)⟩,⟨some 2,none,.mv (.t 9)⟩]) .ret))))
theorem Ls:As Tryz.prog 59=some ⟨10,I7,[(.tmp 2)]⟩:=by kernel_rfl
theorem Dv:modes 59=⟨[],.asis,none,false⟩:=by unfold modes; rfl
abbrev XH (x:Fm):Prop:=∀ l b:List ByteArray,l.length+x.vn≤1048576→b.length+x.nodes≤1048576→E 93 [.ref 0,x.sv,.arr (b.map fun s=>[D.str s])] [.row 9 1 (l.map fun s=>[OT.str s])]=some ((bif dec (l.length<(CK l (x.fv b)).length) then .ref 1 else .ref 0),(bif dec (l.length<(CK l (x.fv b)).length) then [.gone,.row 9 1 ((CK l (x.fv b)).map fun s=>[OT.str s])] else [.row 9 1 ((CK l (x.fv b)).map fun s=>[OT.str s])]))
theorem T2 (x:Fm) (hx:x.forms=true) (ih:∀ y∈x.parts,XH y):XH x:=by
 intro l b hn hb
 have hfo:=Fm.DT hx
 have hvn:=Fm.MS x
 have hnd:=Fm.nodes_eq x
 have hpl:=Fm.length_le x.parts
 have hfv:=Fm.Qt x b
 have hat:=Fm.Sp hfo
 have hgl:dec (l.length<l.length)=false:=Aj (by omega)
 have hxs:x.sv=.agg [.int .i64 x.op,.str x.atom.name,.arr (x.atom.args.map Tm.d),.str x.var,.arr (x.parts.map Fm.d)]:=rfl
 have has:x.atom.sv=.agg [.str x.atom.name,.arr (x.atom.args.map Tm.d)]:=rfl
 cases ho:dec (x.op=3) with
 | true =>
  rw [ho] at hfv
  simp only [cond_true] at hfv
  have hv:=Pi hfo (Av.1 ho)
  have hil:=I3 x.atom.vs []
  have hvl:=Tm.MX x.atom
  simp only [zT] at hil
  obtain ⟨ns,hns⟩:∃ ns,ns=IT [] x.atom.vs:=⟨_,rfl⟩
  rw [←hns] at hv hfv hil
  rw [hfv]
  refine Al GI CZ (of_decide_eq_true rfl) ?_
  simp (disch:=omega) only [Fj,go_sem,Ab,ho,hv,Ff]
  refine go_loop (α:=Int × (List ByteArray)) (fun a=>⟨slots 60 0 [(0,(bif dec (l.length<(a.2).length) then .ref 1 else .ref 0)),(2,.arr (b.map fun s=>[D.str s])),(16,(bif dec (l.length<(a.2).length) then .ref 2 else .ref 1)),(17,.int .i64 ns.length),(18,.int .i64 (a.1))],(bif dec (l.length<(a.2).length) then [.gone,.row 9 1 ((a.2).map fun s=>[OT.str s]),.row 9 1 (ns.map fun s=>[OT.str s])] else [.row 9 1 ((a.2).map fun s=>[OT.str s]),.row 9 1 (ns.map fun s=>[OT.str s])])⟩) (fun a=>∃ k:Nat,a.1=k∧k≤(ns).length∧CK (a.2) ((ns.drop k).filter fun m=>!dec (m∈b))=CK l (ns.filter fun m=>!dec (m∈b))∧(a.2).length+(ns.length-k)≤1048576∧l.length≤(a.2).length) (fun a=>(ns).length-(a.1).toNat) (0,l) ⟨0,rfl,zH _,by rw [zG],by dsimp only; omega,yI _⟩ (by simp (disch:=omega) only [go_sem,Ab,hgl]) ?_
  rintro ⟨i,acc⟩ ⟨k,hi,hk,hR⟩
  dsimp only at hi hR
  have hni:i.toNat=k:=by omega
  have hni1:(i+1).toNat=k+1:=by omega
  rcases zD k (ns).length with hlt | hge
  ·have hg:(ns.map fun s=>[OT.str s])[k]?=some [OT.str ns[k]]:=by rw [List.getElem?_map,List.getElem?_eq_getElem hlt]; rfl
   obtain ⟨hR1,hR2,hR3⟩:=hR
   rw [zC hlt,Q1] at hR1
   have c1:=F0 b ns[k] (by omega)
   have c2:=F0 acc ns[k] (by omega)
   rcases zD l.length acc.length with q1 | q1
   all_goals
    cases hq:dec (ns[k]∈b) with
    | true =>
     rw [hq] at c1 hR1
     simp only [cond_true] at hR1
     simp (disch:=omega) only [go_sem,Ab,hni,hg,c1,c2,Aw]
     refine ⟨(i+1,acc),⟨k+1,by dsimp only; omega,hlt,hR1,by dsimp only; omega,by dsimp only; omega⟩,by dsimp only; omega,?_⟩
     first | done | simp (disch:=omega) only [go_sem,Ab]
    | false =>
     rw [hq] at c1 hR1
     simp only [cond_false] at hR1
     cases hm:dec (ns[k]∈acc) with
     | true =>
      have e2:HA acc ns[k]=acc:=by unfold HA; rw [hm]; rfl
      rw [hm] at c2
      rw [e2] at hR1
      simp (disch:=omega) only [go_sem,Ab,hni,hg,c1,c2,Aw]
      refine ⟨(i+1,acc),⟨k+1,by dsimp only; omega,hlt,hR1,by dsimp only; omega,by dsimp only; omega⟩,by dsimp only; omega,?_⟩
      first | done | simp (disch:=omega) only [go_sem,Ab]
     | false =>
      have e2:HA acc ns[k]=acc++[ns[k]]:=by unfold HA; rw [hm]; rfl
      have hl1:(acc.map fun s=>[OT.str s])++[[OT.str ns[k]]]=(acc++[ns[k]]).map fun s=>[OT.str s]:=by simp
      have q2:dec (l.length<(acc++[ns[k]]).length)=true:=A1 (by simp; omega)
      rw [hm] at c2
      rw [e2] at hR1
      simp (disch:=omega) only [go_sem,Ab,hni,hg,c1,c2,hl1,Aw]
      refine ⟨(i+1,acc++[ns[k]]),⟨k+1,by dsimp only; omega,hlt,hR1,by simp; omega,by simp; omega⟩,by dsimp only; omega,?_⟩
      first | done | simp (disch:=omega) only [go_sem,Ab,q2,hl1]
  ·rw [zF hge] at hR
   obtain ⟨hR1,hR2,hR3⟩:=hR
   have hR1:acc=_:=hR1
   rw [←hR1]
   rcases zD l.length acc.length with q1 | q1
   ·simp (disch:=omega) only [go_sem,Ab,hni]
   ·simp (disch:=omega) only [go_sem,Ab,hni]
 | false =>
  rw [ho] at hfv
  simp only [cond_false] at hfv
  have hu:=C7 x.op
  cases hq:qB x.op with
  | false =>
   rw [hq] at hfv
   simp only [cond_false] at hfv
   rw [hfv]
   unfold qB at hq
   rw [hq] at hu
   obtain ⟨b',hb'⟩:∃ b',b'=b:=⟨_,rfl⟩
   have hbl:b'.length≤b.length+1:=by rw [hb']; omega
   rw [←hb']
   refine Al GI CZ (of_decide_eq_true rfl) ?_
   simp (disch:=omega) only [Fj,go_sem,Ab,ho,hu,Ac]
   refine go_loop (α:=Int × (List ByteArray)) (fun a=>⟨slots 60 0 [(0,(bif dec (l.length<(a.2).length) then .ref 1 else .ref 0)),(2,.arr (b'.map fun s=>[D.str s])),(48,.arr (x.parts.map Fm.d)),(49,.int .i64 x.parts.length),(50,.int .i64 (a.1))],(bif dec (l.length<(a.2).length) then [.gone,.row 9 1 ((a.2).map fun s=>[OT.str s])] else [.row 9 1 ((a.2).map fun s=>[OT.str s])])⟩) (fun a=>∃ k:Nat,a.1=k∧k≤(x.parts).length∧CK (a.2) (Fm.fvL (x.parts.drop k) b')=CK l (Fm.fvL x.parts b')∧(a.2).length+Fm.vnS (x.parts.drop k)≤1048576∧l.length≤(a.2).length) (fun a=>(x.parts).length-(a.1).toNat) (0,l) ⟨0,rfl,zH _,by rw [zG],by rw [zG]; dsimp only; omega,yI _⟩ (by simp (disch:=omega) only [go_sem,Ab,hgl]) ?_
   rintro ⟨i,acc⟩ ⟨k,hi,hk,hR⟩
   dsimp only at hi hR
   have hni:i.toNat=k:=by omega
   have hni1:(i+1).toNat=k+1:=by omega
   rcases zD k (x.parts).length with hlt | hge
   ·have hg:=get_at Fm.d hlt
    rw [Fm.d_eq] at hg
    obtain ⟨hR1,hR2,hR3⟩:=hR
    rw [zC hlt,Fm.fvL,MZ] at hR1
    rw [zC hlt,Fm.vnS] at hR2
    have hnm:=Fm.nodes_le x.parts k hlt
    have hc:=ih x.parts[k] (zI hlt) acc b' (by omega) (by omega)
    have hlen:=Ho (x.parts[k].fv b') acc
    have hgr:=IQ (x.parts[k].fv b') acc
    have hvl:=Fm.KL x.parts[k] b'
    obtain ⟨acc2,ha2⟩:∃ a,a=CK acc (x.parts[k].fv b'):=⟨_,rfl⟩
    rw [←ha2] at hc hlen hgr hR1
    rcases zD l.length acc.length with q1 | q1 <;> rcases zD acc.length acc2.length with q2 | q2
    all_goals
     first
      |rw [A1 q2] at hc
      |rw [Aj (Nat.not_lt.2 q2)] at hc
     simp only [cond_true,cond_false] at hc
     simp (disch:=omega) only [go_sem,Ab,hni,hg,hc,CZ]
     refine ⟨(i+1,acc2),⟨k+1,by dsimp only; omega,hlt,hR1,by dsimp only; omega,by dsimp only; omega⟩,by dsimp only; omega,?_⟩
     first | done | simp (disch:=omega) only [go_sem,Ab]
   ·rw [zF hge,Fm.fvL] at hR
    obtain ⟨hR1,hR2,hR3⟩:=hR
    have hR1:acc=_:=hR1
    rw [←hR1]
    rcases zD l.length acc.length with q1 | q1
    ·simp (disch:=omega) only [go_sem,Ab,hni]
    ·simp (disch:=omega) only [go_sem,Ab,hni]
  | true =>
   rw [hq] at hfv
   simp only [cond_true] at hfv
   rw [hfv]
   unfold qB at hq
   rw [hq] at hu
   have hcl:=Vj b (by omega)
   have hl1:(b.map fun s=>[OT.str s])++[[OT.str x.var]]=(b++[x.var]).map fun s=>[OT.str s]:=by simp
   obtain ⟨b',hb'⟩:∃ b',b'=b++[x.var]:=⟨_,rfl⟩
   have hbl:b'.length≤b.length+1:=by rw [hb']; simp
   rw [←hb'] at hl1
   rw [←hb']
   refine Al GI CZ (of_decide_eq_true rfl) ?_
   simp (disch:=omega) only [Fj,go_sem,Ab,ho,hu,hcl,hl1,Ac,F8]
   refine go_loop (α:=Int × (List ByteArray)) (fun a=>⟨slots 60 0 [(0,(bif dec (l.length<(a.2).length) then .ref 1 else .ref 0)),(2,(bif dec (l.length<(a.2).length) then .ref 2 else .ref 1)),(48,.arr (x.parts.map Fm.d)),(49,.int .i64 x.parts.length),(50,.int .i64 (a.1))],(bif dec (l.length<(a.2).length) then [.gone,.row 9 1 ((a.2).map fun s=>[OT.str s]),.row 9 1 (b'.map fun s=>[OT.str s])] else [.row 9 1 ((a.2).map fun s=>[OT.str s]),.row 9 1 (b'.map fun s=>[OT.str s])])⟩) (fun a=>∃ k:Nat,a.1=k∧k≤(x.parts).length∧CK (a.2) (Fm.fvL (x.parts.drop k) b')=CK l (Fm.fvL x.parts b')∧(a.2).length+Fm.vnS (x.parts.drop k)≤1048576∧l.length≤(a.2).length) (fun a=>(x.parts).length-(a.1).toNat) (0,l) ⟨0,rfl,zH _,by rw [zG],by rw [zG]; dsimp only; omega,yI _⟩ (by simp (disch:=omega) only [go_sem,Ab,hgl]) ?_
   rintro ⟨i,acc⟩ ⟨k,hi,hk,hR⟩
   dsimp only at hi hR
   have hni:i.toNat=k:=by omega
   have hni1:(i+1).toNat=k+1:=by omega
   rcases zD k (x.parts).length with hlt | hge
   ·have hg:=get_at Fm.d hlt
    rw [Fm.d_eq] at hg
    obtain ⟨hR1,hR2,hR3⟩:=hR
    rw [zC hlt,Fm.fvL,MZ] at hR1
    rw [zC hlt,Fm.vnS] at hR2
    have hnm:=Fm.nodes_le x.parts k hlt
    have hc:=ih x.parts[k] (zI hlt) acc b' (by omega) (by omega)
    have hlen:=Ho (x.parts[k].fv b') acc
    have hgr:=IQ (x.parts[k].fv b') acc
    have hvl:=Fm.KL x.parts[k] b'
    obtain ⟨acc2,ha2⟩:∃ a,a=CK acc (x.parts[k].fv b'):=⟨_,rfl⟩
    rw [←ha2] at hc hlen hgr hR1
    rcases zD l.length acc.length with q1 | q1 <;> rcases zD acc.length acc2.length with q2 | q2
    all_goals
     first
      |rw [A1 q2] at hc
      |rw [Aj (Nat.not_lt.2 q2)] at hc
     simp only [cond_true,cond_false] at hc
     simp (disch:=omega) only [go_sem,Ab,hni,hg,hc,CZ]
     refine ⟨(i+1,acc2),⟨k+1,by dsimp only; omega,hlt,hR1,by dsimp only; omega,by dsimp only; omega⟩,by dsimp only; omega,?_⟩
     first | done | simp (disch:=omega) only [go_sem,Ab]
   ·rw [zF hge,Fm.fvL] at hR
    obtain ⟨hR1,hR2,hR3⟩:=hR
    have hR1:acc=_:=hR1
    rw [←hR1]
    rcases zD l.length acc.length with q1 | q1
    ·simp (disch:=omega) only [go_sem,Ab,hni]
    ·simp (disch:=omega) only [go_sem,Ab,hni]
theorem Q2 (x:Fm) (hx:x.forms=true):XH x :=
 T2 x hx fun y hy=>Q2 y (Fm.CY hx hy)
termination_by SizeOf.sizeOf x
decreasing_by exact Fm.lt_of_mem hy
theorem Vk (x:Fm) (hx:x.forms=true) (hv:x.vn≤1048576) (hn:x.nodes≤1048576):E 59 [x.sv] []=some (.ref 0,[.row 9 1 (x.free.map fun s=>[OT.str s])]):=by
 have h1:=Q2 x hx [] [] (by simpa using hv) (by simpa using hn)
 have hl:=Ho (x.fv []) []
 have hfl:=Fm.KL x []
 rw [zT,Nat.zero_add] at hl
 have h2:=Ss (CK [] (x.fv [])) (by omega)
 rw [Oz] at h2
 rw [zR,zR,zT] at h1
 unfold Fm.free
 have hxs:x.sv=.agg [.int .i64 x.op,.str x.atom.name,.arr (x.atom.args.map Tm.d),.str x.var,.arr (x.parts.map Fm.d)]:=rfl
 rcases zD 0 (CK [] (x.fv [])).length with q | q
 ·rw [A1 q] at h1
  simp only [cond_true] at h1
  refine Al Ls Dv (of_decide_eq_true rfl) ?_
  simp (disch:=omega) only [I7,go_sem,Ab,h1,h2,CZ,BE]
 ·rw [Aj (by omega)] at h1
  simp only [cond_false] at h1
  refine Al Ls Dv (of_decide_eq_true rfl) ?_
  simp (disch:=omega) only [I7,go_sem,Ab,h1,h2,CZ,BE]
def B9:SC:=(.seq (.reg [⟨some 3,none,.boxv 26 2 (.t 0)⟩,⟨some 4,none,.boxv 33 5 (.t 1)⟩,⟨some 5,none,.boxv 58 1 (.t 2)⟩,⟨some 6,none,.mv (.c (.bool false))⟩]) (.seq (.seq (.reg [⟨some 9,none,.faddr 0 (.t 4)⟩,⟨some 10,none,.load false 1 (.t 9)⟩,⟨some 11,none,.bin .eql false (.t 10) (.c (.int .i64 3))⟩]) (.cond (.t 11) (.seq (.reg [⟨some 13,none,.load true 2 (.t 3)⟩,⟨some 14,none,.faddr 1 (.t 4)⟩,⟨some 15,none,.load true 2 (.t 14)⟩,⟨some 16,none,.load false 1 (.t 5)⟩,⟨some 17,none,.call 53 [(.t 13),(.t 15),(.t 16)]⟩,⟨some 12,none,.mv (.t 17)⟩,⟨some 18,none,.ext (.t 12) 0⟩,⟨some 19,none,.ext (.t 12) 1⟩,⟨some 7,none,.mv (.t 18)⟩,⟨some 8,none,.mv (.t 19)⟩]) (.seq (.reg [⟨some 20,none,.mv (.t 8)⟩,⟨some 6,none,.mv (.t 20)⟩]) .ret)) .skip)) (.seq (.seq (.reg [⟨some 21,none,.faddr 0 (.t 4)⟩,⟨some 22,none,.load false 1 (.t 21)⟩,⟨some 23,none,.call 54 [(.t 22)]⟩]) (.cond (.t 23) (.reg [⟨some 24,none,.load false 1 (.t 5)⟩,⟨some 25,none,.faddr 3 (.t 4)⟩,⟨some 26,none,.load false 1 (.t 25)⟩,⟨some 27,none,.call 55 [(.t 24),(.t 26),(.c (.int .i64 0))]⟩,⟨none,none,(.store 1 (.t 5) (.t 27))⟩]) .skip)) (.seq (.reg [⟨some 28,none,.faddr 4 (.t 4)⟩,⟨some 29,none,.load false 1 (.t 28)⟩,⟨some 30,none,.mkfn 57 [(.t 3),(.t 5)]⟩,⟨some 31,none,.call 56 [(.t 29),(.t 30)]⟩,⟨some 32,none,.un .not (.t 31)⟩,⟨some 6,none,.mv (.t 32)⟩]) .ret))))
theorem Cg:As Tryz.prog 22=some ⟨33,B9,[(.tmp 6)]⟩:=by kernel_rfl
theorem AW:modes 22=⟨[],.asis,none,false⟩:=by unfold modes; rfl
def CJ:SC:=(.seq (.reg [⟨some 3,none,.boxv 33 5 (.t 0)⟩,⟨some 4,none,.mv (.c (.bool false))⟩]) (.seq (.reg [⟨some 5,none,.load true 2 (.t 1)⟩,⟨some 6,none,.load true 5 (.t 3)⟩,⟨some 7,none,.load false 1 (.t 2)⟩,⟨some 8,none,.call 22 [(.t 5),(.t 6),(.t 7)]⟩,⟨some 9,none,.un .not (.t 8)⟩,⟨some 4,none,.mv (.t 9)⟩]) .ret))
theorem Em:As Tryz.prog 57=some ⟨10,CJ,[(.tmp 4)]⟩:=by kernel_rfl
theorem BV:modes 57=⟨[],.asis,none,false⟩:=by unfold modes; rfl
theorem Bj:HP Tryz.prog 57=true:=by kernel_rfl
def A2:SC:=(.seq (.reg [⟨some 3,none,.boxv 26 2 (.t 0)⟩,⟨some 4,none,.boxv 33 5 (.t 1)⟩,⟨some 6,none,.mv (.c (.bool false))⟩]) (.seq (.seq (.reg [⟨some 10,none,.faddr 0 (.t 4)⟩,⟨some 11,none,.load false 1 (.t 10)⟩]) (.block 0 (.seq (.reg [⟨some 13,none,.bin .eql false (.t 11) (.c (.int .i64 1))⟩,⟨some 12,none,.mv (.t 13)⟩]) (.cond (.t 12) (.seq (.reg [⟨some 6,none,.mv (.c (.bool true))⟩]) .ret) (.seq (.reg [⟨some 15,none,.bin .eql false (.t 11) (.c (.int .i64 3))⟩,⟨some 14,none,.mv (.t 15)⟩]) (.cond (.t 14) (.seq (.reg [⟨some 17,none,.load true 2 (.t 3)⟩,⟨some 18,none,.faddr 1 (.t 4)⟩,⟨some 19,none,.load true 2 (.t 18)⟩,⟨some 20,none,.mv (.t 2)⟩,⟨some 21,none,.call 53 [(.t 17),(.t 19),(.t 20)]⟩,⟨some 16,none,.mv (.t 21)⟩,⟨some 22,none,.ext (.t 16) 0⟩,⟨some 23,none,.ext (.t 16) 1⟩,⟨some 7,none,.mv (.t 22)⟩,⟨some 8,none,.mv (.t 23)⟩]) (.seq (.reg [⟨some 24,none,.mv (.t 7)⟩,⟨some 6,none,.mv (.t 24)⟩]) .ret)) (.seq (.reg [⟨some 26,none,.bin .eql false (.t 11) (.c (.int .i64 4))⟩,⟨some 25,none,.mv (.t 26)⟩]) (.cond (.t 25) (.seq (.dreg [[],[],[1],[2,1],[3,2,1],[],[0,4,3,2,1,5],[6,0,4,3,2,1,5],[7,6,0,4,3,2,1,5]] [⟨some 27,none,.load true 2 (.t 3)⟩,⟨some 28,none,.faddr 4 (.t 4)⟩,⟨some 29,none,.load false 1 (.t 28)⟩,⟨some 30,none,.iaddr 5 (.t 29) (.c (.int .i64 0))⟩,⟨some 31,none,.load true 5 (.t 30)⟩,⟨some 32,none,.mv (.t 2)⟩,⟨some 33,none,.call 23 [(.t 27),(.t 31),(.t 32)]⟩,⟨some 34,none,.un .not (.t 33)⟩,⟨some 6,none,.mv (.t 34)⟩]) .ret) (.seq (.reg [⟨some 36,none,.bin .eql false (.t 11) (.c (.int .i64 5))⟩,⟨some 35,none,.mv (.t 36)⟩]) (.cond (.t 35) (.seq (.dreg [[],[],[1],[2,1],[3,2,1],[],[0,4,3,2,1,5],[6,0,4,3,2,1,5],[7,6,0,4,3,2,1,5],[7,6,0,4,3,2,1,5],[9,7,6,0,4,3,2,1,5],[10,9,7,6,0,4,3,2,1,5],[11,10,9,7,6,0,4,3,2,1,5],[7,6,0,4,3,2,1,5],[8,7,6,0,4,3,2,1,5,12,11,10,9,13],[7,6,0,4,3,2,1,5,14,8,12,11,10,9,13],[15,7,6,0,4,3,2,1,5,14,8,12,11,10,9,13]] [⟨some 37,none,.load true 2 (.t 3)⟩,⟨some 38,none,.faddr 4 (.t 4)⟩,⟨some 39,none,.load false 1 (.t 38)⟩,⟨some 40,none,.iaddr 5 (.t 39) (.c (.int .i64 0))⟩,⟨some 41,none,.load true 5 (.t 40)⟩,⟨some 42,none,.mv (.t 2)⟩,⟨some 43,none,.call 23 [(.t 37),(.t 41),(.t 42)]⟩,⟨some 44,none,.mv (.t 43)⟩,⟨(some 45),(some (44,true)),(.load true 2 (.t 3))⟩,⟨(some 46),(some (44,true)),(.faddr 4 (.t 4))⟩,⟨(some 47),(some (44,true)),(.load false 1 (.t 46))⟩,⟨(some 48),(some (44,true)),(.iaddr 5 (.t 47) (.c (.int .i64 1)))⟩,⟨(some 49),(some (44,true)),(.load true 5 (.t 48))⟩,⟨(some 50),(some (44,true)),(.mv (.t 2))⟩,⟨(some 51),(some (44,true)),(.call 23 [(.t 45),(.t 49),(.t 50)])⟩,⟨some 52,none,.pick (.t 44) (.t 51) (.c (.bool false))⟩,⟨some 6,none,.mv (.t 52)⟩]) .ret) (.seq (.reg [⟨some 54,none,.bin .eql false (.t 11) (.c (.int .i64 6))⟩,⟨some 53,none,.mv (.t 54)⟩]) (.cond (.t 53) (.seq (.dreg [[],[],[1],[2,1],[3,2,1],[],[0,4,3,2,1,5],[6,0,4,3,2,1,5],[7,6,0,4,3,2,1,5],[7,6,0,4,3,2,1,5],[9,7,6,0,4,3,2,1,5],[10,9,7,6,0,4,3,2,1,5],[11,10,9,7,6,0,4,3,2,1,5],[7,6,0,4,3,2,1,5],[8,7,6,0,4,3,2,1,5,12,11,10,9,13],[7,6,0,4,3,2,1,5,14,8,12,11,10,9,13],[15,7,6,0,4,3,2,1,5,14,8,12,11,10,9,13]] [⟨some 55,none,.load true 2 (.t 3)⟩,⟨some 56,none,.faddr 4 (.t 4)⟩,⟨some 57,none,.load false 1 (.t 56)⟩,⟨some 58,none,.iaddr 5 (.t 57) (.c (.int .i64 0))⟩,⟨some 59,none,.load true 5 (.t 58)⟩,⟨some 60,none,.mv (.t 2)⟩,⟨some 61,none,.call 23 [(.t 55),(.t 59),(.t 60)]⟩,⟨some 62,none,.mv (.t 61)⟩,⟨(some 63),(some (62,false)),(.load true 2 (.t 3))⟩,⟨(some 64),(some (62,false)),(.faddr 4 (.t 4))⟩,⟨(some 65),(some (62,false)),(.load false 1 (.t 64))⟩,⟨(some 66),(some (62,false)),(.iaddr 5 (.t 65) (.c (.int .i64 1)))⟩,⟨(some 67),(some (62,false)),(.load true 5 (.t 66))⟩,⟨(some 68),(some (62,false)),(.mv (.t 2))⟩,⟨(some 69),(some (62,false)),(.call 23 [(.t 63),(.t 67),(.t 68)])⟩,⟨some 70,none,.pick (.t 62) (.c (.bool true)) (.t 69)⟩,⟨some 6,none,.mv (.t 70)⟩]) .ret) (.seq (.reg [⟨some 72,none,.bin .eql false (.t 11) (.c (.int .i64 7))⟩,⟨some 71,none,.mv (.t 72)⟩]) (.cond (.t 71) (.seq (.dreg [[],[],[1],[2,1],[3,2,1],[],[0,4,3,2,1,5],[6,0,4,3,2,1,5],[7,6,0,4,3,2,1,5],[8,7,6,0,4,3,2,1,5],[8,7,6,0,4,3,2,1,5],[10,8,7,6,0,4,3,2,1,5],[11,10,8,7,6,0,4,3,2,1,5],[12,11,10,8,7,6,0,4,3,2,1,5],[8,7,6,0,4,3,2,1,5],[9,8,7,6,0,4,3,2,1,5,13,12,11,10,14],[8,7,6,0,4,3,2,1,5,15,9,13,12,11,10,14],[16,8,7,6,0,4,3,2,1,5,15,9,13,12,11,10,14]] [⟨some 73,none,.load true 2 (.t 3)⟩,⟨some 74,none,.faddr 4 (.t 4)⟩,⟨some 75,none,.load false 1 (.t 74)⟩,⟨some 76,none,.iaddr 5 (.t 75) (.c (.int .i64 0))⟩,⟨some 77,none,.load true 5 (.t 76)⟩,⟨some 78,none,.mv (.t 2)⟩,⟨some 79,none,.call 23 [(.t 73),(.t 77),(.t 78)]⟩,⟨some 80,none,.un .not (.t 79)⟩,⟨some 81,none,.mv (.t 80)⟩,⟨(some 82),(some (81,false)),(.load true 2 (.t 3))⟩,⟨(some 83),(some (81,false)),(.faddr 4 (.t 4))⟩,⟨(some 84),(some (81,false)),(.load false 1 (.t 83))⟩,⟨(some 85),(some (81,false)),(.iaddr 5 (.t 84) (.c (.int .i64 1)))⟩,⟨(some 86),(some (81,false)),(.load true 5 (.t 85))⟩,⟨(some 87),(some (81,false)),(.mv (.t 2))⟩,⟨(some 88),(some (81,false)),(.call 23 [(.t 82),(.t 86),(.t 87)])⟩,⟨some 89,none,.pick (.t 81) (.c (.bool true)) (.t 88)⟩,⟨some 6,none,.mv (.t 89)⟩]) .ret) (.seq (.seq (.reg [⟨some 91,none,.bin .eql false (.t 11) (.c (.int .i64 8))⟩,⟨some 90,none,.mv (.t 91)⟩]) (.cond (.t 90) .skip (.reg [⟨some 92,none,.bin .eql false (.t 11) (.c (.int .i64 9))⟩,⟨some 90,none,.mv (.t 92)⟩]))) (.cond (.t 90) (.seq (.seq (.reg [⟨some 93,none,.faddr 0 (.t 3)⟩,⟨some 94,none,.load false 1 (.t 93)⟩,⟨some 95,none,.mv (.c (.int .i64 0))⟩]) (.block 1 (.loop [0,0,1,1,1,0,0,0,0,0,0,0,0,0,0,0,0,0,0,0,0,0,0,0,0,0,0,0,0,0,0,0,0,0,0,0,0,0,0,0,0,0,0,0,0,0,0,0,0,0,0,0,0,0,0,0,0,0,0,0,0,0,0,0,0,0,0,0,0,0,0,0,0,0,0,0,0,0,0,0,0,0,0,0,0,0,0,0,0,0,0,0,0,0,1,1,0,0,0,0,0,0,0,0,0,0,0,0,0,0,0,0,0,0,0,0,0,0,0,0,0,0,0,0,0,0,0,0,0] (.seq (.reg [⟨some 96,none,.bin .lss false (.t 95) (.t 94)⟩]) (.seq (.cond (.t 96) .skip (.exit 1)) (.seq (.block 2 (.seq (.reg [⟨some 97,none,.mv (.t 95)⟩,⟨some 9,none,.mv (.t 97)⟩]) (.seq (.seq (.dreg [[],[],[1],[2,1],[3,2,1],[],[],[6],[],[5,7,6,8],[0,4,3,2,1,9,5,7,6,8],[],[11],[12,11],[10,0,4,3,2,1,9,5,7,6,8,13,12,11]] [⟨some 98,none,.load true 2 (.t 3)⟩,⟨some 99,none,.faddr 4 (.t 4)⟩,⟨some 100,none,.load false 1 (.t 99)⟩,⟨some 101,none,.iaddr 5 (.t 100) (.c (.int .i64 0))⟩,⟨some 102,none,.load true 5 (.t 101)⟩,⟨some 103,none,.mv (.t 2)⟩,⟨some 104,none,.faddr 3 (.t 4)⟩,⟨some 105,none,.load false 1 (.t 104)⟩,⟨some 106,none,.mv (.t 9)⟩,⟨some 107,none,.call 55 [(.t 103),(.t 105),(.t 106)]⟩,⟨some 108,none,.call 23 [(.t 98),(.t 102),(.t 107)]⟩,⟨some 109,none,.faddr 0 (.t 4)⟩,⟨some 110,none,.load false 1 (.t 109)⟩,⟨some 111,none,.bin .eql false (.t 110) (.c (.int .i64 9))⟩,⟨some 112,none,.bin .eql true (.t 108) (.t 111)⟩]) (.cond (.t 112) (.seq (.reg [⟨some 113,none,.faddr 0 (.t 4)⟩,⟨some 114,none,.load false 1 (.t 113)⟩,⟨some 115,none,.bin .eql false (.t 114) (.c (.int .i64 9))⟩,⟨some 6,none,.mv (.t 115)⟩]) .ret) .skip)) (.seq (.dreg [[],[0],[1,0],[2,1,0],[3,2,1,0],[],[5],[4,3,2,1,0,6,5],[7,4,3,2,1,0,6,5]] [⟨some 116,none,.faddr 4 (.t 4)⟩,⟨some 117,none,.load false 1 (.t 116)⟩,⟨some 118,none,.iaddr 5 (.t 117) (.c (.int .i64 0))⟩,⟨some 119,none,.load true 5 (.t 118)⟩,⟨some 120,none,.call 59 [(.t 119)]⟩,⟨some 121,none,.faddr 3 (.t 4)⟩,⟨some 122,none,.load false 1 (.t 121)⟩,⟨some 123,none,.call 58 [(.t 120),(.t 122)]⟩,⟨some 124,none,.un .not (.t 123)⟩]) (.cond (.t 124) (.exit 1) .skip))))) (.reg [⟨some 125,none,.bin .add false (.t 95) (.c (.int .i64 1))⟩,⟨some 95,none,.mv (.t 125)⟩]))))))) (.seq (.reg [⟨some 126,none,.faddr 0 (.t 4)⟩,⟨some 127,none,.load false 1 (.t 126)⟩,⟨some 128,none,.bin .eql false (.t 127) (.c (.int .i64 8))⟩,⟨some 6,none,.mv (.t 128)⟩]) .ret)) .skip)))))))))))))))) (.seq (.reg [⟨some 6,none,.mv (.c (.bool false))⟩]) .ret)))
theorem A4:As Tryz.prog 23=some ⟨129,A2,[(.tmp 6)]⟩:=by kernel_rfl
theorem Ah:modes 23=⟨[],.asis,none,false⟩:=by unfold modes; rfl
abbrev CaC (m:Ip) (e:Env) (x:Fm):Prop:=E 22 [m.sv,x.sv,.mp true (Dj e)] []=some (.bool (x.tr m e).isSome,[])
theorem Fm.T3 {m:Ip} {x:Fm} (hx:x.forms=true) (h3:¬ x.op=3) (hs:1≤m.size) (e:Env):(x.tr m e).isSome=!(x.parts.any fun y=>!(y.tr m (bif qB x.op then Cx e x.var 0 else e)).isSome):=by
 have hf:=Fm.DT hx
 rcases Fm.I5 hf with ho | ho | ho | ho | ho | ho | ho | ho | ho
 ·have hp:x.parts=[]:=by rw [Fm.O0 hf (.inl ho)]; rfl
  rw [Fm.R5 ho,hp]; rfl
 ·have hp:x.parts=[]:=by rw [Fm.O0 hf (.inr ho)]; rfl
  rw [Fm.R6 ho,hp]; rfl
 ·exact absurd ho h3
 ·obtain ⟨p,hp⟩:=Fm.I4 hf ho
  have hp:x.parts=[p]:=by rw [hp]; rfl
  have hq:qB x.op=false:=by unfold qB; rw [Aj (by omega),Aj (by omega)]; rfl
  rw [Fm.JD ho hp,hp,hq,zV]
  simp
 all_goals try
  obtain ⟨p,q,hp⟩:=Fm.EK hf (by omega)
  have hp:x.parts=[p,q]:=by rw [hp]; rfl
  have hq:qB x.op=false:=by unfold qB; rw [Aj (by omega),Aj (by omega)]; rfl
  rw [Fm.Gn (by omega) hp,hp,hq,Nf]
  simp
  done
 all_goals
  obtain ⟨p,hp⟩:=Fm.JC hf (by omega)
  have hp:x.parts=[p]:=by rw [hp]; rfl
  have hq:qB x.op=true:=by unfold qB; rw [ho]; simp [A1]
  rw [Fm.XG hx (by omega) hp hs,hp,hq]
  simp
theorem Fm.Vl {m:Ip} {x:Fm} {e:Env} (h:x.op=3):(x.tr m e).isSome=(x.atom.tru m e).isSome:=by rw [Fm.HE h,zV]
theorem RA (m:Ip) (e:Env) (p:Fm→Bool) (xs:List Fm) (hl:xs.length≤1099511627776) (hg:HP Tryz.prog 57=true) (hm:modes 57=⟨[],.asis,none,false⟩) (hE:∀ x∈xs,E 57 [x.sv,.ptr 0 0,.ptr 1 0] [.box 26 [.int .i64 m.size,.arr (m.tables.map Tl.d)],.box 58 [.mp true (Dj e)]]=some (.bool (p x),[.box 26 [.int .i64 m.size,.arr (m.tables.map Tl.d)],.box 58 [.mp true (Dj e)]])):E 91 [.arr (xs.map Fm.d),.fn 57 [.ptr 0 0,.ptr 1 0]] [.box 26 [.int .i64 m.size,.arr (m.tables.map Tl.d)],.box 58 [.mp true (Dj e)]]=some (.int .i64 (CE p xs 0),[.box 26 [.int .i64 m.size,.arr (m.tables.map Tl.d)],.box 58 [.mp true (Dj e)]]):=by
 refine Al Ca Ba (of_decide_eq_true rfl) ?_
 simp (disch:=omega) only [B3,go_sem,Ab]
 refine go_loop (α:=Int) (fun a=>⟨slots 19 0 [(0,.arr (xs.map Fm.d)),(1,.fn 57 [.ptr 0 0,.ptr 1 0]),(7,.int .i64 xs.length),(8,.int .i64 a)],[.box 26 [.int .i64 m.size,.arr (m.tables.map Tl.d)],.box 58 [.mp true (Dj e)]]⟩) (fun a=>∃ k:Nat,a=k∧k≤(xs).length∧CE p (xs.drop k) a=CE p xs 0) (fun a=>(xs).length-(a).toNat) 0 ⟨0,rfl,zH _,by rw [zG]⟩ (by simp (disch:=omega) only [go_sem,Ab]) ?_
 rintro i ⟨k,hi,hk,hR⟩
 have hni:i.toNat=k:=by omega
 have hni1:(i+1).toNat=k+1:=by omega
 rcases zD k (xs).length with hlt | hge
 ·have hg':=get_at Fm.d hlt
  rw [Fm.d_eq] at hg'
  have hc:=hE xs[k] (zI hlt)
  rw [zC hlt,CE] at hR
  cases hp:p xs[k] with
  | true =>
   rw [hp] at hc hR
   simp (disch:=omega) only [go_sem,Ab,hni,hg',hc,hg,hm]
   simpa using hR
  | false =>
   rw [hp] at hc hR
   simp (disch:=omega) only [go_sem,Ab,hni,hg',hc,hg,hm]
   exact ⟨i+1,⟨k+1,by omega,hlt,by simpa using hR⟩,by omega,by first | trivial | rfl⟩
 ·rw [zF hge,CE] at hR
  simp (disch:=omega) only [go_sem,Ab,hni]
  exact hR
theorem Jm (m:Ip) (e:Env) (p:Fm→Bool) (xs:List Fm) (hl:xs.length≤1099511627776) (hg:HP Tryz.prog 57=true) (hm:modes 57=⟨[],.asis,none,false⟩) (hE:∀ x∈xs,E 57 [x.sv,.ptr 0 0,.ptr 1 0] [.box 26 [.int .i64 m.size,.arr (m.tables.map Tl.d)],.box 58 [.mp true (Dj e)]]=some (.bool (p x),[.box 26 [.int .i64 m.size,.arr (m.tables.map Tl.d)],.box 58 [.mp true (Dj e)]])):E 56 [.arr (xs.map Fm.d),.fn 57 [.ptr 0 0,.ptr 1 0]] [.box 26 [.int .i64 m.size,.arr (m.tables.map Tl.d)],.box 58 [.mp true (Dj e)]]=some (.bool (xs.any p),[.box 26 [.int .i64 m.size,.arr (m.tables.map Tl.d)],.box 58 [.mp true (Dj e)]]):=by
 have h:=RA m e p xs hl hg hm hE
 refine Al BR Aa (of_decide_eq_true rfl) ?_
 simp (disch:=omega) only [Bv,go_sem,Ab,h,Ba]
 rw [Hf]
theorem Vm (m:Ip) (e:Env) (x:Fm) (h:CaC m e x):E 57 [x.sv,.ptr 0 0,.ptr 1 0] [.box 26 [.int .i64 m.size,.arr (m.tables.map Tl.d)],.box 58 [.mp true (Dj e)]]=some (.bool (!(x.tr m e).isSome),[.box 26 [.int .i64 m.size,.arr (m.tables.map Tl.d)],.box 58 [.mp true (Dj e)]]):=by
 unfold CaC at h
 refine Al Em BV (of_decide_eq_true rfl) ?_
 simp (disch:=omega) only [CJ,go_sem,Ab,h,AW]
theorem Ni (m:Ip) (hm:m.ok=true) (ht:m.tame) (x:Fm) (hx:x.forms=true) (hn:x.nodes≤1048576) (e:Env) (he:InE m.size e) (hf:FinE e) (ih:∀ y∈x.parts,∀ e,InE m.size e→FinE e→CaC m e y):CaC m e x:=by
 have hfo:=Fm.DT hx
 obtain ⟨⟨s1,s3⟩,_,_⟩:=Ip.D4 hm
 have hxs:x.sv=.agg [.int .i64 x.op,.str x.atom.name,.arr (x.atom.args.map Tm.d),.str x.var,.arr (x.parts.map Fm.d)]:=rfl
 have has:x.atom.sv=.agg [.str x.atom.name,.arr (x.atom.args.map Tm.d)]:=rfl
 have hpl:=Fm.length_le x.parts
 have hnq:=Fm.nodes_eq x
 have hu:=C7 x.op
 unfold CaC
 cases ho:dec (x.op=3) with
 | true =>
  obtain ⟨b,hct,_⟩:=S1 m hm ht e he x.atom (Fm.FO hfo (Av.1 ho)).2.1
  rw [Fm.Vl (Av.1 ho)]
  refine Al Cg AW (of_decide_eq_true rfl) ?_
  simp (disch:=omega) only [B9,go_sem,Ab,ho,hxs,has,hu,hct,Ac,A3,Bb,Aa,Bj]
 | false =>
  rw [Fm.T3 hx (E4.1 ho) s1 e]
  cases hq:qB x.op with
  | true =>
   have hwi:=R7 e hf x.var 0
   have hcn:=Jm m (Cx e x.var 0) (fun y=>!(y.tr m (Cx e x.var 0)).isSome) x.parts (by omega) Bj BV (fun y hy=>Vm m _ y (ih y hy _ (Kj he (by omega) (by omega) _) (hf.put _ _)))
   unfold qB at hq
   rw [hq] at hu
   rw [cond_true]
   refine Al Cg AW (of_decide_eq_true rfl) ?_
   simp (disch:=omega) only [B9,go_sem,Ab,ho,hxs,has,hu,hwi,hcn,Ac,A3,Bb,Aa,Bj]
  | false =>
   have hcn:=Jm m e (fun y=>!(y.tr m e).isSome) x.parts (by omega) Bj BV (fun y hy=>Vm m _ y (ih y hy _ he hf))
   unfold qB at hq
   rw [hq] at hu
   rw [cond_false]
   refine Al Cg AW (of_decide_eq_true rfl) ?_
   simp (disch:=omega) only [B9,go_sem,Ab,ho,hxs,has,hu,hcn,Ac,A3,Bb,Aa,Bj]
theorem Jn (m:Ip) (hm:m.ok=true) (ht:m.tame) (x:Fm) (hx:x.forms=true) (hn:x.nodes≤1048576) (e:Env) (he:InE m.size e) (hf:FinE e):CaC m e x :=
 Ni m hm ht x hx hn e he hf fun y hy e he hf=>Jn m hm ht y (Fm.CY hx hy) (by have:=Fm.nodes_mem hy; have:=Fm.nodes_eq x; omega) e he hf
termination_by SizeOf.sizeOf x
decreasing_by exact Fm.lt_of_mem hy
abbrev HoC (m:Ip) (e:Env) (x:Fm):Prop:=∀ b,x.tr m e=some b→E 23 [m.sv,x.sv,.mp true (Dj e)] []=some (.bool b,[])
theorem holds_of (m:Ip) (hm:m.ok=true) (ht:m.tame) (x:Fm) (hx:x.forms=true) (hn:x.nodes≤30000) (e:Env) (he:InE m.size e) (hf:FinE e) (ih:∀ y∈x.parts,∀ e,InE m.size e→FinE e→HoC m e y):HoC m e x:=by
 intro b hb
 have hfo:=Fm.DT hx
 obtain ⟨⟨s1,s3⟩,_,_⟩:=Ip.D4 hm
 have hxs:x.sv=.agg [.int .i64 x.op,.str x.atom.name,.arr (x.atom.args.map Tm.d),.str x.var,.arr (x.parts.map Fm.d)]:=rfl
 have has:x.atom.sv=.agg [.str x.atom.name,.arr (x.atom.args.map Tm.d)]:=rfl
 have hpl:=Fm.length_le x.parts
 have hnq:=Fm.nodes_eq x
 have hms:(m.size.toNat:Int)=m.size:=by omega
 rcases Fm.I5 hfo with ho | ho | ho | ho | ho | ho | ho | ho | ho
 ·rw [Fm.R5 ho] at hb
  obtain rfl:=zM hb
  have d1:dec (x.op=1)=true:=A1 (by omega)
  have d2:dec (x.op=2)=false:=Aj (by omega)
  have d3:dec (x.op=3)=false:=Aj (by omega)
  have d4:dec (x.op=4)=false:=Aj (by omega)
  have d5:dec (x.op=5)=false:=Aj (by omega)
  have d6:dec (x.op=6)=false:=Aj (by omega)
  have d7:dec (x.op=7)=false:=Aj (by omega)
  have d8:dec (x.op=8)=false:=Aj (by omega)
  have d9:dec (x.op=9)=false:=Aj (by omega)
  refine Al A4 Ah (of_decide_eq_true rfl) ?_
  simp (disch:=omega) only [A2,go_sem,d1,d2,d3,d4,d5,d6,d7,d8,d9]
  repeat ((first | (refine At ?_ ?_; (focus (simp (disch:=omega) only [go_sem,d1,d2,d3,d4,d5,d6,d7,d8,d9]; done))) | (refine Au ?_ ?_; (focus (simp (disch:=omega) only [go_sem,d1,d2,d3,d4,d5,d6,d7,d8,d9]; done)))); (try simp (disch:=omega) only [go_sem,d1,d2,d3,d4,d5,d6,d7,d8,d9]))
 ·rw [Fm.R6 ho] at hb
  obtain rfl:=zM hb
  have d1:dec (x.op=1)=false:=Aj (by omega)
  have d2:dec (x.op=2)=true:=A1 (by omega)
  have d3:dec (x.op=3)=false:=Aj (by omega)
  have d4:dec (x.op=4)=false:=Aj (by omega)
  have d5:dec (x.op=5)=false:=Aj (by omega)
  have d6:dec (x.op=6)=false:=Aj (by omega)
  have d7:dec (x.op=7)=false:=Aj (by omega)
  have d8:dec (x.op=8)=false:=Aj (by omega)
  have d9:dec (x.op=9)=false:=Aj (by omega)
  refine Al A4 Ah (of_decide_eq_true rfl) ?_
  simp (disch:=omega) only [A2,go_sem,d1,d2,d3,d4,d5,d6,d7,d8,d9]
  repeat ((first | (refine At ?_ ?_; (focus (simp (disch:=omega) only [go_sem,d1,d2,d3,d4,d5,d6,d7,d8,d9]; done))) | (refine Au ?_ ?_; (focus (simp (disch:=omega) only [go_sem,d1,d2,d3,d4,d5,d6,d7,d8,d9]; done)))); (try simp (disch:=omega) only [go_sem,d1,d2,d3,d4,d5,d6,d7,d8,d9]))
 ·rw [Fm.HE ho] at hb
  have d1:dec (x.op=1)=false:=Aj (by omega)
  have d2:dec (x.op=2)=false:=Aj (by omega)
  have d3:dec (x.op=3)=true:=A1 (by omega)
  have d4:dec (x.op=4)=false:=Aj (by omega)
  have d5:dec (x.op=5)=false:=Aj (by omega)
  have d6:dec (x.op=6)=false:=Aj (by omega)
  have d7:dec (x.op=7)=false:=Aj (by omega)
  have d8:dec (x.op=8)=false:=Aj (by omega)
  have d9:dec (x.op=9)=false:=Aj (by omega)
  obtain ⟨c,hct,hcv⟩:=S1 m hm ht e he x.atom (Fm.FO hfo ho).2.1
  cases hv:x.atom.tru m e with
  | none=>rw [hv] at hb; cases hb
  | some n =>
   rw [hv] at hb hct
   have hb:some (dec (n=1))=some b:=hb
   obtain rfl:=zM hb
   have hcv:=hcv n hv
   subst hcv
   refine Al A4 Ah (of_decide_eq_true rfl) ?_
   simp (disch:=omega) only [A2,go_sem,d1,d2,d3,d4,d5,d6,d7,d8,d9,hct,A3]
   repeat ((first | (refine At ?_ ?_; (focus (simp (disch:=omega) only [go_sem,d1,d2,d3,d4,d5,d6,d7,d8,d9,hct,A3]; done))) | (refine Au ?_ ?_; (focus (simp (disch:=omega) only [go_sem,d1,d2,d3,d4,d5,d6,d7,d8,d9,hct,A3]; done)))); (try simp (disch:=omega) only [go_sem,d1,d2,d3,d4,d5,d6,d7,d8,d9,hct,A3]))
 ·
  have d1:dec (x.op=1)=false:=Aj (by omega)
  have d2:dec (x.op=2)=false:=Aj (by omega)
  have d3:dec (x.op=3)=false:=Aj (by omega)
  have d4:dec (x.op=4)=true:=A1 (by omega)
  have d5:dec (x.op=5)=false:=Aj (by omega)
  have d6:dec (x.op=6)=false:=Aj (by omega)
  have d7:dec (x.op=7)=false:=Aj (by omega)
  have d8:dec (x.op=8)=false:=Aj (by omega)
  have d9:dec (x.op=9)=false:=Aj (by omega)
  obtain ⟨p,hp⟩:=Fm.I4 hfo ho
  have hp:x.parts=[p]:=by rw [hp]; rfl
  have hpl1:0<x.parts.length:=by rw [hp]; simp
  have hpe:x.parts[0]=p:=by simp [hp]
  have hgp:=get_at Fm.d hpl1
  rw [Fm.d_eq,hpe] at hgp
  rw [Fm.JD ho hp] at hb
  cases hv:p.tr m e with
  | none=>rw [hv] at hb; cases hb
  | some v =>
   rw [hv] at hb
   have hb:some (!v)=some b:=hb
   obtain rfl:=zM hb
   have hc:=ih p (by rw [hp]; simp) e he hf v hv
   refine Al A4 Ah (of_decide_eq_true rfl) ?_
   simp (disch:=omega) only [A2,go_sem,d1,d2,d3,d4,d5,d6,d7,d8,d9,hgp,hc,Ah]
   repeat ((first | (refine At ?_ ?_; (focus (simp (disch:=omega) only [go_sem,d1,d2,d3,d4,d5,d6,d7,d8,d9,hgp,hc,Ah]; done))) | (refine Au ?_ ?_; (focus (simp (disch:=omega) only [go_sem,d1,d2,d3,d4,d5,d6,d7,d8,d9,hgp,hc,Ah]; done)))); (try simp (disch:=omega) only [go_sem,d1,d2,d3,d4,d5,d6,d7,d8,d9,hgp,hc,Ah]))
 ·
  have d1:dec (x.op=1)=false:=Aj (by omega)
  have d2:dec (x.op=2)=false:=Aj (by omega)
  have d3:dec (x.op=3)=false:=Aj (by omega)
  have d4:dec (x.op=4)=false:=Aj (by omega)
  have d5:dec (x.op=5)=true:=A1 (by omega)
  have d6:dec (x.op=6)=false:=Aj (by omega)
  have d7:dec (x.op=7)=false:=Aj (by omega)
  have d8:dec (x.op=8)=false:=Aj (by omega)
  have d9:dec (x.op=9)=false:=Aj (by omega)
  obtain ⟨p,q,hp⟩:=Fm.EK hfo (by omega)
  have hp:x.parts=[p,q]:=by rw [hp]; rfl
  have hpl2:1<x.parts.length:=by rw [hp]; simp
  have hpl1:0<x.parts.length:=by omega
  have hpe:x.parts[0]=p:=by simp [hp]
  have hqe:x.parts[1]=q:=by simp [hp]
  have hgp:=get_at Fm.d hpl1
  have hgq:=get_at Fm.d hpl2
  rw [Fm.d_eq,hpe] at hgp
  rw [Fm.d_eq,hqe] at hgq
  rw [Fm.Gn (by omega) hp] at hb
  cases hv1:p.tr m e with
  | none=>rw [hv1] at hb; cases hb
  | some u =>
   cases hv2:q.tr m e with
   | none=>rw [hv1,hv2] at hb; cases hb
   | some v =>
    rw [hv1,hv2] at hb
    have hb:some (conn x.op u v)=some b:=hb
    obtain rfl:=zM hb
    have hc1:=ih p (by rw [hp]; simp) e he hf u hv1
    have hc2:=ih q (by rw [hp]; simp) e he hf v hv2
    unfold conn
    rw [d5,d6]
    cases u
    ·refine Al A4 Ah (of_decide_eq_true rfl) ?_
     simp (disch:=omega) only [A2,go_sem,d1,d2,d3,d4,d5,d6,d7,d8,d9,hgp,hgq,hc1,hc2,Ah]
     repeat ((first | (refine At ?_ ?_; (focus (simp (disch:=omega) only [go_sem,d1,d2,d3,d4,d5,d6,d7,d8,d9,hgp,hgq,hc1,hc2,Ah]; done))) | (refine Au ?_ ?_; (focus (simp (disch:=omega) only [go_sem,d1,d2,d3,d4,d5,d6,d7,d8,d9,hgp,hgq,hc1,hc2,Ah]; done)))); (try simp (disch:=omega) only [go_sem,d1,d2,d3,d4,d5,d6,d7,d8,d9,hgp,hgq,hc1,hc2,Ah]))
     try rfl
    ·refine Al A4 Ah (of_decide_eq_true rfl) ?_
     simp (disch:=omega) only [A2,go_sem,d1,d2,d3,d4,d5,d6,d7,d8,d9,hgp,hgq,hc1,hc2,Ah]
     repeat ((first | (refine At ?_ ?_; (focus (simp (disch:=omega) only [go_sem,d1,d2,d3,d4,d5,d6,d7,d8,d9,hgp,hgq,hc1,hc2,Ah]; done))) | (refine Au ?_ ?_; (focus (simp (disch:=omega) only [go_sem,d1,d2,d3,d4,d5,d6,d7,d8,d9,hgp,hgq,hc1,hc2,Ah]; done)))); (try simp (disch:=omega) only [go_sem,d1,d2,d3,d4,d5,d6,d7,d8,d9,hgp,hgq,hc1,hc2,Ah]))
     try rfl
 ·
  have d1:dec (x.op=1)=false:=Aj (by omega)
  have d2:dec (x.op=2)=false:=Aj (by omega)
  have d3:dec (x.op=3)=false:=Aj (by omega)
  have d4:dec (x.op=4)=false:=Aj (by omega)
  have d5:dec (x.op=5)=false:=Aj (by omega)
  have d6:dec (x.op=6)=true:=A1 (by omega)
  have d7:dec (x.op=7)=false:=Aj (by omega)
  have d8:dec (x.op=8)=false:=Aj (by omega)
  have d9:dec (x.op=9)=false:=Aj (by omega)
  obtain ⟨p,q,hp⟩:=Fm.EK hfo (by omega)
  have hp:x.parts=[p,q]:=by rw [hp]; rfl
  have hpl2:1<x.parts.length:=by rw [hp]; simp
  have hpl1:0<x.parts.length:=by omega
  have hpe:x.parts[0]=p:=by simp [hp]
  have hqe:x.parts[1]=q:=by simp [hp]
  have hgp:=get_at Fm.d hpl1
  have hgq:=get_at Fm.d hpl2
  rw [Fm.d_eq,hpe] at hgp
  rw [Fm.d_eq,hqe] at hgq
  rw [Fm.Gn (by omega) hp] at hb
  cases hv1:p.tr m e with
  | none=>rw [hv1] at hb; cases hb
  | some u =>
   cases hv2:q.tr m e with
   | none=>rw [hv1,hv2] at hb; cases hb
   | some v =>
    rw [hv1,hv2] at hb
    have hb:some (conn x.op u v)=some b:=hb
    obtain rfl:=zM hb
    have hc1:=ih p (by rw [hp]; simp) e he hf u hv1
    have hc2:=ih q (by rw [hp]; simp) e he hf v hv2
    unfold conn
    rw [d5,d6]
    cases u
    ·refine Al A4 Ah (of_decide_eq_true rfl) ?_
     simp (disch:=omega) only [A2,go_sem,d1,d2,d3,d4,d5,d6,d7,d8,d9,hgp,hgq,hc1,hc2,Ah]
     repeat ((first | (refine At ?_ ?_; (focus (simp (disch:=omega) only [go_sem,d1,d2,d3,d4,d5,d6,d7,d8,d9,hgp,hgq,hc1,hc2,Ah]; done))) | (refine Au ?_ ?_; (focus (simp (disch:=omega) only [go_sem,d1,d2,d3,d4,d5,d6,d7,d8,d9,hgp,hgq,hc1,hc2,Ah]; done)))); (try simp (disch:=omega) only [go_sem,d1,d2,d3,d4,d5,d6,d7,d8,d9,hgp,hgq,hc1,hc2,Ah]))
     try rfl
    ·refine Al A4 Ah (of_decide_eq_true rfl) ?_
     simp (disch:=omega) only [A2,go_sem,d1,d2,d3,d4,d5,d6,d7,d8,d9,hgp,hgq,hc1,hc2,Ah]
     repeat ((first | (refine At ?_ ?_; (focus (simp (disch:=omega) only [go_sem,d1,d2,d3,d4,d5,d6,d7,d8,d9,hgp,hgq,hc1,hc2,Ah]; done))) | (refine Au ?_ ?_; (focus (simp (disch:=omega) only [go_sem,d1,d2,d3,d4,d5,d6,d7,d8,d9,hgp,hgq,hc1,hc2,Ah]; done)))); (try simp (disch:=omega) only [go_sem,d1,d2,d3,d4,d5,d6,d7,d8,d9,hgp,hgq,hc1,hc2,Ah]))
     try rfl
 ·
  have d1:dec (x.op=1)=false:=Aj (by omega)
  have d2:dec (x.op=2)=false:=Aj (by omega)
  have d3:dec (x.op=3)=false:=Aj (by omega)
  have d4:dec (x.op=4)=false:=Aj (by omega)
  have d5:dec (x.op=5)=false:=Aj (by omega)
  have d6:dec (x.op=6)=false:=Aj (by omega)
  have d7:dec (x.op=7)=true:=A1 (by omega)
  have d8:dec (x.op=8)=false:=Aj (by omega)
  have d9:dec (x.op=9)=false:=Aj (by omega)
  obtain ⟨p,q,hp⟩:=Fm.EK hfo (by omega)
  have hp:x.parts=[p,q]:=by rw [hp]; rfl
  have hpl2:1<x.parts.length:=by rw [hp]; simp
  have hpl1:0<x.parts.length:=by omega
  have hpe:x.parts[0]=p:=by simp [hp]
  have hqe:x.parts[1]=q:=by simp [hp]
  have hgp:=get_at Fm.d hpl1
  have hgq:=get_at Fm.d hpl2
  rw [Fm.d_eq,hpe] at hgp
  rw [Fm.d_eq,hqe] at hgq
  rw [Fm.Gn (by omega) hp] at hb
  cases hv1:p.tr m e with
  | none=>rw [hv1] at hb; cases hb
  | some u =>
   cases hv2:q.tr m e with
   | none=>rw [hv1,hv2] at hb; cases hb
   | some v =>
    rw [hv1,hv2] at hb
    have hb:some (conn x.op u v)=some b:=hb
    obtain rfl:=zM hb
    have hc1:=ih p (by rw [hp]; simp) e he hf u hv1
    have hc2:=ih q (by rw [hp]; simp) e he hf v hv2
    unfold conn
    rw [d5,d6]
    cases u
    ·refine Al A4 Ah (of_decide_eq_true rfl) ?_
     simp (disch:=omega) only [A2,go_sem,d1,d2,d3,d4,d5,d6,d7,d8,d9,hgp,hgq,hc1,hc2,Ah]
     repeat ((first | (refine At ?_ ?_; (focus (simp (disch:=omega) only [go_sem,d1,d2,d3,d4,d5,d6,d7,d8,d9,hgp,hgq,hc1,hc2,Ah]; done))) | (refine Au ?_ ?_; (focus (simp (disch:=omega) only [go_sem,d1,d2,d3,d4,d5,d6,d7,d8,d9,hgp,hgq,hc1,hc2,Ah]; done)))); (try simp (disch:=omega) only [go_sem,d1,d2,d3,d4,d5,d6,d7,d8,d9,hgp,hgq,hc1,hc2,Ah]))
     try rfl
    ·refine Al A4 Ah (of_decide_eq_true rfl) ?_
     simp (disch:=omega) only [A2,go_sem,d1,d2,d3,d4,d5,d6,d7,d8,d9,hgp,hgq,hc1,hc2,Ah]
     repeat ((first | (refine At ?_ ?_; (focus (simp (disch:=omega) only [go_sem,d1,d2,d3,d4,d5,d6,d7,d8,d9,hgp,hgq,hc1,hc2,Ah]; done))) | (refine Au ?_ ?_; (focus (simp (disch:=omega) only [go_sem,d1,d2,d3,d4,d5,d6,d7,d8,d9,hgp,hgq,hc1,hc2,Ah]; done)))); (try simp (disch:=omega) only [go_sem,d1,d2,d3,d4,d5,d6,d7,d8,d9,hgp,hgq,hc1,hc2,Ah]))
     try rfl
 ·
  have d1:dec (x.op=1)=false:=Aj (by omega)
  have d2:dec (x.op=2)=false:=Aj (by omega)
  have d3:dec (x.op=3)=false:=Aj (by omega)
  have d4:dec (x.op=4)=false:=Aj (by omega)
  have d5:dec (x.op=5)=false:=Aj (by omega)
  have d6:dec (x.op=6)=false:=Aj (by omega)
  have d7:dec (x.op=7)=false:=Aj (by omega)
  have d8:dec (x.op=8)=true:=A1 (by omega)
  have d9:dec (x.op=9)=false:=Aj (by omega)
  obtain ⟨p,hp⟩:=Fm.JC hfo (by omega)
  have hp:x.parts=[p]:=by rw [hp]; rfl
  have hpl1:0<x.parts.length:=by rw [hp]; simp
  have hpe:x.parts[0]=p:=by simp [hp]
  have hgp:=get_at Fm.d hpl1
  rw [Fm.d_eq,hpe] at hgp
  have hpm:p∈x.parts:=by rw [hp]; simp
  have hpf:=Fm.CY hx hpm
  have hpn:=Fm.nodes_mem hpm
  have hvn:=Fm.UV p hpf
  have hfr:=Vk p hpf (by omega) (by omega)
  have hfl:=I3 (p.fv []) []
  have hfv:=Fm.KL p []
  have hcn:=F0 p.free x.var (by unfold Fm.free; rw [zT] at hfl; omega)
  rw [Fm.Qx (by omega) hp] at hb
  cases hov:CA (fun k=>p.tr m (Cx e x.var k)) m.size.toNat with
  | none=>rw [hov] at hb; cases hb
  | some as_ =>
   obtain ⟨a,s⟩:=as_
   rw [hov] at hb
   have hb:some (bif dec (x.op=8) then a else s)=some b:=hb
   obtain rfl:=zM hb
   have hat:=fun k hk=>Ng hov k hk
   have htf:(true == false)=false:=rfl
   have hft:(false == true)=false:=rfl
   rw [d8]
   simp only [cond_true,cond_false]
   refine Al A4 Ah (of_decide_eq_true rfl) ?_
   simp (disch:=omega) only [A2,go_sem,d1,d2,d3,d4,d5,d6,d7,d8,d9]
   repeat ((first | (refine At ?_ ?_; (focus (simp (disch:=omega) only [go_sem,d1,d2,d3,d4,d5,d6,d7,d8,d9]; done))) | (refine Au ?_ ?_; (focus (simp (disch:=omega) only [go_sem,d1,d2,d3,d4,d5,d6,d7,d8,d9]; done)))); (try simp (disch:=omega) only [go_sem,d1,d2,d3,d4,d5,d6,d7,d8,d9]))
   refine go_loop (α:=Int) (fun i=>⟨slots 129 0 [(2,.mp true (Dj e)),(3,.ptr 0 0),(4,.ptr 1 0),(94,.int .i64 m.size),(95,.int .i64 i)],[.box 26 [.int .i64 m.size,.arr (m.tables.map Tl.d)],.box 33 [.int .i64 x.op,.str x.atom.name,.arr (x.atom.args.map Tm.d),.str x.var,.arr (x.parts.map Fm.d)]]⟩) (fun i=>∃ k:Nat,i=k∧k≤m.size.toNat∧∀ j:Nat,j<k→p.tr m (Cx e x.var j)=some true) (fun i=>m.size.toNat-i.toNat) 0 ⟨0,rfl,zH _,fun j hj=>by omega⟩ (by simp (disch:=omega) only [go_sem,Ab]) ?_
   rintro i ⟨k,hi,hk,hR⟩
   rcases yA i m.size with hlt | hge
   ·have hwi:=R7 e hf x.var i
    obtain ⟨v,hv,v0,v1⟩:=hat k (by omega)
    have hi':p.tr m (Cx e x.var i)=some v:=by rw [hi]; exact hv
    have hc:=ih p hpm _ (Kj he (by omega) (by omega) _) (hf.put _ _) v hi'
    cases v with
    | false =>
     have hfin:=v0 rfl
     rw [hfin]
     simp (disch:=omega) only [go_sem,Ab,d1,d2,d3,d4,d5,d6,d7,d8,d9,htf,hft,hgp,hwi,hc,hfr,hcn,Dv,Aw,Bb,Ah]
    | true =>
     cases hm2:dec (x.var∈p.free) with
     | true =>
      rw [hm2] at hcn
      simp (disch:=omega) only [go_sem,Ab,d1,d2,d3,d4,d5,d6,d7,d8,d9,htf,hft,hgp,hwi,hc,hfr,hcn,Dv,Aw,Bb,Ah]
      refine ⟨i+1,⟨k+1,by omega,by omega,fun j hj=>?_⟩,by omega,by first | trivial | rfl⟩
      rcases zD j k with h | h
      ·exact hR j h
      ·obtain rfl:j=k:=by omega
       exact hv
     | false =>
      rw [hm2] at hcn
      have hnf:¬ x.var∈p.fv []:=fun h=>(E4.1 hm2) ((Fm.Qu p _).2 h)
      have hall:=Hq (p:=fun k=>p.tr m (Cx e x.var k)) (b:=true) (n:=m.size.toNat) (fun j _=>by rw [Fm.Sz hpf hnf e j k]; exact hv) (by omega)
      rw [hall] at hov
      simp only [zY,z6] at hov
      obtain ⟨rfl,rfl⟩:=hov
      simp (disch:=omega) only [go_sem,Ab,d1,d2,d3,d4,d5,d6,d7,d8,d9,htf,hft,hgp,hwi,hc,hfr,hcn,Dv,Aw,Bb,Ah]
   ·have hall:=Hq (p:=fun k=>p.tr m (Cx e x.var k)) (b:=true) (n:=m.size.toNat) (fun j hj=>hR j (by omega)) (by omega)
    rw [hall] at hov
    simp only [zY,z6] at hov
    obtain ⟨rfl,rfl⟩:=hov
    simp (disch:=omega) only [go_sem,Ab,d1,d2,d3,d4,d5,d6,d7,d8,d9]
 ·
  have d1:dec (x.op=1)=false:=Aj (by omega)
  have d2:dec (x.op=2)=false:=Aj (by omega)
  have d3:dec (x.op=3)=false:=Aj (by omega)
  have d4:dec (x.op=4)=false:=Aj (by omega)
  have d5:dec (x.op=5)=false:=Aj (by omega)
  have d6:dec (x.op=6)=false:=Aj (by omega)
  have d7:dec (x.op=7)=false:=Aj (by omega)
  have d8:dec (x.op=8)=false:=Aj (by omega)
  have d9:dec (x.op=9)=true:=A1 (by omega)
  obtain ⟨p,hp⟩:=Fm.JC hfo (by omega)
  have hp:x.parts=[p]:=by rw [hp]; rfl
  have hpl1:0<x.parts.length:=by rw [hp]; simp
  have hpe:x.parts[0]=p:=by simp [hp]
  have hgp:=get_at Fm.d hpl1
  rw [Fm.d_eq,hpe] at hgp
  have hpm:p∈x.parts:=by rw [hp]; simp
  have hpf:=Fm.CY hx hpm
  have hpn:=Fm.nodes_mem hpm
  have hvn:=Fm.UV p hpf
  have hfr:=Vk p hpf (by omega) (by omega)
  have hfl:=I3 (p.fv []) []
  have hfv:=Fm.KL p []
  have hcn:=F0 p.free x.var (by unfold Fm.free; rw [zT] at hfl; omega)
  rw [Fm.Qx (by omega) hp] at hb
  cases hov:CA (fun k=>p.tr m (Cx e x.var k)) m.size.toNat with
  | none=>rw [hov] at hb; cases hb
  | some as_ =>
   obtain ⟨a,s⟩:=as_
   rw [hov] at hb
   have hb:some (bif dec (x.op=8) then a else s)=some b:=hb
   obtain rfl:=zM hb
   have hat:=fun k hk=>Ng hov k hk
   have htf:(true == false)=false:=rfl
   have hft:(false == true)=false:=rfl
   rw [d8]
   simp only [cond_true,cond_false]
   refine Al A4 Ah (of_decide_eq_true rfl) ?_
   simp (disch:=omega) only [A2,go_sem,d1,d2,d3,d4,d5,d6,d7,d8,d9]
   repeat ((first | (refine At ?_ ?_; (focus (simp (disch:=omega) only [go_sem,d1,d2,d3,d4,d5,d6,d7,d8,d9]; done))) | (refine Au ?_ ?_; (focus (simp (disch:=omega) only [go_sem,d1,d2,d3,d4,d5,d6,d7,d8,d9]; done)))); (try simp (disch:=omega) only [go_sem,d1,d2,d3,d4,d5,d6,d7,d8,d9]))
   refine go_loop (α:=Int) (fun i=>⟨slots 129 0 [(2,.mp true (Dj e)),(3,.ptr 0 0),(4,.ptr 1 0),(94,.int .i64 m.size),(95,.int .i64 i)],[.box 26 [.int .i64 m.size,.arr (m.tables.map Tl.d)],.box 33 [.int .i64 x.op,.str x.atom.name,.arr (x.atom.args.map Tm.d),.str x.var,.arr (x.parts.map Fm.d)]]⟩) (fun i=>∃ k:Nat,i=k∧k≤m.size.toNat∧∀ j:Nat,j<k→p.tr m (Cx e x.var j)=some false) (fun i=>m.size.toNat-i.toNat) 0 ⟨0,rfl,zH _,fun j hj=>by omega⟩ (by simp (disch:=omega) only [go_sem,Ab]) ?_
   rintro i ⟨k,hi,hk,hR⟩
   rcases yA i m.size with hlt | hge
   ·have hwi:=R7 e hf x.var i
    obtain ⟨v,hv,v0,v1⟩:=hat k (by omega)
    have hi':p.tr m (Cx e x.var i)=some v:=by rw [hi]; exact hv
    have hc:=ih p hpm _ (Kj he (by omega) (by omega) _) (hf.put _ _) v hi'
    cases v with
    | true =>
     have hfin:=v1 rfl
     rw [hfin]
     simp (disch:=omega) only [go_sem,Ab,d1,d2,d3,d4,d5,d6,d7,d8,d9,htf,hft,hgp,hwi,hc,hfr,hcn,Dv,Aw,Bb,Ah]
    | false =>
     cases hm2:dec (x.var∈p.free) with
     | true =>
      rw [hm2] at hcn
      simp (disch:=omega) only [go_sem,Ab,d1,d2,d3,d4,d5,d6,d7,d8,d9,htf,hft,hgp,hwi,hc,hfr,hcn,Dv,Aw,Bb,Ah]
      refine ⟨i+1,⟨k+1,by omega,by omega,fun j hj=>?_⟩,by omega,by first | trivial | rfl⟩
      rcases zD j k with h | h
      ·exact hR j h
      ·obtain rfl:j=k:=by omega
       exact hv
     | false =>
      rw [hm2] at hcn
      have hnf:¬ x.var∈p.fv []:=fun h=>(E4.1 hm2) ((Fm.Qu p _).2 h)
      have hall:=Hq (p:=fun k=>p.tr m (Cx e x.var k)) (b:=false) (n:=m.size.toNat) (fun j _=>by rw [Fm.Sz hpf hnf e j k]; exact hv) (by omega)
      rw [hall] at hov
      simp only [zY,z6] at hov
      obtain ⟨rfl,rfl⟩:=hov
      simp (disch:=omega) only [go_sem,Ab,d1,d2,d3,d4,d5,d6,d7,d8,d9,htf,hft,hgp,hwi,hc,hfr,hcn,Dv,Aw,Bb,Ah]
   ·have hall:=Hq (p:=fun k=>p.tr m (Cx e x.var k)) (b:=false) (n:=m.size.toNat) (fun j hj=>hR j (by omega)) (by omega)
    rw [hall] at hov
    simp only [zY,z6] at hov
    obtain ⟨rfl,rfl⟩:=hov
    simp (disch:=omega) only [go_sem,Ab,d1,d2,d3,d4,d5,d6,d7,d8,d9]
theorem S4 (m:Ip) (hm:m.ok=true) (ht:m.tame) (x:Fm) (hx:x.forms=true) (hn:x.nodes≤30000) (e:Env) (he:InE m.size e) (hf:FinE e):HoC m e x :=
 holds_of m hm ht x hx hn e he hf fun y hy e he hf=>S4 m hm ht y (Fm.CY hx hy) (by have:=Fm.nodes_mem hy; have:=Fm.nodes_eq x; omega) e he hf
termination_by SizeOf.sizeOf x
decreasing_by exact Fm.lt_of_mem hy
end Go.Proofs.YtoglfpfdhojaaaaGreat
