/-
  Texts of this claim, one behind the other, each built on those ahead of it. No condition.
-/
import Derived.Test.YtfgkiemoglcppaaGreatK28b
import Derived.Test.YtfgkiemoglcppaaGreatK28c
import Derived.Test.YtfgkiemoglcppaaGreatK28d
import Derived.ProofKit
import Derived.Deep.Slices
import Derived.Deep.Fields
import Derived.ChangeSame
import Derived.OpenShut
import Derived.ShutString
import Derived.ChangeOld
set_option maxHeartbeats 16000000
open Bool renaming and_eq_true → zB
open List renaming length_cons → zC, length_append → zD, getElem_mem → zE, getElem?_eq_getElem → zF, length_nil → zG, range → zH, map_nil → zI, drop_eq_getElem_cons → zJ, cons_append → zK, map_cons → zO
open Nat renaming lt_or_ge → zL, zero_le → zN
open List.cons renaming injEq → zM
set_option maxRecDepth 100000
set_option linter.unusedSimpArgs false
set_option linter.unusedVariables false
set_option linter.unusedSectionVars false
namespace Go.Proofs.YtfgkiemoglcppaaGreat
open Go.RowKit
def Jd:SC:=(.seq (.reg [⟨some 1,none,.boxv 33 5 (.t 0)⟩,⟨some 2,none,.mv (.c (.int .i64 0))⟩]) (.seq (.reg [⟨some 3,none,.mv (.c (.int .i64 1))⟩]) (.seq (.seq (.reg [⟨some 4,none,.mv (.c (.int .i64 0))⟩]) (.block 0 (.loop [0,1,0,1,1,0,0,0,0,0,0,0,0,0,0,0,0,0,0,0,0] (.seq (.seq (.reg [⟨some 5,none,.mv (.t 4)⟩,⟨some 6,none,.faddr 4 (.t 1)⟩,⟨some 7,none,.load false 1 (.t 6)⟩,⟨some 8,none,.len false (.t 7)⟩,⟨some 9,none,.bin .lss false (.t 5) (.t 8)⟩]) (.cond (.t 9) .skip (.exit 0))) (.seq (.block 1 (.reg [⟨some 12,none,.mv (.t 3)⟩,⟨some 13,none,.faddr 4 (.t 1)⟩,⟨some 14,none,.load false 1 (.t 13)⟩,⟨some 15,none,.mv (.t 4)⟩,⟨some 16,none,.iaddr 5 (.t 14) (.t 15)⟩,⟨some 17,none,.load true 5 (.t 16)⟩,⟨some 18,none,.call 58 [(.t 17)]⟩,⟨some 19,none,.bin .add false (.t 12) (.t 18)⟩,⟨some 3,none,.mv (.t 19)⟩])) (.reg [⟨some 10,none,.mv (.t 4)⟩,⟨some 11,none,.bin .add false (.t 10) (.c (.int .i64 1))⟩,⟨some 4,none,.mv (.t 11)⟩])))))) (.seq (.reg [⟨some 20,none,.mv (.t 3)⟩,⟨some 2,none,.mv (.t 20)⟩]) .ret))))
theorem N7:codeOf Tryz.prog 58=some ⟨21,Jd,[(.tmp 2)]⟩:=by kernel_rfl
theorem Bu:modes 58=⟨[],.asis,none,false⟩:=by unfold modes; rfl
def AP:SC:=(.seq (.reg [⟨(some 2),none,(.alloc 33 [(.int .i64 0),(.str ⟨#[]⟩),.nil,(.str ⟨#[]⟩),.nil])⟩]) (.seq (.reg [⟨some 5,none,.mv (.t 0)⟩,⟨some 6,none,.call 56 [(.t 5)]⟩,⟨(some 3),none,(.alloc 33 [(.int .i64 0),(.str ⟨#[]⟩),.nil,(.str ⟨#[]⟩),.nil])⟩,⟨none,none,(.store 5 (.t 3) (.t 6))⟩]) (.seq (.seq (.reg [⟨some 7,none,.mv (.t 0)⟩,⟨some 8,none,.call 37 [(.t 7),(.c (.int .i64 24))]⟩]) (.block 0 (.seq (.reg [⟨some 10,none,.bin .eql false (.t 8) (.c (.int .i64 0))⟩,⟨some 9,none,.mv (.t 10)⟩]) (.cond (.t 9) (.reg [⟨some 11,none,.mv (.t 0)⟩,⟨some 12,none,.call 37 [(.t 11),(.c (.int .i64 11))]⟩,⟨some 13,none,.faddr 0 (.t 3)⟩,⟨none,none,(.store 1 (.t 13) (.t 12))⟩]) (.seq (.reg [⟨some 15,none,.bin .eql false (.t 8) (.c (.int .i64 1))⟩,⟨some 14,none,.mv (.t 15)⟩]) (.cond (.t 14) (.reg [⟨some 16,none,.mv (.t 0)⟩,⟨(some 17),none,(.mkrow 9 1 [(.str ⟨#[]⟩)] 3 [(0,(.c (.str ⟨#[88]⟩))),(1,(.c (.str ⟨#[97]⟩))),(2,(.c (.str ⟨#[]⟩)))])⟩,⟨some 18,none,.call 54 [(.t 16),(.t 17)]⟩,⟨some 19,none,.faddr 3 (.t 3)⟩,⟨none,none,(.store 1 (.t 19) (.t 18))⟩]) (.seq (.reg [⟨some 21,none,.bin .eql false (.t 8) (.c (.int .i64 2))⟩,⟨some 20,none,.mv (.t 21)⟩]) (.cond (.t 20) (.reg [⟨some 22,none,.mv (.t 0)⟩,⟨some 23,none,.call 57 [(.t 22)]⟩,⟨some 24,none,.faddr 1 (.t 3)⟩,⟨none,none,(.store 2 (.t 24) (.t 23))⟩]) (.seq (.reg [⟨some 26,none,.bin .eql false (.t 8) (.c (.int .i64 3))⟩,⟨some 25,none,.mv (.t 26)⟩]) (.cond (.t 25) (.dreg [[],[0],[],[2],[3,2],[1,0,4,3,2],[0,1,2,3,4,5],[6,0,1,2,3,4,5]] [⟨some 27,none,.faddr 4 (.t 3)⟩,⟨some 28,none,.load false 1 (.t 27)⟩,⟨some 29,none,.mv (.t 0)⟩,⟨some 30,none,.call 56 [(.t 29)]⟩,⟨(some 31),none,(.mkrow 33 5 [(.int .i64 0),(.str ⟨#[]⟩),.nil,(.str ⟨#[]⟩),.nil] 1 [(0,(.t 30))])⟩,⟨(some 32),none,(.append 33 5 88 [(.int .i64 0),(.str ⟨#[]⟩),.nil,(.str ⟨#[]⟩),.nil] (.t 28) (.t 31))⟩,⟨some 33,none,.faddr 4 (.t 3)⟩,⟨none,none,(.store 1 (.t 33) (.t 32))⟩]) (.seq (.reg [⟨some 35,none,.bin .eql false (.t 8) (.c (.int .i64 4))⟩,⟨some 34,none,.mv (.t 35)⟩]) (.cond (.t 34) (.seq (.reg [⟨some 36,none,.mv (.t 0)⟩,⟨some 37,none,.call 37 [(.t 36),(.c (.int .i64 5))]⟩,⟨some 38,none,.bin .add false (.c (.int .i64 36)) (.t 37)⟩,⟨some 4,none,.mv (.t 38)⟩]) (.block 1 (.loop [0,0,1,1,1,0,0,0,0,0,0,0,0,0,0,0,0,0,0,0,0,0,0,0,0,0,0,0,0,0,0,0,0,0,0,0,0,0,0,0,0,0,0,0,0,0,0,0,0,0,0,0,0,0,0,0,0,0,0] (.seq (.seq (.reg [⟨some 39,none,.load true 5 (.t 3)⟩,⟨some 40,none,.call 58 [(.t 39)]⟩,⟨some 41,none,.mv (.t 4)⟩,⟨some 42,none,.bin .lss false (.t 40) (.t 41)⟩]) (.cond (.t 42) .skip (.exit 1))) (.block 2 (.reg [⟨some 43,none,.load true 5 (.t 3)⟩,⟨(some 44),none,(.mkrow 33 5 [(.int .i64 0),(.str ⟨#[]⟩),.nil,(.str ⟨#[]⟩),.nil] 1 [(0,(.t 43))])⟩,⟨(some 45),none,(.build [(.int .i64 0),(.str ⟨#[]⟩),.nil,(.str ⟨#[]⟩),.nil] [(0,(1,(.c (.int .i64 4)))),(4,(1,(.t 44)))])⟩,⟨none,none,(.store 5 (.t 3) (.t 45))⟩])))))) (.seq (.reg [⟨some 47,none,.bin .eql false (.t 8) (.c (.int .i64 5))⟩,⟨some 46,none,.mv (.t 47)⟩]) (.cond (.t 46) (.seq (.reg [⟨some 48,none,.faddr 4 (.t 3)⟩,⟨some 49,none,.load false 1 (.t 48)⟩,⟨some 50,none,.len false (.t 49)⟩,⟨some 51,none,.bin .gtr false (.t 50) (.c (.int .i64 0))⟩]) (.cond (.t 51) (.dreg [[],[0],[],[2],[1,0,2,3],[4,1,0,2,3],[5,4,1,0,2,3]] [⟨some 52,none,.faddr 4 (.t 3)⟩,⟨some 53,none,.load false 1 (.t 52)⟩,⟨some 54,none,.mv (.t 0)⟩,⟨some 55,none,.call 37 [(.t 54),(.c (.int .i64 11))]⟩,⟨some 56,none,.iaddr 5 (.t 53) (.c (.int .i64 0))⟩,⟨some 57,none,.faddr 0 (.t 56)⟩,⟨none,none,(.store 1 (.t 57) (.t 55))⟩]) .skip)) .skip)))))))))))))) (.seq (.reg [⟨some 58,none,.load true 5 (.t 3)⟩,⟨none,none,(.store 5 (.t 2) (.t 58))⟩]) .ret))))
theorem Ba:codeOf Tryz.prog 27=some ⟨59,AP,[(.cell 2 true 5)]⟩:=by kernel_rfl
theorem AQ:modes 27=⟨[],.half [none,none,some (30,2),none,some (33,5)],none,false⟩:=by unfold modes; rfl
theorem U0 (x:Fm) (hn:x.nodes≤1099511627776) (ih:∀ y∈x.parts,E 58 [y.sv] []=some (.int .i64 y.nodes,[])):E 58 [x.sv] []=some (.int .i64 x.nodes,[]):=by
 have hl:=Fm.length_le x.parts
 have hne:=Fm.nodes_eq x
 refine Ai N7 Bu (of_decide_eq_true rfl) ?_
 simp (disch:=omega) only [Jd,go_sem,Ab]
 refine go_loop (α:=Int × (Int)) (fun a=>⟨slots 21 0 [(1,.ptr 0 0),(3,.int .i64 (a.2)),(4,.int .i64 (a.1))],[.box 33 [.int .i64 x.op,.str x.atom.name,.arr (x.atom.args.map Tm.d),.str x.var,.arr (x.parts.map Fm.d)]]⟩) (fun a=>∃ k:Nat,a.1=k∧k≤(x.parts).length∧(a.2)=((1+Fm.nodeS (x.parts.take k):Nat):Int)) (fun a=>(x.parts).length-(a.1).toNat) (0,1) ⟨0,rfl,zN _,by rw [List.take_zero]; rfl⟩ (by simp (disch:=omega) only [go_sem,Ab]) ?_
 rintro ⟨i,n⟩ ⟨k,hi,hk,hR⟩
 dsimp only at hi hR
 have hni:i.toNat=k:=by omega
 have hni1:(i+1).toNat=k+1:=by omega
 rcases zL k (x.parts).length with hlt | hge
 ·have hg:=get_at Fm.d hlt
  rw [Fm.d_eq] at hg
  have hc:=ih x.parts[k] (zE hlt)
  have ht:=Fm.MD x.parts k hlt
  have htl:=Fm.N1 x.parts (k+1)
  have hi2:dec (inK .i64 (n+(x.parts[k].nodes:Int)))=true:=D6 (by omega) (by omega)
  simp (disch:=omega) only [go_sem,Ab,hni,hg,hc,hi2,Bu]
  exact ⟨(i+1,n+(x.parts[k].nodes:Int)),⟨k+1,by dsimp only; omega,hlt,by dsimp only; omega⟩,by dsimp only; omega,by first | trivial | rfl⟩
 ·obtain rfl:k=x.parts.length:=by omega
  rw [List.take_length,← hne] at hR
  rw [←hR]
  simp (disch:=omega) only [go_sem,Ab,hni]
theorem Rm (x:Fm) (hn:x.nodes≤1099511627776):E 58 [x.sv] []=some (.int .i64 x.nodes,[]) :=
 U0 x hn fun y hy=>Rm y (by have:=Fm.nodes_mem hy; have:=Fm.nodes_eq x; omega)
termination_by SizeOf.sizeOf x
decreasing_by exact Fm.lt_of_mem hy
def Eo (x:Fm):Nat→Fm
 | 0=>x
 | k+1=>.mk 4 Tm.zero ⟨#[]⟩ [Eo x k]
theorem H3 (x:Fm):∀ k,(Eo x k).nodes=x.nodes+k
 | 0=>rfl
 | k+1=>by
  have:(Eo x (k+1)).nodes=1+((Eo x k).nodes+0):=by rw [Eo,Fm.Ci]; rfl
  rw [this,H3 x k]; omega
theorem Tt (x:Fm):∀ k,(Eo x k).vn=x.vn+k
 | 0=>rfl
 | k+1=>by
  have:(Eo x (k+1)).vn=1+((Eo x k).vn+0):=by rw [Eo,Fm.DY,Ca]; rfl
  rw [this,Tt x k]; omega
theorem ON {x:Fm} (h:x.tame):∀ k,(Eo x k).tame
 | 0=>h
 | k+1=>Fm.CA (by rw [Ca]; omega) (Fm.Nm (ON h k))
theorem Fm.nodeS_app:∀ (a b:List Fm),Fm.nodeS (a++b)=Fm.nodeS a+Fm.nodeS b
 | [],b=>by simp [Fm.nodeS]
 | x :: a,b=>by simp only [zK,Fm.nodeS,Fm.nodeS_app a b]; omega
theorem Fm.Tu:∀ a b:List Fm,Fm.vnS (a++b)=Fm.vnS a+Fm.vnS b
 | [],b=>by simp [Fm.vnS]
 | x :: a,b=>by simp only [zK,Fm.vnS,Fm.Tu a b]; omega
theorem Fm.OO:∀ {a b:List Fm},Fm.BQ a→Fm.BQ b→Fm.BQ (a++b)
 | [],b,_,h=>h
 | x :: a,b,h,k=>by
  simp only [Fm.BQ] at h
  simp only [zK,Fm.BQ]
  exact ⟨h.1,Fm.OO h.2 k⟩
theorem Fm.Tv {x:Fm} (h:x.tame):Fm.BQ x.parts:=by rw [Fm.DR] at h; exact h.2
theorem N8 (l:List Int) (hl:Bytes l) (hn:l.length≤1099511627776) (p s:Int) (h0:0≤p) (h1:p≤1060000000000):∃ x p' s',E 27 [.ptr 0 0] [cur l p s]=some (fmH x 1 2,[cur l p' s',Sy x,Uz x])∧(p≤p'∧p'≤p+5000)∧x.nodes≤100∧x.tame∧x.vn≤300:=by
 obtain ⟨Q,hQ⟩:∃ Q:SV × List Ob→Prop,Q=fun out=>∃ x p' s',out=(fmH x 1 2,[cur l p' s',Sy x,Uz x])∧(p≤p'∧p'≤p+5000)∧x.nodes≤100∧x.tame∧x.vn≤300:=⟨_,rfl⟩
 suffices hq0:∃ out,E 27 [.ptr 0 0] [cur l p s]=some out∧Q out by
  obtain ⟨out,hq1,hq2⟩:=hq0
  rw [hQ] at hq2
  obtain ⟨x,p',s',rfl,hq3⟩:=hq2
  exact ⟨x,p',s',hq1,hq3⟩
 obtain ⟨x,p1,s1,hf,⟨g1,g2⟩,g3,hta,hvn⟩:=Nn l hl hn p s h0 (by omega)
 obtain ⟨v,p2,s2,hv,⟨v0,v1⟩,g4,g5⟩:=EE l hl hn 24 (by omega) (by omega) p1 s1 (by omega) (by omega)
 have hlen:=Fm.length_le x.parts
 have hne:=Fm.nodes_eq x
 have hve:=Fm.HC x
 have hat:=Fm.H0 hta
 have hps:=Fm.Tv hta
 rcases (show v=0∨v=1∨v=2∨v=3∨v=4∨v=5∨(¬ v=0∧¬ v=1∧¬ v=2∧¬ v=3∧¬ v=4∧¬ v=5) by omega) with rfl | rfl | rfl | rfl | rfl | rfl | ⟨k0,k1,k2,k3,k4,k5⟩
 ·obtain ⟨u,p3,s3,hu,_,g6,g7⟩:=EE l hl hn 11 (by omega) (by omega) p2 s2 (by omega) (by omega)
  refine A7 Ba AQ (of_decide_eq_true rfl) ?_
  simp (disch:=omega) only [AP,go_sem,Ab,hf,hv,hu,Aq,Bh,Az,A4,Bu]
  rw [hQ]
  exact ⟨.mk u x.atom x.var x.parts,p3,s3,rfl,by omega,by rw [Fm.Ci]; omega,Fm.CA hat hps,by rw [Fm.DY]; omega⟩
 ·obtain ⟨y,p3,s3,hu,_,g6,g7⟩:=Sw l hl hn [⟨#[88]⟩,⟨#[97]⟩,⟨#[]⟩] (by decide) (by decide) p2 s2 (by omega) (by omega)
  simp only [zO,zI] at hu
  refine A7 Ba AQ (of_decide_eq_true rfl) ?_
  simp (disch:=omega) only [AP,go_sem,Ab,hf,hv,hu,Aq,Bh,Az,A4,Bu]
  rw [hQ]
  exact ⟨.mk x.op x.atom y x.parts,p3,s3,rfl,by omega,by rw [Fm.Ci]; omega,Fm.CA hat hps,by rw [Fm.DY]; omega⟩
 ·obtain ⟨t,p3,s3,hu,⟨g6,g7⟩,g8⟩:=Uy l hl hn p2 s2 (by omega) (by omega)
  refine A7 Ba AQ (of_decide_eq_true rfl) ?_
  simp (disch:=omega) only [AP,go_sem,Ab,hf,hv,hu,Aq,Bh,Az,A4,Bu]
  rw [hQ]
  exact ⟨.mk x.op t x.var x.parts,p3,s3,rfl,by omega,by rw [Fm.Ci]; omega,Fm.CA (by omega) hps,by rw [Fm.DY]; omega⟩
 ·obtain ⟨y,p3,s3,hu,⟨g6,g7⟩,g8,hty,hvy⟩:=Nn l hl hn p2 s2 (by omega) (by omega)
  have hxl:x.parts.length≤31:=by omega
  refine A7 Ba AQ (of_decide_eq_true rfl) ?_
  simp (disch:=omega) only [AP,go_sem,Ab,hf,hv,hu,Aq,Bh,Az,A4,Bu]
  rw [hQ]
  refine ⟨.mk x.op x.atom x.var (x.parts++[y]),p3,s3,?_,by omega,by rw [Fm.Ci,Fm.nodeS_app]; show 1+(_+(y.nodes+0))≤_; omega,Fm.CA hat (Fm.OO hps (Fm.Nm hty)),by rw [Fm.DY,Fm.Tu]; show _+(_+(y.vn+0))≤_; omega⟩
  show _=(fmH (.mk x.op x.atom x.var (x.parts++[y])) 1 2,[cur l p3 s3,Sy x,.row 33 5 ((x.parts++[y]).map Fm.hs)])
  rw [List.map_append]
  rfl
 ·obtain ⟨u,p3,s3,hu,⟨u0,u1⟩,g6,g7⟩:=EE l hl hn 5 (by omega) (by omega) p2 s2 (by omega) (by omega)
  have hi:dec (inK .i64 (36+u))=true:=D6 (by omega) (by omega)
  refine A7 Ba AQ (of_decide_eq_true rfl) ?_
  simp (disch:=omega) only [AP,go_sem,Ab,hf,hv,hu,hi,Aq,Bh,Az,A4,Bu]
  refine go_loop (α:=Nat × List (List OT) × List (List OT)) (fun a=>⟨slots 59 0 [(2,.ptr 1 0),(3,.ptr 2 0),(4,.int .i64 (36+u))],(if a.1=0 then [cur l p3 s3,.box 33 [.int .i64 0,.str ⟨#[]⟩,.nil,.str ⟨#[]⟩,.nil],.box 33 [.int .i64 x.op,.str x.atom.name,.ref 3,.str x.var,.ref 4],Sy x,Uz x] else [cur l p3 s3,.box 33 [.int .i64 0,.str ⟨#[]⟩,.nil,.str ⟨#[]⟩,.nil],.box 33 [.int .i64 4,.str ⟨#[]⟩,.nil,.str ⟨#[]⟩,.ref 3],.row 33 5 [[.int (Eo x (a.1-1)).op,.str (Eo x (a.1-1)).atom.name,.ow a.2.1,.str (Eo x (a.1-1)).var,.ow a.2.2]]])⟩) (fun a=>(a.1=0∨(OT.erss a.2.1=(Eo x (a.1-1)).atom.args.map Tm.d∧OT.erss a.2.2=(Eo x (a.1-1)).parts.map Fm.d∧OT.AM a.2.1=true∧OT.AM a.2.2=true))∧a.1≤50) (fun a=>50-a.1) (0,[],[]) ⟨.inl rfl,by omega⟩ (by simp (disch:=omega) only [go_sem,Ab,eq_self,if_true]) ?_
  rintro ⟨k,A,B⟩ ⟨hR,hk⟩
  dsimp only at hR hk
  have hsz:=Rm (Eo x k) (by rw [H3]; omega)
  rw [H3] at hsz
  have hnn:=H3 x k
  rcases Nat.eq_zero_or_pos k with hk0 | hk0
  ·subst hk0
   have hsz:E 58 [.agg [.int .i64 x.op,.str x.atom.name,.arr (x.atom.args.map Tm.d),.str x.var,.arr (x.parts.map Fm.d)]] []=some (.int .i64 ((x.nodes+0:Nat):Int),[]):=hsz
   have q6:((0:Nat)+1=0)=False:=by simp
   by_cases hc:((x.nodes+0:Nat):Int)<36+u
   ·have q1:(((x.nodes+0:Nat):Int)<36+u)=True:=eq_true hc
    simp (disch:=omega) only [go_sem,Ab,hsz,q1,eq_self,if_true,Bu]
    refine ⟨(0+1,x.atom.args.map Tm.osh,x.parts.map Fm.hs),⟨.inr ⟨Tm.M8 _,Fm.Wu _,Tm.JR _,Fm.PG _⟩,by dsimp only; omega⟩,by dsimp only; omega,?_⟩
    simp (disch:=omega) only [go_sem,Ab,q6,if_false,Nat.add_sub_cancel]
    first | rfl | exact ⟨rfl,rfl⟩
   ·exact absurd (show ((x.nodes+0:Nat):Int)<36+u by omega) hc
  ·obtain ⟨j,rfl⟩:∃ j,k=j+1:=⟨k-1,by omega⟩
   obtain ⟨e1,e2,e3,e4⟩:=hR.resolve_left (by omega)
   rw [Nat.add_sub_cancel] at e1 e2
   have hsv:(Eo x (j+1)).sv=.agg [.int .i64 4,.str ⟨#[]⟩,.arr [],.str ⟨#[]⟩,.arr [[.int (Eo x j).op,.str (Eo x j).atom.name,.arr ((Eo x j).atom.args.map Tm.d),.str (Eo x j).var,.arr ((Eo x j).parts.map Fm.d)]]]:=by
    show SV.agg [.int .i64 4,.str ⟨#[]⟩,.arr (([]:List Tm).map Tm.d),.str ⟨#[]⟩,.arr ([Eo x j].map Fm.d)]=_
    rw [zO,zI,zI,Fm.d_eq]
   rw [hsv] at hsz
   have q8:(j+1=0)=False:=by simp
   have q9:j+1-1=j:=by omega
   have q10:(j+1+1=0)=False:=by simp
   have q11:j+1+1-1=j+1:=by omega
   by_cases hc:((x.nodes+(j+1):Nat):Int)<36+u
   ·have q1:(((x.nodes+(j+1):Nat):Int)<36+u)=True:=eq_true hc
    simp (disch:=omega) only [go_sem,Ab,hsz,q1,q8,q9,if_false,e1,e2,e3,e4,Bu]
    refine ⟨(j+1+1,[],[[.int (Eo x j).op,.str (Eo x j).atom.name,.ow A,.str (Eo x j).var,.ow B]]),⟨.inr ⟨?_,?_,rfl,?_⟩,by dsimp only; omega⟩,by dsimp only; omega,?_⟩
    ·dsimp only; rw [q11]; rfl
    ·dsimp only; rw [q11]
     simp only [OT.erss,OT.ers,OT.er,e1,e2]
     rw [show (Eo x (j+1)).parts=[Eo x j] from rfl,zO,zI,Fm.d_eq]
    ·simp only [OT.AM,OT.De,OT.full,e3,e4,Bool.and_self]
    ·simp (disch:=omega) only [go_sem,Ab,q10,q11,if_false]
     first | rfl | exact ⟨rfl,rfl⟩
   ·have q1:(((x.nodes+(j+1):Nat):Int)<36+u)=False:=eq_false hc
    simp (disch:=omega) only [go_sem,Ab,hsz,q1,q8,q9,if_false,e1,e2,e3,e4,Bu]
    rw [hQ]
    exact ⟨Eo x (j+1),p3,s3,rfl,by omega,by omega,ON hta _,by rw [Tt]; omega⟩
 ·rcases hc:x.parts with _ | ⟨a0,ar⟩
  ·have q0:((0:Int)<(x.parts.length:Int))=False:=eq_false (by rw [hc]; simp)
   rw [←hc] at *
   refine A7 Ba AQ (of_decide_eq_true rfl) ?_
   simp (disch:=omega) only [AP,go_sem,Ab,hf,hv,q0,Aq,Bh,Az,A4,Bu]
   rw [hQ]
   exact ⟨x,p2,s2,rfl,by omega,by omega,hta,by omega⟩
  ·have q0:((0:Int)<(x.parts.length:Int))=True:=eq_true (by rw [hc]; simp)
   obtain ⟨u,p3,s3,hu,_,g6,g7⟩:=EE l hl hn 11 (by omega) (by omega) p2 s2 (by omega) (by omega)
   have hm:x.parts.map Fm.hs=[.int a0.op,.str a0.atom.name,.sh (a0.atom.args.map Tm.d),.str a0.var,.sh (a0.parts.map Fm.d)] :: ar.map Fm.hs:=by rw [hc]; rfl
   have hgl:(x.parts.map Fm.hs)[0]?=some [.int a0.op,.str a0.atom.name,.sh (a0.atom.args.map Tm.d),.str a0.var,.sh (a0.parts.map Fm.d)]:=by rw [hm]; rfl
   have hst:∀ y,(x.parts.map Fm.hs).set 0 y=y :: ar.map Fm.hs:=fun y=>by rw [hm]; rfl
   have q1:0<x.parts.length:=by rw [hc]; simp
   have hnn:x.nodes=1+(a0.nodes+Fm.nodeS ar):=by rw [Fm.nodes_eq,hc]; rfl
   rw [hc] at hps
   simp only [Fm.BQ] at hps
   refine A7 Ba AQ (of_decide_eq_true rfl) ?_
   simp (disch:=omega) only [AP,go_sem,Ab,hf,hv,q0,hu,hgl,hst,q1,Aq,Bh,Az,A4,Bu]
   rw [hQ]
   have hvv:x.vn=x.atom.nodes+(a0.vn+Fm.vnS ar):=by rw [Fm.HC,hc]; rfl
   refine ⟨.mk x.op x.atom x.var (.mk u a0.atom a0.var a0.parts :: ar),p3,s3,rfl,by omega,?_,Fm.CA hat ?_,?_⟩
   ·rw [Fm.Ci]
    show 1+((Fm.mk u a0.atom a0.var a0.parts).nodes+Fm.nodeS ar)≤_
    rw [Fm.Ci]
    have:=Fm.nodes_eq a0
    omega
   ·simp only [Fm.BQ]
    exact ⟨Fm.CA (Fm.H0 hps.1) (Fm.Tv hps.1),hps.2⟩
   ·rw [Fm.DY]
    show _+((Fm.mk u a0.atom a0.var a0.parts).vn+Fm.vnS ar)≤_
    rw [Fm.DY]
    have:=Fm.HC a0
    omega
 ·have k0:=eq_false k0
  have k1:=eq_false k1
  have k2:=eq_false k2
  have k3:=eq_false k3
  have k4:=eq_false k4
  have k5:=eq_false k5
  refine A7 Ba AQ (of_decide_eq_true rfl) ?_
  simp (disch:=omega) only [AP,go_sem,Ab,hf,hv,k0,k1,k2,k3,k4,k5,Aq,Bh,Az,A4,Bu]
  rw [hQ]
  exact ⟨x,p2,s2,rfl,by omega,by omega,hta,by omega⟩
theorem Rn {α:Type} {xs ys:List α} {k:Nat} (hx:k<xs.length) (hy:k<ys.length):xs.drop k=ys.drop k ↔ xs[k]=ys[k]∧xs.drop (k+1)=ys.drop (k+1):=by
 rw [zJ hx,zJ hy,zM]
theorem Tm.eq_iff (x y:Tm):x=y ↔ x.name=y.name∧x.args=y.args:=by
 obtain ⟨n,a⟩:=x
 obtain ⟨m,b⟩:=y
 rw [Tm.mk.injEq]; rfl
def Ls:SC:=(.seq (.reg [⟨some 2,none,.mv (.c (.bool false))⟩]) (.seq (.reg [⟨some 3,none,.mv (.t 0)⟩,⟨some 4,none,.len false (.t 3)⟩,⟨some 5,none,.bin .gtr false (.t 4) (.c (.int .i64 65536))⟩,⟨some 2,none,.mv (.t 5)⟩]) .ret))
theorem Ro:codeOf Tryz.prog 6=some ⟨6,Ls,[(.tmp 2)]⟩:=by kernel_rfl
theorem Eb:modes 6=⟨[],.asis,none,false⟩:=by unfold modes; rfl
def EJ:SC:=(.seq (.reg [⟨some 2,none,.boxv 30 2 (.t 0)⟩,⟨some 3,none,.boxv 30 2 (.t 1)⟩,⟨some 4,none,.mv (.c (.bool false))⟩]) (.seq (.seq (.reg [⟨some 6,none,.faddr 0 (.t 2)⟩,⟨some 7,none,.load false 1 (.t 6)⟩,⟨some 8,none,.faddr 0 (.t 3)⟩,⟨some 9,none,.load false 1 (.t 8)⟩,⟨some 10,none,.bin .neq false (.t 7) (.t 9)⟩,⟨some 11,none,.mv (.t 10)⟩,⟨(some 12),(some (11,false)),(.faddr 1 (.t 2))⟩,⟨(some 13),(some (11,false)),(.load false 1 (.t 12))⟩,⟨(some 14),(some (11,false)),(.len false (.t 13))⟩,⟨(some 15),(some (11,false)),(.faddr 1 (.t 3))⟩,⟨(some 16),(some (11,false)),(.load false 1 (.t 15))⟩,⟨(some 17),(some (11,false)),(.len false (.t 16))⟩,⟨(some 18),(some (11,false)),(.bin .neq false (.t 14) (.t 17))⟩,⟨some 19,none,.pick (.t 11) (.c (.bool true)) (.t 18)⟩]) (.cond (.t 19) (.seq (.reg [⟨some 4,none,.mv (.c (.bool false))⟩]) .ret) .skip)) (.seq (.seq (.reg [⟨some 5,none,.mv (.c (.int .i64 0))⟩]) (.block 0 (.loop [0,0,1,1,0,1,0,0,0,0,0,0,0,0,0,0,0,0,0,0,0,0,0,0,0,0,0,0,0,0,0,0,0,0,0,0,0,0,0] (.seq (.seq (.reg [⟨some 20,none,.mv (.t 5)⟩,⟨some 21,none,.faddr 1 (.t 2)⟩,⟨some 22,none,.load false 1 (.t 21)⟩,⟨some 23,none,.len false (.t 22)⟩,⟨some 24,none,.bin .lss false (.t 20) (.t 23)⟩]) (.cond (.t 24) .skip (.exit 0))) (.seq (.block 1 (.seq (.dreg [[],[0],[],[1,0,2],[3,1,0,2],[],[5],[],[6,5,7],[8,6,5,7],[4,3,1,0,2,9,8,6,5,7],[10,4,3,1,0,2,9,8,6,5,7]] [⟨some 27,none,.faddr 1 (.t 2)⟩,⟨some 28,none,.load false 1 (.t 27)⟩,⟨some 29,none,.mv (.t 5)⟩,⟨some 30,none,.iaddr 2 (.t 28) (.t 29)⟩,⟨some 31,none,.load true 2 (.t 30)⟩,⟨some 32,none,.faddr 1 (.t 3)⟩,⟨some 33,none,.load false 1 (.t 32)⟩,⟨some 34,none,.mv (.t 5)⟩,⟨some 35,none,.iaddr 2 (.t 33) (.t 34)⟩,⟨some 36,none,.load true 2 (.t 35)⟩,⟨some 37,none,.call 47 [(.t 31),(.t 36)]⟩,⟨some 38,none,.un .not (.t 37)⟩]) (.cond (.t 38) (.seq (.reg [⟨some 4,none,.mv (.c (.bool false))⟩]) .ret) .skip))) (.reg [⟨some 25,none,.mv (.t 5)⟩,⟨some 26,none,.bin .add false (.t 25) (.c (.int .i64 1))⟩,⟨some 5,none,.mv (.t 26)⟩])))))) (.seq (.reg [⟨some 4,none,.mv (.c (.bool true))⟩]) .ret))))
theorem GG:codeOf Tryz.prog 47=some ⟨39,EJ,[(.tmp 4)]⟩:=by kernel_rfl
theorem Dr:modes 47=⟨[],.asis,none,false⟩:=by unfold modes; rfl
theorem YZ (l:List Int):E 6 [.arr (l.map by_)] []=some (.bool (dec (65536<(l.length:Int))),[]):=by
 refine Ai Ro Eb (of_decide_eq_true rfl) ?_
 simp (disch:=omega) only [Ls,go_sem,Ab]
theorem U1 (x:Tm) (y:Tm) (hnx:x.nodes≤1099511627776) (hny:y.nodes≤1099511627776) (ih:∀ x'∈x.args,∀ y':Tm,x'.nodes≤1099511627776→y'.nodes≤1099511627776→E 47 [x'.sv,y'.sv] []=some (.bool (dec (x'=y')),[])):E 47 [x.sv,y.sv] []=some (.bool (dec (x=y)),[]):=by
 have lx:=Tm.length_le x.args
 have ly:=Tm.length_le y.args
 have nx:=Tm.nodes_eq x
 have ny:=Tm.nodes_eq y
 rw [Pt (Tm.eq_iff x y)]
 by_cases h0:x.name=y.name
 ·rw [Pt (and_iff_right h0)]
  have hq:(x.name=y.name)=True:=by simp [h0]
  by_cases hlen:x.args.length=y.args.length
  ·have hq2:((x.args.length:Int)=(y.args.length:Int))=True:=by first | exact eq_true (by omega) | exact eq_false (by omega)
   refine Ai GG Dr (of_decide_eq_true rfl) ?_
   simp (disch:=omega) only [EJ,go_sem,Ab,hq,hq2]
   refine go_loop (α:=Int) (fun a=>⟨slots 39 0 [(2,.ptr 0 0),(3,.ptr 1 0),(5,.int .i64 a)],[.box 30 [.str x.name,.arr (x.args.map Tm.d)],.box 30 [.str y.name,.arr (y.args.map Tm.d)]]⟩) (fun a=>∃ k:Nat,a=k∧k≤(x.args).length∧dec (x.args.drop k=y.args.drop k)=dec (x.args=y.args)) (fun a=>(x.args).length-(a).toNat) 0 ⟨0,rfl,zN _,by rw [List.drop_zero,List.drop_zero]⟩ (by simp (disch:=omega) only [go_sem,Ab]) ?_
   rintro i ⟨k,hi,hk,hR⟩
   have hni:i.toNat=k:=by omega
   have hni1:(i+1).toNat=k+1:=by omega
   rcases zL k (x.args).length with hlt | hge
   ·have hgx:=get_at Tm.d hlt
    rw [Tm.d_eq] at hgx
    have hlt':k<y.args.length:=by omega
    have hgy:=get_at Tm.d hlt'
    rw [Tm.d_eq] at hgy
    have hc:=ih x.args[k] (zE hlt) y.args[k] (by have:=Tm.nodes_mem (zE hlt); omega) (by have:=Tm.nodes_mem (zE hlt'); omega)
    rw [Pt (Rn hlt hlt')] at hR
    by_cases h0:x.args[k]=y.args[k]
    ·rw [Ax h0] at hc
     rw [Pt (and_iff_right h0)] at hR
     simp (disch:=omega) only [go_sem,Ab,hni,hgx,hgy,hc,Dr]
     exact ⟨i+1,⟨k+1,by omega,hlt,hR⟩,by omega,by first | trivial | rfl⟩
    ·rw [An h0] at hc
     rw [An (fun h=>h0 h.1)] at hR
     simp (disch:=omega) only [go_sem,Ab,hni,hgx,hgy,hc,Dr]
     exact hR
   ·rw [List.drop_eq_nil_of_le hge,List.drop_eq_nil_of_le (by omega),Ha] at hR
    simp (disch:=omega) only [go_sem,Ab,hni]
    exact hR
  ·have hq2:((x.args.length:Int)=(y.args.length:Int))=False:=by first | exact eq_true (by omega) | exact eq_false (by omega)
   have he:dec (x.args=y.args)=false:=An fun h=>hlen (by rw [h])
   rw [he]
   refine Ai GG Dr (of_decide_eq_true rfl) ?_
   simp (disch:=omega) only [EJ,go_sem,Ab,hq,hq2]
 ·have hq:(x.name=y.name)=False:=by simp [h0]
  rw [An (fun h=>h0 h.1)]
  refine Ai GG Dr (of_decide_eq_true rfl) ?_
  simp (disch:=omega) only [EJ,go_sem,Ab,hq]
theorem Rp (x y:Tm) (hnx:x.nodes≤1099511627776) (hny:y.nodes≤1099511627776):E 47 [x.sv,y.sv] []=some (.bool (dec (x=y)),[]) :=
 U1 x y hnx hny fun x' hx' y' h h'=>Rp x' y' h h'
termination_by SizeOf.sizeOf x
decreasing_by exact Tm.lt_of_mem hx'
theorem Fm.Wv (x:Fm) (m:ByteArray):∀ (ns b:List ByteArray),m∈(Fm.cls ns x).fv b→m∈x.fv []∧¬ m∈ns
 | [],b,h=>⟨((Fm.KM m x b).1 h).1,by simp⟩
 | n :: ns,b,h=>by
  rw [Fm.Kl,Fm.OK] at h
  have e3:dec ((Fm.all n (Fm.cls ns x)).op=3)=false:=An (by show ¬ (8:Int)=3; omega)
  have eq:qB (Fm.all n (Fm.cls ns x)).op=true:=by
   show qB 8=true
   unfold qB; rw [Ax rfl]; rfl
  rw [e3,cond_false,eq,cond_true] at h
  obtain ⟨y,hy,h⟩:=Fm.Kk.1 h
  obtain rfl:y=Fm.cls ns x:=List.mem_singleton.1 hy
  obtain ⟨h1,h2⟩:=Fm.Wv x m ns _ h
  obtain ⟨_,h3⟩:=(Fm.KM m _ _).1 h
  refine ⟨h1,fun h4=>?_⟩
  rcases List.mem_cons.1 h4 with h4 | h4
  ·exact h3 (by rw [h4]; exact List.mem_append.2 (.inr (List.mem_singleton.2 rfl)))
  ·exact h2 h4
theorem U2 (x:Fm):(J2 x).free=[]:=by
 have h:(J2 x).fv []=[]:=List.eq_nil_iff_forall_not_mem.2 fun m hm=>by
  obtain ⟨h1,h2⟩:=Fm.Wv x m x.free [] hm
  exact h2 ((Fm.Rg x m).2 h1)
 show HI [] ((J2 x).fv [])=[]
 rw [h]; rfl
theorem Fm.OP {x:Fm} (hx:x.forms=true):∀ ns:List ByteArray,(∀ m∈ns,Cf m=true)→(Fm.cls ns x).forms=true
 | [],_=>hx
 | n :: ns,h=>by
  rw [Fm.Kl,Fm.DJ,zB]
  refine ⟨?_,?_⟩
  ·unfold Fm.form
   have e:(Fm.all n (Fm.cls ns x)).op=8:=rfl
   rw [e,if_neg (by omega),if_neg (by omega),if_neg (by omega),if_neg (by omega),if_pos (by omega),zB,zB]
   refine ⟨⟨rfl,?_⟩,h n (by simp)⟩
   show (Tm.mk ⟨#[]⟩ []).isZ=true
   unfold Tm.isZ
   have e1:dec ((Tm.mk ⟨#[]⟩ []).name=(⟨#[]⟩:ByteArray))=true:=Ax rfl
   rw [e1]; rfl
  ·show Fm.He [Fm.cls ns x]=true
   rw [Fm.He,Fm.He,Fm.OP hx ns fun m hm=>h m (by simp [hm])]; rfl
theorem Sz (x:Fm):(J2 x).nodes=x.free.length+x.nodes:=Fm.KN x x.free
theorem Ww {x:Fm} (h:x.valid=true) (k:Ng x=false):40<x.nodes+x.free.length:=by
 obtain ⟨h1,h2⟩:=CF h
 unfold Ng at k
 rw [h,Bool.true_and] at k
 rcases zL 40 (x.nodes+x.free.length) with h3 | h3
 ·exact h3
 ·exfalso
  have:(J2 x).valid=true:=by
   unfold Fm.valid
   rw [zB,decide_eq_true_eq]
   exact ⟨by rw [Sz]; omega,Fm.OP h2 x.free (Fm.Rj x)⟩
  rw [this] at k; cases k
theorem Tm.Wx {x:Tm} (h:x.atom=true):x.fmtA.length≤10*x.nodes:=by
 unfold Tm.fmtA
 rcases Tm.Hz h with ⟨h1,h2⟩ | ⟨a,b,rfl,h1,h2,h3,h4⟩
 ·rw [h1,cond_false]
  have:=Tm.fmt_len x (Da h2)
  omega
 ·rw [h1,cond_true]
  have l1:=Tm.fmt_len a h2
  have l2:=Tm.fmt_len b h3
  have hn:(Tm.mk ⟨#[61]⟩ [a,b]).nodes=1+(a.nodes+(b.nodes+0)):=by rw [Tm.nodes_eq]; rfl
  rw [hn]
  show (a.fmt++eqSign++b.fmt).length≤_
  simp only [zD,eqSign,zC,zG]
  omega
theorem Fm.OQ (x:Fm) (hx:x.forms=true):x.fmt.length≤10*x.vn+12*x.nodes:=by
 have ih:∀ y∈x.parts,y.fmt.length≤10*y.vn+12*y.nodes:=fun y hy=>Fm.OQ y (Fm.Cv hx hy)
 have hf:=Fm.By hx
 have hp:=Fm.nodes_pos x
 rcases Fm.Im hf with ho | ho | ho | ho | ho | ho | ho | ho | ho
 ·have e0:=Fm.Dp hf (.inl ho)
  rw [ho] at e0
  have:x.fmt=bTrue:=by rw [e0,QK]
  rw [this]
  show 4≤_; omega
 ·have e0:=Fm.Dp hf (.inr ho)
  rw [ho] at e0
  have:x.fmt=bFalse:=by rw [e0,QL]
  rw [this]
  show 5≤_; omega
 ·obtain ⟨_,hat,_⟩:=Fm.E7 hf ho
  have e0:x.fmt=x.atom.fmtA:=by
   obtain ⟨op,a,v,ps⟩:=x
   have ho:op=3:=ho
   subst ho
   exact QM a v ps
  have h1:=Tm.Wx hat
  have h2:=Fm.HC x
  rw [e0]; omega
 ·obtain ⟨p,e0⟩:=Fm.Il hf ho
  have hi:=ih p (by rw [e0]; simp [Fm.parts])
  have hn:x.nodes=1+p.nodes:=by rw [Fm.nodes_eq,e0]; show 1+Fm.nodeS [p]=_; rw [Fm.nodeS,Fm.nodeS]; omega
  have hv:x.vn=1+p.vn:=by rw [Fm.HC,e0]; show Tm.zero.nodes+Fm.vnS [p]=_; rw [Ca,Fm.vnS,Fm.vnS]; omega
  have e1:x.fmt.length≤p.fmt.length+3:=by
   rw [e0,O6]
   cases p.atom.eqn with
   | true=>simp only [cond_true,zC,zD,zG]; omega
   | false=>simp only [cond_false,zC]; omega
  omega
 iterate 3
  ·obtain ⟨p,q,e0⟩:=Fm.FX hf (by omega)
   have h1:=ih p (by rw [e0]; simp [Fm.parts])
   have h2:=ih q (by rw [e0]; simp [Fm.parts])
   have hn:x.nodes=1+p.nodes+q.nodes:=by rw [Fm.nodes_eq,e0]; show 1+Fm.nodeS [p,q]=_; rw [Fm.nodeS,Fm.nodeS,Fm.nodeS]; omega
   have hv:x.vn=1+p.vn+q.vn:=by rw [Fm.HC,e0]; show Tm.zero.nodes+Fm.vnS [p,q]=_; rw [Ca,Fm.vnS,Fm.vnS,Fm.vnS]; omega
   have hs:=Th x.op
   have e1:x.fmt=40 :: (p.fmt++(sgn x.op++(q.fmt++[41]))):=by
    have:=QP (op:=x.op) (by omega) Tm.zero ⟨#[]⟩ p q
    rwa [←e0] at this
   rw [e1]
   simp only [zC,zD,zG]; omega
 ·obtain ⟨p,e0⟩:=Fm.GB hf (.inl ho)
  rw [ho] at e0
  have hi:=ih p (by rw [e0]; simp [Fm.parts])
  have hvs:=E6 (Fm.Dc hf (by unfold qB; rw [ho,Ax rfl]; rfl)).1
  have hn:x.nodes=1+p.nodes:=by rw [Fm.nodes_eq,e0]; show 1+Fm.nodeS [p]=_; rw [Fm.nodeS,Fm.nodeS]; omega
  have hv:x.vn=1+p.vn:=by rw [Fm.HC,e0]; show Tm.zero.nodes+Fm.vnS [p]=_; rw [Ca,Fm.vnS,Fm.vnS]; omega
  have e1:x.fmt=P0++(x.var.toList++46 :: p.fmt):=by
   have:=QN Tm.zero x.var p
   rwa [←e0] at this
  rw [e1]
  simp only [zD,zC,AD,P0,zG]; omega
 ·obtain ⟨p,e0⟩:=Fm.GB hf (.inr ho)
  rw [ho] at e0
  have hi:=ih p (by rw [e0]; simp [Fm.parts])
  have hvs:=E6 (Fm.Dc hf (by unfold qB; rw [ho,Ax (p:=(9:Int)=9) rfl,Bool.or_true])).1
  have hn:x.nodes=1+p.nodes:=by rw [Fm.nodes_eq,e0]; show 1+Fm.nodeS [p]=_; rw [Fm.nodeS,Fm.nodeS]; omega
  have hv:x.vn=1+p.vn:=by rw [Fm.HC,e0]; show Tm.zero.nodes+Fm.vnS [p]=_; rw [Ca,Fm.vnS,Fm.vnS]; omega
  have e1:x.fmt=JX++(x.var.toList++46 :: p.fmt):=by
   have:=QO Tm.zero x.var p
   rwa [←e0] at this
  rw [e1]
  simp only [zD,zC,AD,JX,zG]; omega
termination_by SizeOf.sizeOf x
decreasing_by exact Fm.lt_of_mem hy
def Et:SC:=(.seq (.reg [⟨some 1,none,.boxv 33 5 (.t 0)⟩,⟨some 2,none,.mv (.c (.bool false))⟩]) (.seq (.reg [⟨some 3,none,.load true 5 (.t 1)⟩,⟨some 4,none,.call 35 [(.t 3)]⟩,⟨some 2,none,.mv (.t 4)⟩]) .ret))
theorem HJ:codeOf Tryz.prog 20=some ⟨5,Et,[(.tmp 2)]⟩:=by kernel_rfl
theorem BL:modes 20=⟨[],.asis,none,false⟩:=by unfold modes; rfl
theorem Iv (x:Fm) (ht:x.tame) (hn:x.nodes≤1099511627776):E 20 [x.sv] []=some (.bool x.valid,[]):=by
 have h:=VX x ht hn
 refine Ai HJ BL (of_decide_eq_true rfl) ?_
 simp (disch:=omega) only [Et,go_sem,Ab,h,GE]
def D2:SC:=(.seq (.reg [⟨some 1,none,.boxv 33 5 (.t 0)⟩,⟨(some 2),none,(.mv (.c (.str ⟨#[]⟩)))⟩,⟨some 3,none,.mv (.c (.bool false))⟩]) (.seq (.seq (.reg [⟨some 5,none,.load true 5 (.t 1)⟩,⟨some 6,none,.call 30 [(.t 5)]⟩,⟨some 7,none,.un .not (.t 6)⟩]) (.cond (.t 7) (.seq (.reg [⟨(some 2),none,(.mv (.c (.str ⟨#[]⟩)))⟩,⟨some 3,none,.mv (.c (.bool false))⟩]) .ret) .skip)) (.seq (.reg [⟨some 8,none,.load true 5 (.t 1)⟩,⟨some 9,none,.call 44 [(.t 8)]⟩,⟨some 4,none,.mv (.t 9)⟩]) (.seq (.seq (.reg [⟨some 10,none,.mv (.t 4)⟩,⟨some 11,none,.len true (.t 10)⟩,⟨some 12,none,.bin .gtr false (.t 11) (.c (.int .i64 4000))⟩]) (.cond (.t 12) (.seq (.reg [⟨(some 2),none,(.mv (.c (.str ⟨#[]⟩)))⟩,⟨some 3,none,.mv (.c (.bool false))⟩]) .ret) .skip)) (.seq (.reg [⟨some 13,none,.mv (.t 4)⟩,⟨some 2,none,.mv (.t 13)⟩,⟨some 3,none,.mv (.c (.bool true))⟩]) .ret)))))
theorem Fb:codeOf Tryz.prog 18=some ⟨14,D2,[(.tmp 2),(.tmp 3)]⟩:=by kernel_rfl
theorem BA:modes 18=⟨[],.asis,none,false⟩:=by unfold modes; rfl
theorem S1 (x:Fm) (ht:x.tame) (hn:x.nodes≤1099511627776) (hv:x.valid=false):E 18 [x.sv] []=some (.tup [.str ⟨#[]⟩,.bool false],[]):=by
 have h:=BF x ht hn
 rw [hv] at h
 refine Ai Fb BA (of_decide_eq_true rfl) ?_
 simp (disch:=omega) only [D2,go_sem,Ab,h,Aw]
theorem Rq (x:Fm) (ht:x.tame) (hv:x.valid=true) (hvn:x.vn≤300):E 18 [x.sv] []=some (.tup [.str x.txt,.bool true],[])∧x.txt.size≤4000:=by
 obtain ⟨v1,v2⟩:=CF hv
 have h:=BF x ht (by omega)
 rw [hv] at h
 have h2:=Fh x v2 (by omega)
 have h3:=Fm.OQ x v2
 rw [←Fm.txt_size] at h3
 have q:((4000:Int)<(x.txt.size:Int))=False:=eq_false (by omega)
 refine ⟨?_,by omega⟩
 refine Ai Fb BA (of_decide_eq_true rfl) ?_
 simp (disch:=omega) only [D2,go_sem,Ab,h,h2,q,Aw,Ar]
def D3:SC:=(.seq (.reg [⟨some 1,none,.boxv 33 5 (.t 0)⟩,⟨some 2,none,.mv (.c .nil)⟩,⟨some 3,none,.mv (.c (.bool false))⟩]) (.seq (.seq (.reg [⟨some 4,none,.load true 5 (.t 1)⟩,⟨some 5,none,.call 30 [(.t 4)]⟩,⟨some 6,none,.un .not (.t 5)⟩]) (.cond (.t 6) (.seq (.reg [⟨some 2,none,.mv (.c .nil)⟩,⟨some 3,none,.mv (.c (.bool false))⟩]) .ret) .skip)) (.seq (.reg [⟨some 7,none,.load true 5 (.t 1)⟩,⟨some 8,none,.call 48 [(.t 7)]⟩,⟨some 2,none,.mv (.t 8)⟩,⟨some 3,none,.mv (.c (.bool true))⟩]) .ret)))
theorem Fc:codeOf Tryz.prog 22=some ⟨9,D3,[(.tmp 2),(.tmp 3)]⟩:=by kernel_rfl
theorem BB:modes 22=⟨[],.frz,none,false⟩:=by unfold modes; rfl
theorem KR (x:Fm) (ht:x.tame) (hn:x.nodes≤1099511627776) (hv:x.valid=false):E 22 [x.sv] []=some (.tup [.arr [],.bool false],[]):=by
 have h:=BF x ht hn
 rw [hv] at h
 refine Ai Fc BB (of_decide_eq_true rfl) ?_
 simp (disch:=omega) only [D3,go_sem,Ab,h,Aw]
theorem G1 (x:Fm) (ht:x.tame) (hv:x.valid=true):E 22 [x.sv] []=some (.tup [.arr (x.free.map fun s=>[D.str s]),.bool true],[]):=by
 obtain ⟨v1,v2⟩:=CF hv
 have h:=BF x ht (by omega)
 rw [hv] at h
 have hvn:=Fm.Wn x v2
 have h2:=Wp x v2 (by omega) (by omega)
 refine Ai Fc BB (of_decide_eq_true rfl) ?_
 simp (disch:=omega) only [D3,go_sem,Ab,h,h2,Aw,It]
def Gf:SC:=(.seq (.reg [⟨some 1,none,.boxv 33 5 (.t 0)⟩,⟨some 2,none,.mv (.c (.int .i64 0))⟩,⟨some 3,none,.mv (.c (.bool false))⟩]) (.seq (.seq (.reg [⟨some 4,none,.load true 5 (.t 1)⟩,⟨some 5,none,.call 30 [(.t 4)]⟩,⟨some 6,none,.un .not (.t 5)⟩]) (.cond (.t 6) (.seq (.reg [⟨some 2,none,.mv (.c (.int .i64 0))⟩,⟨some 3,none,.mv (.c (.bool false))⟩]) .ret) .skip)) (.seq (.reg [⟨some 7,none,.load true 5 (.t 1)⟩,⟨some 8,none,.call 51 [(.t 7)]⟩,⟨some 2,none,.mv (.t 8)⟩,⟨some 3,none,.mv (.c (.bool true))⟩]) .ret)))
theorem J5:codeOf Tryz.prog 24=some ⟨9,Gf,[(.tmp 2),(.tmp 3)]⟩:=by kernel_rfl
theorem Cj:modes 24=⟨[],.asis,none,false⟩:=by unfold modes; rfl
theorem L5 (x:Fm) (ht:x.tame) (hv:x.valid=true):E 24 [x.sv] []=some (.tup [.int .i64 x.nodes,.bool true],[]):=by
 obtain ⟨v1,v2⟩:=CF hv
 have h:=BF x ht (by omega)
 rw [hv] at h
 have h2:=P2 x (by omega)
 have hc:=Fm.cap_spec x
 have h5:x.cap=(x.nodes:Int):=by omega
 rw [h5] at h2
 refine Ai J5 Cj (of_decide_eq_true rfl) ?_
 simp (disch:=omega) only [Gf,go_sem,Ab,h,h2,Aw,Dq]
def Ho:SC:=(.seq (.reg [⟨some 2,none,.boxv 33 5 (.t 0)⟩,⟨some 3,none,.boxv 33 5 (.t 1)⟩,⟨some 4,none,.mv (.c (.bool false))⟩]) (.seq (.seq (.reg [⟨some 6,none,.faddr 0 (.t 2)⟩,⟨some 7,none,.load false 1 (.t 6)⟩,⟨some 8,none,.faddr 0 (.t 3)⟩,⟨some 9,none,.load false 1 (.t 8)⟩,⟨some 10,none,.bin .neq false (.t 7) (.t 9)⟩,⟨some 11,none,.mv (.t 10)⟩,⟨(some 12),(some (11,false)),(.faddr 3 (.t 2))⟩,⟨(some 13),(some (11,false)),(.load false 1 (.t 12))⟩,⟨(some 14),(some (11,false)),(.faddr 3 (.t 3))⟩,⟨(some 15),(some (11,false)),(.load false 1 (.t 14))⟩,⟨(some 16),(some (11,false)),(.bin .neq false (.t 13) (.t 15))⟩,⟨some 17,none,.pick (.t 11) (.c (.bool true)) (.t 16)⟩,⟨some 18,none,.mv (.t 17)⟩,⟨(some 19),(some (18,false)),(.faddr 1 (.t 2))⟩,⟨(some 20),(some (18,false)),(.load true 2 (.t 19))⟩,⟨(some 21),(some (18,false)),(.faddr 1 (.t 3))⟩,⟨(some 22),(some (18,false)),(.load true 2 (.t 21))⟩,⟨(some 23),(some (18,false)),(.call 47 [(.t 20),(.t 22)])⟩,⟨(some 24),(some (18,false)),(.un .not (.t 23))⟩,⟨some 25,none,.pick (.t 18) (.c (.bool true)) (.t 24)⟩,⟨some 26,none,.mv (.t 25)⟩,⟨(some 27),(some (26,false)),(.faddr 4 (.t 2))⟩,⟨(some 28),(some (26,false)),(.load false 1 (.t 27))⟩,⟨(some 29),(some (26,false)),(.len false (.t 28))⟩,⟨(some 30),(some (26,false)),(.faddr 4 (.t 3))⟩,⟨(some 31),(some (26,false)),(.load false 1 (.t 30))⟩,⟨(some 32),(some (26,false)),(.len false (.t 31))⟩,⟨(some 33),(some (26,false)),(.bin .neq false (.t 29) (.t 32))⟩,⟨some 34,none,.pick (.t 26) (.c (.bool true)) (.t 33)⟩]) (.cond (.t 34) (.seq (.reg [⟨some 4,none,.mv (.c (.bool false))⟩]) .ret) .skip)) (.seq (.seq (.reg [⟨some 5,none,.mv (.c (.int .i64 0))⟩]) (.block 0 (.loop [0,0,1,1,0,1,0,0,0,0,0,0,0,0,0,0,0,0,0,0,0,0,0,0,0,0,0,0,0,0,0,0,0,0,0,0,0,0,0,0,0,0,0,0,0,0,0,0,0,0,0,0,0,0] (.seq (.seq (.reg [⟨some 35,none,.mv (.t 5)⟩,⟨some 36,none,.faddr 4 (.t 2)⟩,⟨some 37,none,.load false 1 (.t 36)⟩,⟨some 38,none,.len false (.t 37)⟩,⟨some 39,none,.bin .lss false (.t 35) (.t 38)⟩]) (.cond (.t 39) .skip (.exit 0))) (.seq (.block 1 (.seq (.dreg [[],[0],[],[1,0,2],[3,1,0,2],[],[5],[],[6,5,7],[8,6,5,7],[4,3,1,0,2,9,8,6,5,7],[10,4,3,1,0,2,9,8,6,5,7]] [⟨some 42,none,.faddr 4 (.t 2)⟩,⟨some 43,none,.load false 1 (.t 42)⟩,⟨some 44,none,.mv (.t 5)⟩,⟨some 45,none,.iaddr 5 (.t 43) (.t 44)⟩,⟨some 46,none,.load true 5 (.t 45)⟩,⟨some 47,none,.faddr 4 (.t 3)⟩,⟨some 48,none,.load false 1 (.t 47)⟩,⟨some 49,none,.mv (.t 5)⟩,⟨some 50,none,.iaddr 5 (.t 48) (.t 49)⟩,⟨some 51,none,.load true 5 (.t 50)⟩,⟨some 52,none,.call 21 [(.t 46),(.t 51)]⟩,⟨some 53,none,.un .not (.t 52)⟩]) (.cond (.t 53) (.seq (.reg [⟨some 4,none,.mv (.c (.bool false))⟩]) .ret) .skip))) (.reg [⟨some 40,none,.mv (.t 5)⟩,⟨some 41,none,.bin .add false (.t 40) (.c (.int .i64 1))⟩,⟨some 5,none,.mv (.t 41)⟩])))))) (.seq (.reg [⟨some 4,none,.mv (.c (.bool true))⟩]) .ret))))
theorem KS:codeOf Tryz.prog 21=some ⟨54,Ho,[(.tmp 4)]⟩:=by kernel_rfl
theorem Ck:modes 21=⟨[],.asis,none,false⟩:=by unfold modes; rfl
theorem PH (x:Fm) (ht:x.tame) (hn:x.nodes≤1099511627776) (ih:∀ y∈x.parts,E 21 [y.sv,y.sv] []=some (.bool true,[])):E 21 [x.sv,x.sv] []=some (.bool true,[]):=by
 have hl:=Fm.length_le x.parts
 have hne:=Fm.nodes_eq x
 have ha:=Rp x.atom x.atom (Fm.H0 ht) (Fm.H0 ht)
 rw [Ha] at ha
 refine Ai KS Ck (of_decide_eq_true rfl) ?_
 simp (disch:=omega) only [Ho,go_sem,Ab,ha,Ha,Dr]
 refine go_loop (α:=Int) (fun a=>⟨slots 54 0 [(2,.ptr 0 0),(3,.ptr 1 0),(5,.int .i64 a)],[.box 33 [.int .i64 x.op,.str x.atom.name,.arr (x.atom.args.map Tm.d),.str x.var,.arr (x.parts.map Fm.d)],.box 33 [.int .i64 x.op,.str x.atom.name,.arr (x.atom.args.map Tm.d),.str x.var,.arr (x.parts.map Fm.d)]]⟩) (fun a=>∃ k:Nat,a=k∧k≤(x.parts).length) (fun a=>(x.parts).length-(a).toNat) 0 ⟨0,rfl,zN _⟩ (by simp (disch:=omega) only [go_sem,Ab]) ?_
 rintro i ⟨k,hi,hk⟩
 have hni:i.toNat=k:=by omega
 have hni1:(i+1).toNat=k+1:=by omega
 rcases zL k (x.parts).length with hlt | hge
 ·have hg:=get_at Fm.d hlt
  rw [Fm.d_eq] at hg
  have hc:=ih x.parts[k] (zE hlt)
  simp (disch:=omega) only [go_sem,Ab,hni,hg,hc,Ck]
  exact ⟨i+1,⟨k+1,by omega,hlt⟩,by omega,by first | trivial | rfl | exact ⟨rfl,rfl⟩⟩
 ·simp (disch:=omega) only [go_sem,Ab,hni]
theorem Lu (x:Fm) (ht:x.tame) (hn:x.nodes≤1099511627776):E 21 [x.sv,x.sv] []=some (.bool true,[]) :=
 PH x ht hn fun y hy=>Lu y (Fm.IC ht hy) (by have:=Fm.nodes_mem hy; have:=Fm.nodes_eq x; omega)
termination_by SizeOf.sizeOf x
decreasing_by exact Fm.lt_of_mem hy
def D8:SC:=(.seq (.reg [⟨(some 2),none,(.alloc 33 [(.int .i64 0),(.str ⟨#[]⟩),.nil,(.str ⟨#[]⟩),.nil])⟩]) (.seq (.reg [⟨some 4,none,.mv (.t 0)⟩,⟨some 5,none,.build [.nil,(.int .i64 0),(.int .u64 0)] [(0,(1,(.t 4)))]⟩,⟨some 6,none,.boxv 63 3 (.t 5)⟩,⟨some 3,none,.mv (.t 6)⟩]) (.seq (.reg [⟨some 7,none,.mv (.t 3)⟩,⟨some 8,none,.call 27 [(.t 7)]⟩,⟨none,none,(.store 5 (.t 2) (.t 8))⟩]) .ret)))
theorem Gg:codeOf Tryz.prog 15=some ⟨9,D8,[(.cell 2 true 5)]⟩:=by kernel_rfl
theorem D9:modes 15=⟨[],.frz,none,false⟩:=by unfold modes; rfl
theorem HK (l:List Int) (hl:Bytes l) (hn:l.length≤1099511627776):∃ x:Fm,E 15 [.arr (l.map by_)] []=some (x.sv,[])∧x.tame∧x.nodes≤100∧x.vn≤300:=by
 obtain ⟨Q,hQ⟩:∃ Q:SV × List Ob→Prop,Q=fun out=>∃ x,out=(Fm.sv x,[])∧x.tame∧x.nodes≤100∧x.vn≤300:=⟨_,rfl⟩
 suffices hq0:∃ out,E 15 [.arr (l.map by_)] []=some out∧Q out by
  obtain ⟨out,hq1,hq2⟩:=hq0
  rw [hQ] at hq2
  obtain ⟨x,rfl,hq3⟩:=hq2
  exact ⟨x,hq1,hq3⟩
 obtain ⟨x,p1,s1,hx,⟨g1,g2⟩,g3,hta,hvn⟩:=N8 l hl hn 0 0 (by omega) (by omega)
 have hxs:x.sv=.agg [.int .i64 x.op,.str x.atom.name,.arr (x.atom.args.map Tm.d),.str x.var,.arr (x.parts.map Fm.d)]:=rfl
 refine A7 Gg D9 (of_decide_eq_true rfl) ?_
 simp (disch:=omega) only [D8,go_sem,Ab,hx,AQ]
 rw [hQ]
 exact ⟨x,rfl,hta,g3,hvn⟩
def DL:SC:=(.seq (.reg [⟨(some 2),none,(.alloc 33 [(.int .i64 0),(.str ⟨#[]⟩),.nil,(.str ⟨#[]⟩),.nil])⟩]) (.seq (.reg [⟨some 3,none,.mv (.t 0)⟩,⟨some 4,none,.call 15 [(.t 3)]⟩,⟨none,none,(.store 5 (.t 2) (.t 4))⟩]) .ret))
theorem GH:codeOf Tryz.prog 17=some ⟨5,DL,[(.cell 2 true 5)]⟩:=by kernel_rfl
theorem Bv:modes 17=⟨[],.frz,none,false⟩:=by unfold modes; rfl
theorem IH (l:List Int) (hl:Bytes l) (hn:l.length≤1099511627776):∃ x:Fm,E 17 [.arr (l.map by_)] []=some (x.sv,[])∧x.tame∧x.nodes≤100∧x.vn≤300:=by
 obtain ⟨x,h1,h2,h3,h4⟩:=HK l hl hn
 refine ⟨x,?_,h2,h3,h4⟩
 refine Ai GH Bv (of_decide_eq_true rfl) ?_
 simp (disch:=omega) only [DL,go_sem,Ab,h1,D9]
def BT:SC:=(.seq (.reg [⟨some 2,none,.mv (.c (.bool false))⟩]) (.seq (.seq (.reg [⟨some 16,none,.mv (.t 0)⟩,⟨some 17,none,.call 6 [(.t 16)]⟩]) (.cond (.t 17) (.seq (.reg [⟨some 2,none,.mv (.c (.bool true))⟩]) .ret) .skip)) (.seq (.reg [⟨some 18,none,.mv (.t 0)⟩,⟨some 19,none,.call 17 [(.t 18)]⟩,⟨(some 3),none,(.alloc 33 [(.int .i64 0),(.str ⟨#[]⟩),.nil,(.str ⟨#[]⟩),.nil])⟩,⟨none,none,(.store 5 (.t 3) (.t 19))⟩]) (.seq (.reg [⟨some 21,none,.load true 5 (.t 3)⟩,⟨some 22,none,.call 18 [(.t 21)]⟩,⟨some 20,none,.mv (.t 22)⟩,⟨some 23,none,.ext (.t 20) 0⟩,⟨some 24,none,.ext (.t 20) 1⟩,⟨some 4,none,.mv (.t 23)⟩,⟨some 5,none,.mv (.t 24)⟩]) (.seq (.reg [⟨some 26,none,.mv (.t 4)⟩,⟨some 27,none,.call 19 [(.t 26)]⟩,⟨some 25,none,.mv (.t 27)⟩,⟨some 28,none,.ext (.t 25) 0⟩,⟨some 29,none,.ext (.t 25) 1⟩,⟨(some 6),none,(.alloc 33 [(.int .i64 0),(.str ⟨#[]⟩),.nil,(.str ⟨#[]⟩),.nil])⟩,⟨none,none,(.store 5 (.t 6) (.t 28))⟩,⟨some 7,none,.mv (.t 29)⟩]) (.seq (.seq (.reg [⟨some 30,none,.mv (.t 5)⟩,⟨some 31,none,.load true 5 (.t 3)⟩,⟨some 32,none,.call 20 [(.t 31)]⟩,⟨some 33,none,.bin .neq true (.t 30) (.t 32)⟩,⟨some 34,none,.mv (.t 33)⟩,⟨(some 35),(some (34,false)),(.mv (.t 5))⟩,⟨(some 36),(some (34,false)),(.mv (.t 35))⟩,⟨(some 37),(some (36,true)),(.mv (.t 7))⟩,⟨(some 38),(some (36,true)),(.un .not (.t 37))⟩,⟨(some 39),(some (36,true)),(.mv (.t 38))⟩,⟨(some 40),(some (39,false)),(.load true 5 (.t 3))⟩,⟨(some 41),(some (39,false)),(.load true 5 (.t 6))⟩,⟨(some 42),(some (39,false)),(.call 21 [(.t 40),(.t 41)])⟩,⟨(some 43),(some (39,false)),(.un .not (.t 42))⟩,⟨(some 44),(some (36,true)),(.pick (.t 39) (.c (.bool true)) (.t 43))⟩,⟨(some 45),(some (34,false)),(.pick (.t 36) (.t 44) (.c (.bool false)))⟩,⟨some 46,none,.pick (.t 34) (.c (.bool true)) (.t 45)⟩]) (.cond (.t 46) (.seq (.reg [⟨some 2,none,.mv (.c (.bool false))⟩]) .ret) .skip)) (.seq (.seq (.reg [⟨some 47,none,.mv (.t 5)⟩,⟨some 48,none,.un .not (.t 47)⟩]) (.cond (.t 48) (.seq (.reg [⟨some 49,none,.mv (.t 4)⟩,⟨(some 50),none,(.bin .eql false (.t 49) (.c (.str ⟨#[]⟩)))⟩,⟨some 2,none,.mv (.t 50)⟩]) .ret) .skip)) (.seq (.reg [⟨some 52,none,.load true 5 (.t 3)⟩,⟨some 53,none,.call 22 [(.t 52)]⟩,⟨some 51,none,.mv (.t 53)⟩,⟨some 54,none,.ext (.t 51) 0⟩,⟨some 55,none,.ext (.t 51) 1⟩,⟨some 8,none,.mv (.t 54)⟩,⟨some 9,none,.mv (.t 55)⟩]) (.seq (.reg [⟨some 57,none,.load true 5 (.t 3)⟩,⟨some 58,none,.call 23 [(.t 57)]⟩,⟨some 56,none,.mv (.t 58)⟩,⟨some 59,none,.ext (.t 56) 0⟩,⟨some 60,none,.ext (.t 56) 1⟩,⟨(some 10),none,(.alloc 33 [(.int .i64 0),(.str ⟨#[]⟩),.nil,(.str ⟨#[]⟩),.nil])⟩,⟨none,none,(.store 5 (.t 10) (.t 59))⟩,⟨some 11,none,.mv (.t 60)⟩]) (.seq (.reg [⟨some 62,none,.load true 5 (.t 10)⟩,⟨some 63,none,.call 22 [(.t 62)]⟩,⟨some 61,none,.mv (.t 63)⟩,⟨some 64,none,.ext (.t 61) 0⟩,⟨some 65,none,.ext (.t 61) 1⟩,⟨some 12,none,.mv (.t 64)⟩,⟨some 13,none,.mv (.t 65)⟩]) (.seq (.reg [⟨some 67,none,.load true 5 (.t 3)⟩,⟨some 68,none,.call 24 [(.t 67)]⟩,⟨some 66,none,.mv (.t 68)⟩,⟨some 69,none,.ext (.t 66) 0⟩,⟨some 70,none,.ext (.t 66) 1⟩,⟨some 14,none,.mv (.t 69)⟩,⟨some 15,none,.mv (.t 70)⟩]) (.seq (.reg [⟨some 71,none,.mv (.t 11)⟩,⟨some 72,none,.un .not (.t 71)⟩,⟨some 73,none,.mv (.t 72)⟩,⟨(some 74),(some (73,true)),(.mv (.t 14))⟩,⟨(some 75),(some (73,true)),(.mv (.t 8))⟩,⟨(some 76),(some (73,true)),(.len false (.t 75))⟩,⟨(some 77),(some (73,true)),(.bin .add false (.t 74) (.t 76))⟩,⟨(some 78),(some (73,true)),(.bin .gtr false (.t 77) (.c (.int .i64 40)))⟩,⟨some 79,none,.pick (.t 73) (.t 78) (.c (.bool false))⟩,⟨some 80,none,.mv (.t 79)⟩,⟨(some 81),(some (80,false)),(.mv (.t 11))⟩,⟨(some 82),(some (80,false)),(.mv (.t 81))⟩,⟨(some 83),(some (82,true)),(.mv (.t 13))⟩,⟨(some 84),(some (80,false)),(.pick (.t 82) (.t 83) (.c (.bool false)))⟩,⟨(some 85),(some (80,false)),(.mv (.t 84))⟩,⟨(some 86),(some (85,true)),(.mv (.t 12))⟩,⟨(some 87),(some (85,true)),(.len false (.t 86))⟩,⟨(some 88),(some (85,true)),(.bin .eql false (.t 87) (.c (.int .i64 0)))⟩,⟨(some 89),(some (80,false)),(.pick (.t 85) (.t 88) (.c (.bool false)))⟩,⟨some 90,none,.pick (.t 80) (.c (.bool true)) (.t 89)⟩,⟨some 2,none,.mv (.t 90)⟩]) .ret))))))))))))
theorem Cr:codeOf Tryz.prog 5=some ⟨91,BT,[(.tmp 2)]⟩:=by kernel_rfl
theorem Cs:modes 5=⟨[],.asis,none,false⟩:=by unfold modes; rfl
theorem XP (l:List Int) (hl:Bytes l):E 5 [.arr (l.map by_)] []=some (.bool true,[]):=by
 have hbig:=YZ l
 by_cases hb:65536<(l.length:Int)
 ·rw [Ax hb] at hbig
  refine Ai Cr Cs (of_decide_eq_true rfl) ?_
  simp (disch:=omega) only [BT,go_sem,Ab,hbig,Eb,Bv,BA,AT,BL,Ck,BB,Bw,Cj,Fm.osv,Fm.obs]
 ·rw [An hb] at hbig
  obtain ⟨x,hd,hta,hxn,hvn⟩:=IH l hl (by omega)
  have h4:=Iv x hta (by omega)
  have hz1:Fm.zero.osv=.agg [.int .i64 0,.str ⟨#[]⟩,.ref 0,.str ⟨#[]⟩,.ref 1]:=rfl
  have hz2:Fm.zero.obs=[.row 30 2 [],.row 33 5 []]:=rfl
  have hz3:Fm.zero.sv=.agg [.int .i64 0,.str ⟨#[]⟩,.arr [],.str ⟨#[]⟩,.arr []]:=rfl
  cases hv:x.valid with
  | false =>
   have h1:=S1 x hta (by omega) hv
   have h2:=Gc ⟨#[]⟩ (by show 0≤1048576; omega)
   rw [hv] at h4
   generalize Sn ⟨#[]⟩=g at *
   generalize XH ⟨#[]⟩=o at *
   cases o
   ·refine Ai Cr Cs (of_decide_eq_true rfl) ?_
    simp (disch:=omega) only [BT,go_sem,Ab,hbig,hd,h1,h2,h4,Eb,Bv,BA,AT,BL,Ck,BB,Bw,Cj,Fm.osv,Fm.obs]
   ·refine Ai Cr Cs (of_decide_eq_true rfl) ?_
    simp (disch:=omega) only [BT,go_sem,Ab,hbig,hd,h1,h2,h4,Eb,Bv,BA,AT,BL,Ck,BB,Bw,Cj,Fm.osv,Fm.obs]
  | true =>
   obtain ⟨h1,hsz⟩:=Rq x hta hv hvn
   have h2:=Gc x.txt (by omega)
   obtain ⟨z1,z2⟩:=Wc hsz (f:=x) ⟨hv,rfl⟩
   rw [z1,z2] at h2
   rw [hv] at h4
   have h3:=Lu x hta (by omega)
   have h5:=G1 x hta hv
   have h6:=Ni x hta (by omega)
   have h8:=L5 x hta hv
   have hfl:=Fm.Nd x
   obtain ⟨v1,v2⟩:=CF hv
   have hi:dec (inK .i64 ((x.nodes:Int)+(x.free.length:Int)))=true:=D6 (by omega) (by omega)
   cases hok:Ng x with
   | false =>
    have hno:=Ww hv hok
    have z3:Nh x=Fm.zero:=by unfold Nh; rw [hok]; rfl
    rw [hok,z3,hz1,hz2] at h6
    have h7:E 22 [.agg [.int .i64 0,.str ⟨#[]⟩,.arr [],.str ⟨#[]⟩,.arr []]] []=some (.tup [.arr [],.bool false],[]):=by
     have:=KR Fm.zero ?_ ?_ ?_
     ·rw [hz3] at this; exact this
     ·rw [Fm.DR]
      refine ⟨by show Tm.zero.nodes≤_; rw [Ca]; omega,?_⟩
      show Fm.BQ []
      rw [Fm.BQ]; trivial
     ·rw [Fm.nodes_eq]; show 1+Fm.nodeS []≤_; rw [Fm.nodeS]; omega
     ·cases h:Fm.zero.valid with
      | false=>rfl
      | true =>
       have h2:=Fm.By (CF h).2
       unfold Fm.form at h2
       have e:Fm.zero.op=0:=rfl
       rw [e] at h2
       simp at h2
    have q1:((40:Int)<(x.nodes:Int)+(x.free.length:Int))=True:=eq_true (by omega)
    refine Ai Cr Cs (of_decide_eq_true rfl) ?_
    simp (disch:=omega) only [BT,go_sem,Ab,hbig,hd,h1,h2,h3,h4,h5,h6,h7,h8,hi,q1,Eb,Bv,BA,AT,BL,Ck,BB,Bw,Cj,Fm.osv,Fm.obs]
   | true =>
    have z3:Nh x=J2 x:=by unfold Nh; rw [hok]; rfl
    have hcv:(J2 x).valid=true:=by unfold Ng at hok; rw [zB] at hok; exact hok.2
    have h7:=G1 (J2 x) (Fm.Nf hta x.free) hcv
    rw [U2,zI] at h7
    rw [hok,z3] at h6
    generalize J2 x=h at *
    refine Ai Cr Cs (of_decide_eq_true rfl) ?_
    simp (disch:=omega) only [BT,go_sem,Ab,hbig,hd,h1,h2,h3,h4,h5,h6,h7,h8,hi,Eb,Bv,BA,AT,BL,Ck,BB,Bw,Cj,Fm.osv,Fm.obs]
end Go.Proofs.YtfgkiemoglcppaaGreat
set_option maxRecDepth 100000
set_option linter.unusedSimpArgs false
set_option linter.unusedVariables false
set_option linter.unusedSectionVars false
namespace Go.Proofs.YtfgkiemoglcppaaGreat
open Go.RowKit Go.ChangeShapes Go.WideShapes Go.ChangeAt Go.Deep
section
variable {H:Type} {enc:TypeId × Value→H} {P:Program} {w:World} {base:Nat} {spare:Nat→Bool} {held:Bool}
theorem Iw {b o k:Nat}:(⟨b,o,none⟩:Addr).add k=⟨b,o+k,none⟩:=by
 unfold Addr.add; split
 ·subst_vars; rfl
 ·rfl
theorem XQ {a:Addr} {v:Value} (h:w.cell? a=some v):a.block<w.heap.size:=by
 unfold World.cell? at h
 cases hb:w.heap[a.block]? with
 | none=>rw [hb] at h; cases h
 | some o=>exact (Array.getElem?_eq_some_iff.1 hb).1
end
section
variable {H:Type} {enc:TypeId × Value→H} {w:World} {base:Nat} {spare:Nat→Bool} {held:Bool}
end
end Go.Proofs.YtfgkiemoglcppaaGreat
set_option maxRecDepth 100000
set_option linter.unusedSimpArgs false
set_option linter.unusedVariables false
set_option linter.unusedSectionVars false
namespace Go.Proofs.YtfgkiemoglcppaaGreat
open Go.RowKit Go.ChangeShapes Go.WideShapes Go.ChangeAt Go.Deep
section
variable {H:Type} {enc:TypeId × Value→H} {P:Program} {w:World} {base:Nat} {spare:Nat→Bool} {held:Bool}
theorem Wy {t e:TypeId} {fuel:Nat} {v:Value} {x:DataW H × List MemPlace} (sz:Nat) (hsz:P.cellsOf e=sz) (h0:0<sz) (ht:P.underlying t=some (.slice e)) (h:DataW.trod enc P w base spare held fuel t [v]=some x) :
  ∃ (a:Option Addr) (len cap:Nat) (f:Nat→Nat→Value),v=.slice a len cap∧len≤cap∧cap≤9223372036854775807∧SlA w 0 sz len f a ∧
   ∀ i,i<len→∃ n x',n<fuel∧DataW.trod enc P w base spare held n e ((zH sz).map (f i))=some x':=by
 rcases DataW.trod_slice ht h with ⟨hcs,_⟩ | ⟨a,len,cap,elems,rest,n,hf,hcs,hx,hb,hl,hm,hlen,hel,_,_⟩
 ·simp only [zM,and_true] at hcs
  exact ⟨none,0,0,fun _ _=>undef,hcs,Nat.le_refl _,by omega,.inl rfl,fun i hi=>absurd hi (by omega)⟩
 ·have hi:∀ i,i<len→∃ cs' x',w.cells? base (a.add (i*sz)) sz=some cs'∧DataW.trod enc P w base spare held n e cs'=some x':=by
   intro i hi
   have h1:=hel i hi
   rw [hsz,zF (by omega)] at h1
   obtain ⟨cs',h2,h3⟩:=Option.bind_eq_some_iff.1 h1
   exact ⟨cs',_,h2,h3⟩
  have hcell:∀ i j,i<len→j<sz→∃ v,w.cell? (a.add (i*sz+j))=some v:=by
   intro i j hil hj
   obtain ⟨cs',x',hc,_⟩:=hi i hil
   obtain ⟨_,hcl,hat⟩:=World.cells?_some hc
   have h1:=hat j hj
   rw [Go.Deep.add_add,zF (by omega)] at h1
   exact ⟨_,h1⟩
  simp only [zM,and_true] at hcs
  refine ⟨some a,len,cap,fun i j=>(w.cell? (a.add (i*sz+j))).getD undef,hcs,hl,hm,?_,?_⟩
  ·rcases Nat.eq_zero_or_pos len with h | h
   ·exact .inl h
   ·obtain ⟨v,hv⟩:=hcell 0 0 h h0
    rw [Nat.zero_mul,Nat.zero_add] at hv
    have hsp:a.spot=none:=by simpa [Addr.add] using World.cell?_spot hv
    have hlt:=XQ hv
    obtain ⟨b,off,spot⟩:=a
    simp only at hsp
    subst hsp
    refine .inr ⟨b,off,rfl,zN _,by simpa [Addr.add] using hlt,fun i j hil hj=>?_⟩
    obtain ⟨v',hv'⟩:=hcell i j hil hj
    rw [Iw] at hv'
    show _=some ((w.cell? ((⟨b,off,none⟩:Addr).add (i*sz+j))).getD undef)
    rw [Iw,Nat.add_assoc,hv']
    rfl
  ·intro i hil
   obtain ⟨cs',x',hc,ht'⟩:=hi i hil
   obtain ⟨_,hcl,hat⟩:=World.cells?_some hc
   refine ⟨n,x',by omega,?_⟩
   have hcs':(zH sz).map (fun j=>(w.cell? (a.add (i*sz+j))).getD undef)=cs':=by
    apply List.ext_getElem?
    intro j
    by_cases hj:j<sz
    ·rw [List.getElem?_map,List.getElem?_range hj]
     have h1:=hat j hj
     rw [Go.Deep.add_add] at h1
     rw [zF (by omega:j<cs'.length)] at h1 ⊢
     simp [h1]
    ·rw [List.getElem?_eq_none (by simp; omega),List.getElem?_eq_none (by omega)]
   rw [hcs']
   exact ht'
end
inductive Lvs (w:World):List D→List Value→Prop
 |nil:Lvs w [] []
 |cons {d:D} {v:Value} {ds:List D} {vs:List Value} (h:DAt w d v) (hs:Lvs w ds vs):Lvs w (d :: ds) (v :: vs)
theorem Lvs.len {w:World} {ds:List D} {vs:List Value} (h:Lvs w ds vs):ds.length=vs.length:=by
 induction h with
 | nil=>rfl
 | cons h hs ih=>simp [ih]
theorem Lvs.get {w:World} {ds:List D} {vs:List Value} (h:Lvs w ds vs):∀ j (h1:j<ds.length) (h2:j<vs.length),DAt w ds[j] vs[j]:=by
 induction h with
 | nil=>intro j h1; simp at h1
 | cons h hs ih =>
  intro j h1 h2
  cases j with
  | zero=>exact h
  | succ j=>exact ih j (by simpa using h1) (by simpa using h2)
theorem Wz {α:Type} [Inhabited α] (dd:α→List D) {w:World} {m len cap:Nat} {f:Nat→Nat→Value} {a:Option Addr} (hl:len≤cap) (hm:cap≤9223372036854775807) (hS:SlA w 0 m len f a)
  (hel:∀ i,i<len→∃ X:α,Lvs w (dd X) ((zH m).map (f i))):∃ xs:List α,DAt w (.arr (xs.map dd)) (.slice a len cap):=by
 obtain ⟨g,hg⟩:∃ g:Nat→α,∀ i,i<len→Lvs w (dd (g i)) ((zH m).map (f i)) :=
  ⟨fun i=>if h:i<len then (hel i h).choose else default,fun i hi=>by simp only [hi,dif_pos]; exact (hel i hi).choose_spec⟩
 refine ⟨(zH len).map g,?_⟩
 have hlen:(((zH len).map g).map dd).length=len:=by simp
 have:=DAt.XX (w:=w) (es:=((zH len).map g).map dd) (sz:=m) (cap:=cap) (a:=a) (f:=f) (by rw [hlen]; exact hl) hm (by rw [hlen]; exact hS) (fun i hi=>by
  rw [hlen] at hi
  have:=(hg i hi).len
  simpa using this) (fun i j hi hj=>by
  rw [hlen] at hi
  have h1:=hg i hi
  have h2:=h1.len
  simp only [List.length_map,List.length_range] at h2
  simp only [List.getElem_map,List.getElem_range] at hj ⊢
  have:=h1.get j hj (by simp; omega)
  simpa using this)
 rw [hlen] at this
 exact this
instance:Inhabited Tm:=⟨Tm.zero⟩
instance:Inhabited Fm:=⟨Fm.zero⟩
section
variable {H:Type} {enc:TypeId × Value→H} {w:World} {base:Nat} {spare:Nat→Bool} {held:Bool}
end
end Go.Proofs.YtfgkiemoglcppaaGreat
set_option maxRecDepth 100000
set_option linter.unusedSimpArgs false
set_option linter.unusedVariables false
set_option linter.unusedSectionVars false
namespace Go.Proofs.YtfgkiemoglcppaaGreat
open Go.RowKit
theorem DRep.lt_ {own:Bool} {w:World} {S:Nat→Prop} {d:D} {v:Value} (h:DRep own w S d v):DRep own w (fun b=>S b∧b<w.heap.size) d v:=by
 induction h with
 | int S n=>exact .int _ n
 | byte S n=>exact .byte _ n
 | bool S b=>exact .bool _ b
 | str S s h=>exact .str _ s h
 | arr S sz es a cap f Sub h1 h2 h3 h4 h5 h6 h7 ih =>
  refine .arr _ sz es a cap f (fun i j x=>Sub i j x∧x<w.heap.size) h1 h2 ?_ h4 (fun i j x h=>⟨h5 i j x h.1,h.2⟩) (fun ho i j i' j' x h h'=>h6 ho i j i' j' x h.1 h'.1) ih
  rcases h3 with h3 | ⟨b,off,ha,hS,hl,hc,ho⟩
  ·exact .inl h3
  ·exact .inr ⟨b,off,ha,⟨hS,hl⟩,hl,hc,fun h=>⟨fun i j hx=>(ho h).1 i j hx.1,(ho h).2⟩⟩
theorem DAt.rep {w:World} {es:List (List D)} {v:Value} (h:DAt w (.arr es) v):RepV w (fun b=>b<w.heap.size) (fun _=>none) (.arr es) v:=by
 simp only [RepV]
 exact (DRep.lt_ h).up fun b hb=>hb.2
theorem Fun.yes {f:FuncId} {args:List SV} (h:Fun Tryz.prog f args [] (.bool true) []) {w:World} {vs:List Value} (hgl:GL w fun b=>b<w.heap.size) (hvs:RepVs w (fun b=>b<w.heap.size) (fun _=>none) args vs):Calls Tryz.prog f vs.toArray w (Ret w (.bool true)):=by
 have nl:∀ g,¬ (As [] g).live:=fun g hg=>by simp [As,Ob.live] at hg
 refine (h w (fun b=>b<w.heap.size) (fun _=>none) (fun _ _=>False) vs ⟨fun b hb=>hb,fun g hg=>absurd hg (nl g),fun g b hg=>absurd hg (nl g),fun g b hg=>absurd hg (nl g),fun g g' b hg=>absurd hg (nl g),fun g _=>rfl,hgl⟩ hvs).mono ?_
 rintro e w' ⟨v,I',V',B',rfl,hr,hp⟩
 simp only [RepV] at hr
 subst hr
 exact ⟨rfl,hp.fr.os,hp.fr.tape.1,hp.fr.output,hp.fr.size,fun b hb=>hp.fr.block b hb fun ⟨g,hg,_⟩=>absurd hg (nl g)⟩
theorem W0 {w:World} {I:Nat→Prop} {V:Nat→Option Value}:RepVs w I V [] []:=by simp [RepVs]
theorem U3 {w:World} {I:Nat→Prop} {V:Nat→Option Value} {x:SV} {xs:List SV} {v:Value} {vs:List Value} (h:RepV w I V x v) (hs:RepVs w I V xs vs):RepVs w I V (x :: xs) (v :: vs):=by
 simp only [RepVs]; exact ⟨v,vs,rfl,h,hs⟩
section
variable {H:Type} {enc:TypeId × Value→H} {w:World} {base:Nat} {spare:Nat→Bool} {held:Bool}
end
end Go.Proofs.YtfgkiemoglcppaaGreat
set_option maxRecDepth 100000
set_option linter.unusedSimpArgs false
set_option linter.unusedVariables false
set_option linter.unusedSectionVars false
namespace Go.Proofs.YtfgkiemoglcppaaGreat
open Go.RowKit Go.ChangeShapes Go.WideShapes Go.ChangeAt Go.Deep
section
variable {H:Type} {enc:TypeId × Value→H} {w:World} {base:Nat} {spare:Nat→Bool} {held:Bool}
abbrev ByteZ:={ b:Int // 0≤b∧b≤255 }
instance:Inhabited ByteZ:=⟨⟨0,by omega⟩⟩
theorem U4 {fuel:Nat} {v:Value} {x:DataW H × List MemPlace} (h:DataW.trod enc Tryz.prog w base spare held fuel 22 [v]=some x):∃ l:List Int,Bytes l∧DAt w (.arr (l.map by_)) v:=by
 obtain ⟨a,len,cap,f,rfl,hl,hm,hS,hr⟩:=Wy (P:=Tryz.prog) 1 (by kernel_rfl) (by omega) Tryz.underlying22 h
 obtain ⟨xs,hx⟩:=Wz (fun s:ByteZ=>[D.byte s.1]) hl hm hS fun i hi=>by
  obtain ⟨n,x',hn,h1⟩:=hr i hi
  obtain ⟨z,q,_,hw⟩:=DataW.trod_int Tryz.underlying5 h1
  have h2:(decide (IntKind.u8.min≤z)&&decide (z≤IntKind.u8.max))=true:=hw
  rw [zB,decide_eq_true_eq,decide_eq_true_eq] at h2
  rw [q]
  exact ⟨⟨z,h2.1,h2.2⟩,.cons (.byte _ z) .nil⟩
 refine ⟨xs.map (·.1),fun b hb=>?_,?_⟩
 ·obtain ⟨s,_,rfl⟩:=List.mem_map.1 hb
  exact s.2
 ·rw [List.map_map]
  exact hx
end
end Go.Proofs.YtfgkiemoglcppaaGreat
