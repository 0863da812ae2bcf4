/-
  Texts of this claim, one behind the other, each built on those ahead of it. No condition.
-/
import Derived.Test.YtfgkiemoglcppaaGreatDoorK38b
import Derived.Test.YtfgkiemoglcppaaGreatDoorK38c
import Derived.Test.YtfgkiemoglcppaaGreatDoorK38d
import Derived.ProofKit
import Derived.Deep.Slices
import Derived.Deep.Fields
import Derived.ChangeSame
import Derived.OpenShut
import Derived.ShutString
import Derived.ChangeOld
set_option maxHeartbeats 16000000
open List renaming map_cons → zA, take_succ_eq_append_getElem → zC, getElem?_eq_getElem → zD, map_append → zE, getElem_mem → zF, length_map → zG, map_nil → zH, all_eq_true → zI, getD_eq_getElem?_getD → zJ, all_map → zM, take_of_length_le → zN, headD_cons → zO, range → zP, map_map → zQ, length_take → zR, take_zero → zT, drop_zero → zW, getElem_range → zY, drop_eq_getElem_cons → z6, length_range → z7, mem_map → yB
open Bool renaming and_eq_true → zB, false_and → zU, true_and → zV, not_false → zX, false_beq → zZ, not_true → z8, true_beq → yA
open Nat renaming zero_le → zK, lt_or_ge → zL, eq_zero_or_pos → zS
set_option maxRecDepth 100000
set_option linter.unusedSimpArgs false
set_option linter.unusedVariables false
set_option linter.unusedSectionVars false
namespace Go.Proofs.YtfgkiemoglcppaaGreatDoor
open Go.RowKit
def DC:SC:=(.seq (.reg [⟨some 2,none,.boxv 29 5 (.t 0)⟩,⟨some 3,none,.boxv 4 1 (.t 1)⟩,⟨(some 4),none,(.alloc 29 [(.int .i64 0),(.str ⟨#[]⟩),.nil,(.str ⟨#[]⟩),.nil])⟩]) (.seq (.reg [⟨some 8,none,.mkmap false none⟩,⟨none,none,(.mset false (.t 8) (.c (.int .i64 1)) (.c (.int .i64 2)))⟩,⟨none,none,(.mset false (.t 8) (.c (.int .i64 2)) (.c (.int .i64 1)))⟩,⟨none,none,(.mset false (.t 8) (.c (.int .i64 5)) (.c (.int .i64 6)))⟩,⟨none,none,(.mset false (.t 8) (.c (.int .i64 6)) (.c (.int .i64 5)))⟩,⟨none,none,(.mset false (.t 8) (.c (.int .i64 8)) (.c (.int .i64 9)))⟩,⟨none,none,(.mset false (.t 8) (.c (.int .i64 9)) (.c (.int .i64 8)))⟩,⟨some 9,none,.mv (.t 8)⟩,⟨some 5,none,.mv (.t 9)⟩]) (.seq (.seq (.reg [⟨some 10,none,.faddr 0 (.t 2)⟩,⟨some 11,none,.load false 1 (.t 10)⟩]) (.block 0 (.seq (.reg [⟨some 13,none,.bin .eql false (.t 11) (.c (.int .i64 3))⟩,⟨some 12,none,.mv (.t 13)⟩]) (.cond (.t 12) (.seq (.seq (.reg [⟨some 14,none,.load false 1 (.t 3)⟩]) (.cond (.t 14) (.seq (.reg [⟨some 15,none,.load true 5 (.t 2)⟩,⟨some 16,none,.call 28 [(.t 15)]⟩,⟨none,none,(.store 5 (.t 4) (.t 16))⟩]) .ret) .skip)) (.seq (.reg [⟨some 17,none,.load true 5 (.t 2)⟩,⟨some 18,none,.call 28 [(.t 17)]⟩,⟨some 19,none,.call 29 [(.t 18)]⟩,⟨none,none,(.store 5 (.t 4) (.t 19))⟩]) .ret)) (.seq (.reg [⟨some 21,none,.bin .eql false (.t 11) (.c (.int .i64 4))⟩,⟨some 20,none,.mv (.t 21)⟩]) (.cond (.t 20) (.seq (.dreg [[],[0],[1,0],[2,1,0],[],[4],[3,2,1,0,5,4],[6,3,2,1,0,5,4]] [⟨some 22,none,.faddr 4 (.t 2)⟩,⟨some 23,none,.load false 1 (.t 22)⟩,⟨some 24,none,.iaddr 5 (.t 23) (.c (.int .i64 0))⟩,⟨some 25,none,.load true 5 (.t 24)⟩,⟨some 26,none,.load false 1 (.t 3)⟩,⟨some 27,none,.un .not (.t 26)⟩,⟨some 28,none,.call 18 [(.t 25),(.t 27)]⟩,⟨none,none,(.store 5 (.t 4) (.t 28))⟩]) .ret) (.seq (.reg [⟨some 30,none,.bin .eql false (.t 11) (.c (.int .i64 7))⟩,⟨some 29,none,.mv (.t 30)⟩]) (.cond (.t 29) (.seq (.reg [⟨some 6,none,.mv (.c (.int .i64 6))⟩]) (.seq (.seq (.reg [⟨some 31,none,.load false 1 (.t 3)⟩,⟨some 32,none,.un .not (.t 31)⟩]) (.cond (.t 32) (.reg [⟨some 6,none,.mv (.c (.int .i64 5))⟩]) .skip)) (.seq (.dreg [[],[],[1],[2,1],[3,2,1],[],[5],[4,3,2,1,6,5],[],[8],[9,8],[10,9,8],[],[11,10,9,8,12,7,4,3,2,1,6,5],[0,7,4,3,2,1,6,5,13,11,10,9,8,12],[14,0,7,4,3,2,1,6,5,13,11,10,9,8,12]] [⟨some 33,none,.mv (.t 6)⟩,⟨some 34,none,.faddr 4 (.t 2)⟩,⟨some 35,none,.load false 1 (.t 34)⟩,⟨some 36,none,.iaddr 5 (.t 35) (.c (.int .i64 0))⟩,⟨some 37,none,.load true 5 (.t 36)⟩,⟨some 38,none,.load false 1 (.t 3)⟩,⟨some 39,none,.un .not (.t 38)⟩,⟨some 40,none,.call 18 [(.t 37),(.t 39)]⟩,⟨some 41,none,.faddr 4 (.t 2)⟩,⟨some 42,none,.load false 1 (.t 41)⟩,⟨some 43,none,.iaddr 5 (.t 42) (.c (.int .i64 1))⟩,⟨some 44,none,.load true 5 (.t 43)⟩,⟨some 45,none,.load false 1 (.t 3)⟩,⟨some 46,none,.call 18 [(.t 44),(.t 45)]⟩,⟨some 47,none,.call 30 [(.t 33),(.t 40),(.t 46)]⟩,⟨none,none,(.store 5 (.t 4) (.t 47))⟩]) .ret))) .skip)))))))) (.seq (.reg [⟨some 48,none,.load true 5 (.t 2)⟩,⟨some 49,none,.mkfn 32 [(.t 3)]⟩,⟨some 50,none,.call 31 [(.t 48),(.t 49)]⟩,⟨(some 7),none,(.alloc 29 [(.int .i64 0),(.str ⟨#[]⟩),.nil,(.str ⟨#[]⟩),.nil])⟩,⟨none,none,(.store 5 (.t 7) (.t 50))⟩]) (.seq (.seq (.reg [⟨some 51,none,.load false 1 (.t 3)⟩,⟨some 52,none,.un .not (.t 51)⟩]) (.cond (.t 52) (.reg [⟨some 53,none,.mv (.t 5)⟩,⟨some 54,none,.faddr 0 (.t 2)⟩,⟨some 55,none,.load false 1 (.t 54)⟩,⟨some 56,none,.mget false false false [(.int .i64 0)] (.t 53) (.t 55)⟩,⟨some 57,none,.faddr 0 (.t 7)⟩,⟨none,none,(.store 1 (.t 57) (.t 56))⟩]) .skip)) (.seq (.reg [⟨some 58,none,.load true 5 (.t 7)⟩,⟨none,none,(.store 5 (.t 4) (.t 58))⟩]) .ret))))))
theorem Ei:codeOf Tryz.prog 18=some ⟨59,DC,[(.cell 4 true 5)]⟩:=by kernel_rfl
theorem BG:modes 18=⟨[],.own [none,none,some (26,2),none,some (29,5)],none,false⟩:=by unfold modes; rfl
def K3:SC:=(.seq (.reg [⟨some 2,none,.boxv 29 5 (.t 0)⟩,⟨(some 3),none,(.alloc 29 [(.int .i64 0),(.str ⟨#[]⟩),.nil,(.str ⟨#[]⟩),.nil])⟩]) (.seq (.reg [⟨some 4,none,.load true 5 (.t 2)⟩,⟨some 5,none,.load false 1 (.t 1)⟩,⟨some 6,none,.call 18 [(.t 4),(.t 5)]⟩,⟨none,none,(.store 5 (.t 3) (.t 6))⟩]) .ret))
theorem PE:codeOf Tryz.prog 32=some ⟨7,K3,[(.cell 3 true 5)]⟩:=by kernel_rfl
theorem Ci:modes 32=⟨[],.asis,none,false⟩:=by unfold modes; rfl
theorem PF:Fu Tryz.prog 32=true:=by kernel_rfl
def Co:SC:=(.seq (.reg [⟨some 1,none,.boxv 29 5 (.t 0)⟩,⟨(some 2),none,(.alloc 29 [(.int .i64 0),(.str ⟨#[]⟩),.nil,(.str ⟨#[]⟩),.nil])⟩,⟨some 3,none,.mv (.c (.bool false))⟩]) (.seq (.seq (.reg [⟨some 4,none,.load true 5 (.t 1)⟩,⟨some 5,none,.call 16 [(.t 4)]⟩,⟨some 6,none,.un .not (.t 5)⟩]) (.cond (.t 6) (.seq (.reg [⟨(some 7),none,(.build [(.int .i64 0),(.str ⟨#[]⟩),.nil,(.str ⟨#[]⟩),.nil] [])⟩,⟨none,none,(.store 5 (.t 2) (.t 7))⟩,⟨some 3,none,.mv (.c (.bool false))⟩]) .ret) .skip)) (.seq (.reg [⟨some 8,none,.load true 5 (.t 1)⟩,⟨some 9,none,.call 18 [(.t 8),(.c (.bool true))]⟩,⟨some 10,none,.call 17 [(.t 9)]⟩,⟨some 11,none,.ext (.t 10) 0⟩,⟨some 12,none,.ext (.t 10) 1⟩,⟨none,none,(.store 5 (.t 2) (.t 11))⟩,⟨some 3,none,.mv (.t 12)⟩]) .ret)))
theorem CJ:codeOf Tryz.prog 6=some ⟨13,Co,[(.cell 2 true 5),(.tmp 3)]⟩:=by kernel_rfl
theorem A6:modes 6=⟨[],.own [none,none,some (26,2),none,some (29,5),none],none,false⟩:=by unfold modes; rfl
theorem PG (fid:Nat) (b:Bool) (g:Fm→Fm) (x:Fm) (hl:x.parts.length≤1099511627776) (hat:x.atom.nodes≤1099511627776) (hg:Fu Tryz.prog fid=true) (hm:(modes fid).hand=[]) (hr:∀ r,Fi (modes fid).res r=r)
  (hE:∀ y∈x.parts,E fid [y.sv,.ptr 0 0] [.box 4 [.bool b]]=some (.agg [.int .i64 (g y).op,.str (g y).atom.name,.ref 1,.str (g y).var,.ref 2],[.box 4 [.bool b],.row 26 2 ((g y).atom.args.map Tm.o),.row 29 5 ((g y).parts.map Fm.o)])) :
  E 31 [x.sv,.fn fid [.ptr 0 0]] [.box 4 [.bool b]]=some (.agg [.int .i64 x.op,.str x.atom.name,.ref 1,.str x.var,.ref 2],[.box 4 [.bool b],.row 26 2 (x.atom.args.map Tm.o),.row 29 5 ((x.parts.map g).map Fm.o)]):=by
 have hct:=Gb x.atom hat
 have h10:((1:Int)=0)=False:=by simp
 have hmm:∀ ys:List Fm,(ys.map g).map Fm.o=ys.map fun y=>Fm.o (g y):=fun ys=>by rw [zQ]; rfl
 rw [hmm]
 refine Aj Ed AZ (of_decide_eq_true rfl) ?_
 simp (disch:=omega) only [Dx,go_sem,Ab,hct,CM,Tm.osv,Tm.obs]
 refine go_loop (α:=Int) (fun a=>⟨slots 33 0 [(1,.fn fid [.ptr 0 0]),(4,.ptr 1 0),(5,.ptr 2 0),(17,.arr (x.parts.map Fm.d)),(18,.int .i64 x.parts.length),(19,.int .i64 a)],(if a=0 then [.box 4 [.bool b],.box 29 [.int .i64 0,.str ⟨#[]⟩,.nil,.str ⟨#[]⟩,.nil],.box 29 [.int .i64 x.op,.str x.atom.name,.ref 3,.str x.var,.nil],.row 26 2 (x.atom.args.map Tm.o)] else [.box 4 [.bool b],.box 29 [.int .i64 0,.str ⟨#[]⟩,.nil,.str ⟨#[]⟩,.nil],.box 29 [.int .i64 x.op,.str x.atom.name,.ref 3,.str x.var,.ref 4],.row 26 2 (x.atom.args.map Tm.o),.row 29 5 ((x.parts.take a.toNat).map fun y=>Fm.o (g y))])⟩) (fun a=>∃ k:Nat,a=k∧k≤(x.parts).length) (fun a=>(x.parts).length-(a).toNat) 0 ⟨0,rfl,zK _⟩ (by simp (disch:=omega) only [go_sem,Ab,eq_self,if_true]) ?_
 rintro i ⟨k,hi,hk⟩
 have hni:i.toNat=k:=by omega
 have hni1:(i+1).toNat=k+1:=by omega
 rcases zL k (x.parts).length with hlt | hge
 ·have hgt:=get_at Fm.d hlt
  rw [Fm.d_eq] at hgt
  have hc:=hE x.parts[k] (zF hlt)
  have hs:=Gc (fun y=>Fm.o (g y)) hlt
  rw [Fm.o_eq] at hs
  rcases zS k with h0 | h0
  ·subst h0
   obtain rfl:i=0:=hi
   rw [zT,zH,List.nil_append] at hs
   simp (disch:=omega) only [go_sem,Ab,hni,hgt,hc,hg,hm,hr,eq_self,if_true]
   refine ⟨1,⟨1,rfl,hlt⟩,by omega,?_⟩
   simp (disch:=omega) only [go_sem,Ab,h10,if_false,hs]
  ·have hi0:(i=0)=False:=by simp; omega
   have hi1:(i+1=0)=False:=by simp; omega
   have htl:(x.parts.take k).length=k:=by rw [zR]; omega
   simp (disch:=omega) only [go_sem,Ab,hni,hgt,hc,hg,hm,hr,hi0,if_false,htl]
   refine ⟨i+1,⟨k+1,by omega,hlt⟩,by omega,?_⟩
   simp (disch:=omega) only [go_sem,Ab,hni1,hi1,if_false,hs]
 ·obtain rfl:k=x.parts.length:=by omega
  have ht:x.parts.take x.parts.length=x.parts:=List.take_length
  rcases zS x.parts.length with h0 | h0
  ·have hx:x.parts=[]:=List.eq_nil_of_length_eq_zero h0
   obtain rfl:i=0:=by omega
   simp (disch:=omega) only [go_sem,Ab,hni,hx,eq_self,if_true,zH,List.length_nil]
  ·have hi0:(i=0)=False:=by simp; omega
   simp (disch:=omega) only [go_sem,Ab,hni,hi0,if_false,ht]
abbrev NnC (b:Bool) (x:Fm):Prop:=E 18 [x.sv,.bool b] []=some ((x.nnf b).osv,(x.nnf b).obs)
theorem YO (b:Bool) (x:Fm) (h:NnC b x):E 32 [x.sv,.ptr 0 0] [.box 4 [.bool b]]=some (.agg [.int .i64 (x.nnf b).op,.str (x.nnf b).atom.name,.ref 1,.str (x.nnf b).var,.ref 2],[.box 4 [.bool b],.row 26 2 ((x.nnf b).atom.args.map Tm.o),.row 29 5 ((x.nnf b).parts.map Fm.o)]):=by
 unfold NnC at h
 generalize x.nnf b=y at *
 refine Aj PE Ci (of_decide_eq_true rfl) ?_
 simp (disch:=omega) only [K3,go_sem,Ab,h,Bh,Dp,Cw,BG,Ci,AZ,Fm.osv,Fm.obs]
theorem YP (x:Fm) (hx:x.forms=true) (hsz:x.nodes≤40) (b:Bool) (ih:∀ y∈x.parts,∀ b,NnC b y):NnC b x:=by
 have hf:=Fm.B8 hx
 have hta:=Fm.H4 x hx
 have hat:=Fm.EW hf
 have hnd:=Fm.nodes_eq x
 have hpl:=Fm.length_le x.parts
 have hcp:=Jo x hta (by omega)
 have hnt:=Zt x
 have hN:=Fm.Nj x b
 unfold Fm.RS at hN
 unfold NnC
 have hmp:=PG 32 b (fun y=>y.nnf b) x (by omega) (by omega) PF (by rw [Ci]) (fun r=>by rw [Ci]; rfl) (fun y hy=>YO b y (ih y hy b))
 have hn1:(Fm.QH x).osv=.agg [.int .i64 4,.str ⟨#[]⟩,.ref 0,.str ⟨#[]⟩,.ref 1]:=rfl
 have hn2:(Fm.QH x).obs=[.row 26 2 [],.row 29 5 [Fm.o x]]:=rfl
 have hp1:∀ op y z,(Fm.Il op y z).osv=.agg [.int .i64 op,.str ⟨#[]⟩,.ref 0,.str ⟨#[]⟩,.ref 1]:=fun _ _ _=>rfl
 have hp2:∀ op y z,(Fm.Il op y z).obs=[.row 26 2 [],.row 29 5 [Fm.o y,Fm.o z]]:=fun _ _ _=>rfl
 have hk1:∀ op ys,(Fm.mk op x.atom x.var ys).osv=.agg [.int .i64 op,.str x.atom.name,.ref 0,.str x.var,.ref 1]:=fun _ _=>rfl
 have hk2:∀ op ys,(Fm.mk op x.atom x.var ys).obs=[.row 26 2 (x.atom.args.map Tm.o),.row 29 5 (ys.map Fm.o)]:=fun _ _=>rfl
 have hs3:∀ (h:x.op=3),Fm.mk x.op x.atom x.var x.parts=x:=fun _=>by obtain ⟨_,_,_,_⟩:=x; rfl
 rcases Fm.Nk hf with h1 | h1 | h1 | h1 | h1 | h1 | h1 | h1 | h1
 case inr.inr.inl =>
  rw [Au h1,hs3 h1,cond_true] at hN
  rw [hN]
  cases b with
  | true =>
   rw [cond_true]
   refine Aj Ei BG (of_decide_eq_true rfl) ?_
   simp (disch:=omega) only [DC,go_sem,Ab,hcp,hnt,Bh,Dp,Cw,BG,Ci,AZ,Fm.osv,Fm.obs]
  | false =>
   rw [cond_false,hn1,hn2]
   refine Aj Ei BG (of_decide_eq_true rfl) ?_
   simp (disch:=omega) only [DC,go_sem,Ab,hcp,hnt,Bh,Dp,Cw,BG,Ci,AZ,Fm.osv,Fm.obs]
 case inr.inr.inr.inl =>
  rw [Ai (p:=x.op=3) (by omega),Au h1,cond_false,cond_true] at hN
  obtain ⟨p,e⟩:=Fm.Kr hf h1
  have hp:x.parts=[p]:=by rw [e]; rfl
  rw [hp,zA,zO] at hN
  have hg0:(x.parts.map Fm.d)[0]?=some (Fm.d p):=by rw [hp]; rfl
  rw [Fm.d_eq] at hg0
  have hi:=ih p (by rw [hp]; simp) (!b)
  unfold NnC at hi
  rw [hN]
  refine Aj Ei BG (of_decide_eq_true rfl) ?_
  simp (disch:=omega) only [DC,go_sem,Ab,hg0,hi,Bh,Dp,Cw,BG,Ci,AZ,Fm.osv,Fm.obs]
 case inr.inr.inr.inr.inr.inr.inl =>
  rw [Ai (p:=x.op=3) (by omega),Ai (p:=x.op=4) (by omega),Au h1,cond_false,cond_false,cond_true] at hN
  obtain ⟨p,q,e⟩:=Fm.Ge hf (by omega)
  have hp:x.parts=[p,q]:=by rw [e]; rfl
  rw [hp,zA,zO,zA,zA,zH,List.drop_succ_cons,zW,zO] at hN
  have hg0:(x.parts.map Fm.d)[0]?=some (Fm.d p):=by rw [hp]; rfl
  rw [Fm.d_eq] at hg0
  have hg1:(x.parts.map Fm.d)[1]?=some (Fm.d q):=by rw [hp]; rfl
  rw [Fm.d_eq] at hg1
  have hi:=ih p (by rw [hp]; simp) (!b)
  have hj:=ih q (by rw [hp]; simp) b
  unfold NnC at hi hj
  rw [hN]
  clear hmp hcp hnt
  cases b with
  | true =>
   have hb:=QY 6 (p.nnf false) (q.nnf true)
   rw [cond_true,z8,hp1,hp2]
   rw [z8] at hi
   generalize p.nnf false=y at *
   generalize q.nnf true=z at *
   refine Aj Ei BG (of_decide_eq_true rfl) ?_
   simp (disch:=omega) only [DC,go_sem,Ab,hg0,hg1,hi,hj,hb,Bh,Dp,Cw,BG,Ci,AZ,Fm.osv,Fm.obs]
  | false =>
   have hb:=QY 5 (p.nnf true) (q.nnf false)
   rw [cond_false,zX,hp1,hp2]
   rw [zX] at hi
   generalize p.nnf true=y at *
   generalize q.nnf false=z at *
   refine Aj Ei BG (of_decide_eq_true rfl) ?_
   simp (disch:=omega) only [DC,go_sem,Ab,hg0,hg1,hi,hj,hb,Bh,Dp,Cw,BG,Ci,AZ,Fm.osv,Fm.obs]
 all_goals
  rw [Ai (p:=x.op=3) (by omega),Ai (p:=x.op=4) (by omega),Ai (p:=x.op=7) (by omega),cond_false,cond_false,cond_false] at hN
  rw [hN,hk1,hk2]
  cases b with
  | true =>
   rw [cond_true]
   refine Aj Ei BG (of_decide_eq_true rfl) ?_
   simp (disch:=omega) only [DC,go_sem,Ab,hmp,Bh,Dp,Cw,BG,Ci,AZ,Fm.osv,Fm.obs]
  | false =>
   rw [cond_false]
   unfold CX
   refine Aj Ei BG (of_decide_eq_true rfl) ?_
   simp (disch:=omega) only [DC,go_sem,Ab,hmp,Bh,Dp,Cw,BG,Ci,AZ,Fm.osv,Fm.obs]
theorem XL (x:Fm) (hx:x.forms=true) (hsz:x.nodes≤40) (b:Bool):NnC b x :=
 YP x hx hsz b fun y hy b=>XL y (Fm.BE hx hy) (by have:=Fm.nodes_mem hy; have:=Fm.nodes_eq x; omega) b
termination_by SizeOf.sizeOf x
decreasing_by exact Fm.lt_of_mem hy
theorem Ix (x:Fm) (hta:x.tame) (hn:x.nodes≤1099511627776):E 6 [x.sv] []=some (.tup [(Ks x).osv,.bool (Im x)],(Ks x).obs):=by
 have h1:=Cr x hta hn
 have hz1:Fm.zero.osv=.agg [.int .i64 0,.str ⟨#[]⟩,.ref 0,.str ⟨#[]⟩,.ref 1]:=rfl
 have hz2:Fm.zero.obs=[.row 26 2 [],.row 29 5 []]:=rfl
 unfold Ks Im
 cases hv:x.valid with
 | false =>
  rw [hv] at h1
  rw [zU,cond_false,hz1,hz2]
  refine Aj CJ A6 (of_decide_eq_true rfl) ?_
  simp (disch:=omega) only [Co,go_sem,Ab,h1,AH,BG,Cb,Fm.osv,Fm.obs]
 | true =>
  rw [hv] at h1
  rw [zV]
  have hva:=hv
  unfold Fm.valid at hva
  rw [zB,decide_eq_true_eq] at hva
  obtain ⟨hva1,hva2⟩:=hva
  have hs:=XL x hva2 hva1 true
  obtain ⟨hp1,hp2⟩:=Fm.IN x hva2 true
  unfold NnC at hs
  generalize x.nnf true=y at *
  cases hq:y.valid with
  | true =>
   have hi:=Js y hp1 (by omega) hq
   rw [cond_true]
   refine Aj CJ A6 (of_decide_eq_true rfl) ?_
   simp (disch:=omega) only [Co,go_sem,Ab,h1,hs,hi,AH,BG,Cb,Fm.osv,Fm.obs]
  | false =>
   have hi:=K2 y hp1 (by omega) hq
   rw [cond_false,hz1,hz2]
   refine Aj CJ A6 (of_decide_eq_true rfl) ?_
   simp (disch:=omega) only [Co,go_sem,Ab,h1,hs,hi,AH,BG,Cb,Fm.osv,Fm.obs]
def K4:SC:=(.seq (.reg [⟨some 1,none,.boxv 29 5 (.t 0)⟩,⟨(some 2),none,(.alloc 29 [(.int .i64 0),(.str ⟨#[]⟩),.nil,(.str ⟨#[]⟩),.nil])⟩]) (.seq (.reg [⟨some 3,none,.load true 5 (.t 1)⟩,⟨(some 4),none,(.mkrow 29 5 [(.int .i64 0),(.str ⟨#[]⟩),.nil,(.str ⟨#[]⟩),.nil] 1 [(0,(.t 3))])⟩,⟨(some 5),none,(.build [(.int .i64 0),(.str ⟨#[]⟩),.nil,(.str ⟨#[]⟩),.nil] [(0,(1,(.c (.int .i64 4)))),(4,(1,(.t 4)))])⟩,⟨none,none,(.store 5 (.t 2) (.t 5))⟩]) .ret))
theorem PH:codeOf Tryz.prog 38=some ⟨6,K4,[(.cell 2 true 5)]⟩:=by kernel_rfl
theorem Ap:modes 38=⟨[],.frz,none,false⟩:=by unfold modes; rfl
def Ju:SC:=(.seq (.reg [⟨some 4,none,.boxv 29 5 (.t 1)⟩,⟨some 5,none,.boxv 29 5 (.t 2)⟩,⟨(some 6),none,(.alloc 29 [(.int .i64 0),(.str ⟨#[]⟩),.nil,(.str ⟨#[]⟩),.nil])⟩]) (.seq (.reg [⟨some 7,none,.mv (.t 0)⟩,⟨some 8,none,.load true 5 (.t 4)⟩,⟨some 9,none,.load true 5 (.t 5)⟩,⟨(some 10),none,(.mkrow 29 5 [(.int .i64 0),(.str ⟨#[]⟩),.nil,(.str ⟨#[]⟩),.nil] 2 [(0,(.t 8)),(1,(.t 9))])⟩,⟨(some 11),none,(.build [(.int .i64 0),(.str ⟨#[]⟩),.nil,(.str ⟨#[]⟩),.nil] [(0,(1,(.t 7))),(4,(1,(.t 10)))])⟩,⟨none,none,(.store 5 (.t 6) (.t 11))⟩]) .ret))
theorem NQ:codeOf Tryz.prog 39=some ⟨12,Ju,[(.cell 6 true 5)]⟩:=by kernel_rfl
theorem Am:modes 39=⟨[],.frz,none,false⟩:=by unfold modes; rfl
def Bj:SC:=(.seq (.reg [⟨some 2,none,.boxv 29 5 (.t 0)⟩,⟨(some 4),none,(.alloc 29 [(.int .i64 0),(.str ⟨#[]⟩),.nil,(.str ⟨#[]⟩),.nil])⟩]) (.seq (.seq (.reg [⟨some 7,none,.faddr 0 (.t 2)⟩,⟨some 8,none,.load false 1 (.t 7)⟩]) (.block 0 (.seq (.seq (.reg [⟨some 10,none,.bin .eql false (.t 8) (.c (.int .i64 1))⟩,⟨some 9,none,.mv (.t 10)⟩]) (.cond (.t 9) .skip (.reg [⟨some 11,none,.bin .eql false (.t 8) (.c (.int .i64 2))⟩,⟨some 9,none,.mv (.t 11)⟩]))) (.cond (.t 9) (.seq (.seq (.reg [⟨some 12,none,.faddr 0 (.t 2)⟩,⟨some 13,none,.load false 1 (.t 12)⟩,⟨some 14,none,.bin .eql false (.t 13) (.c (.int .i64 1))⟩,⟨some 15,none,.mv (.t 1)⟩,⟨some 16,none,.bin .eql true (.t 14) (.t 15)⟩]) (.cond (.t 16) (.seq (.reg [⟨(some 17),none,(.build [(.int .i64 0),(.str ⟨#[]⟩),.nil,(.str ⟨#[]⟩),.nil] [(0,(1,(.c (.int .i64 1))))])⟩,⟨none,none,(.store 5 (.t 4) (.t 17))⟩]) .ret) .skip)) (.seq (.reg [⟨(some 18),none,(.build [(.int .i64 0),(.str ⟨#[]⟩),.nil,(.str ⟨#[]⟩),.nil] [(0,(1,(.c (.int .i64 2))))])⟩,⟨none,none,(.store 5 (.t 4) (.t 18))⟩]) .ret)) (.seq (.reg [⟨some 20,none,.bin .eql false (.t 8) (.c (.int .i64 3))⟩,⟨some 19,none,.mv (.t 20)⟩]) (.cond (.t 19) (.seq (.seq (.reg [⟨some 21,none,.mv (.t 1)⟩]) (.cond (.t 21) (.seq (.reg [⟨some 22,none,.load true 5 (.t 2)⟩,⟨some 23,none,.call 37 [(.t 22)]⟩,⟨none,none,(.store 5 (.t 4) (.t 23))⟩]) .ret) .skip)) (.seq (.reg [⟨some 24,none,.load true 5 (.t 2)⟩,⟨some 25,none,.call 37 [(.t 24)]⟩,⟨some 26,none,.call 38 [(.t 25)]⟩,⟨none,none,(.store 5 (.t 4) (.t 26))⟩]) .ret)) (.seq (.reg [⟨some 28,none,.bin .eql false (.t 8) (.c (.int .i64 4))⟩,⟨some 27,none,.mv (.t 28)⟩]) (.cond (.t 27) (.seq (.reg [⟨some 29,none,.faddr 4 (.t 2)⟩,⟨some 30,none,.load false 1 (.t 29)⟩,⟨some 31,none,.iaddr 5 (.t 30) (.c (.int .i64 0))⟩,⟨some 32,none,.load true 5 (.t 31)⟩,⟨some 33,none,.mv (.t 1)⟩,⟨some 34,none,.un .not (.t 33)⟩,⟨some 35,none,.call 21 [(.t 32),(.t 34)]⟩,⟨none,none,(.store 5 (.t 4) (.t 35))⟩]) .ret) (.seq (.reg [⟨some 37,none,.bin .eql false (.t 8) (.c (.int .i64 7))⟩,⟨some 36,none,.mv (.t 37)⟩]) (.cond (.t 36) (.seq (.seq (.reg [⟨some 38,none,.mv (.t 1)⟩]) (.cond (.t 38) (.seq (.dreg [[],[0],[1,0],[2,1,0],[3,2,1,0],[],[5],[6,5],[7,6,5],[8,7,6,5,4,3,2,1,0],[4,3,2,1,0,9,8,7,6,5],[10,4,3,2,1,0,9,8,7,6,5]] [⟨some 39,none,.faddr 4 (.t 2)⟩,⟨some 40,none,.load false 1 (.t 39)⟩,⟨some 41,none,.iaddr 5 (.t 40) (.c (.int .i64 0))⟩,⟨some 42,none,.load true 5 (.t 41)⟩,⟨some 43,none,.call 21 [(.t 42),(.c (.bool false))]⟩,⟨some 44,none,.faddr 4 (.t 2)⟩,⟨some 45,none,.load false 1 (.t 44)⟩,⟨some 46,none,.iaddr 5 (.t 45) (.c (.int .i64 1))⟩,⟨some 47,none,.load true 5 (.t 46)⟩,⟨some 48,none,.call 21 [(.t 47),(.c (.bool true))]⟩,⟨some 49,none,.call 39 [(.c (.int .i64 6)),(.t 43),(.t 48)]⟩,⟨none,none,(.store 5 (.t 4) (.t 49))⟩]) .ret) .skip)) (.seq (.dreg [[],[0],[1,0],[2,1,0],[3,2,1,0],[],[5],[6,5],[7,6,5],[8,7,6,5,4,3,2,1,0],[4,3,2,1,0,9,8,7,6,5],[10,4,3,2,1,0,9,8,7,6,5]] [⟨some 50,none,.faddr 4 (.t 2)⟩,⟨some 51,none,.load false 1 (.t 50)⟩,⟨some 52,none,.iaddr 5 (.t 51) (.c (.int .i64 0))⟩,⟨some 53,none,.load true 5 (.t 52)⟩,⟨some 54,none,.call 21 [(.t 53),(.c (.bool true))]⟩,⟨some 55,none,.faddr 4 (.t 2)⟩,⟨some 56,none,.load false 1 (.t 55)⟩,⟨some 57,none,.iaddr 5 (.t 56) (.c (.int .i64 1))⟩,⟨some 58,none,.load true 5 (.t 57)⟩,⟨some 59,none,.call 21 [(.t 58),(.c (.bool false))]⟩,⟨some 60,none,.call 39 [(.c (.int .i64 5)),(.t 54),(.t 59)]⟩,⟨none,none,(.store 5 (.t 4) (.t 60))⟩]) .ret)) (.seq (.seq (.reg [⟨some 62,none,.bin .eql false (.t 8) (.c (.int .i64 5))⟩,⟨some 61,none,.mv (.t 62)⟩]) (.cond (.t 61) .skip (.reg [⟨some 63,none,.bin .eql false (.t 8) (.c (.int .i64 6))⟩,⟨some 61,none,.mv (.t 63)⟩]))) (.cond (.t 61) (.seq (.reg [⟨some 64,none,.faddr 0 (.t 2)⟩,⟨some 65,none,.load false 1 (.t 64)⟩,⟨some 5,none,.mv (.t 65)⟩]) (.seq (.seq (.reg [⟨some 66,none,.mv (.t 1)⟩,⟨some 67,none,.un .not (.t 66)⟩]) (.cond (.t 67) (.reg [⟨some 68,none,.faddr 0 (.t 2)⟩,⟨some 69,none,.load false 1 (.t 68)⟩,⟨some 70,none,.bin .sub false (.c (.int .i64 11)) (.t 69)⟩,⟨some 5,none,.mv (.t 70)⟩]) .skip)) (.seq (.dreg [[],[],[1],[2,1],[3,2,1],[],[4,3,2,1,5],[],[7],[8,7],[9,8,7],[],[10,9,8,7,11,6,4,3,2,1,5],[0,6,4,3,2,1,5,12,10,9,8,7,11],[13,0,6,4,3,2,1,5,12,10,9,8,7,11]] [⟨some 71,none,.mv (.t 5)⟩,⟨some 72,none,.faddr 4 (.t 2)⟩,⟨some 73,none,.load false 1 (.t 72)⟩,⟨some 74,none,.iaddr 5 (.t 73) (.c (.int .i64 0))⟩,⟨some 75,none,.load true 5 (.t 74)⟩,⟨some 76,none,.mv (.t 1)⟩,⟨some 77,none,.call 21 [(.t 75),(.t 76)]⟩,⟨some 78,none,.faddr 4 (.t 2)⟩,⟨some 79,none,.load false 1 (.t 78)⟩,⟨some 80,none,.iaddr 5 (.t 79) (.c (.int .i64 1))⟩,⟨some 81,none,.load true 5 (.t 80)⟩,⟨some 82,none,.mv (.t 1)⟩,⟨some 83,none,.call 21 [(.t 81),(.t 82)]⟩,⟨some 84,none,.call 39 [(.t 71),(.t 77),(.t 83)]⟩,⟨none,none,(.store 5 (.t 4) (.t 84))⟩]) .ret))) .skip)))))))))))) (.seq (.reg [⟨some 85,none,.faddr 0 (.t 2)⟩,⟨some 86,none,.load false 1 (.t 85)⟩,⟨some 6,none,.mv (.t 86)⟩]) (.seq (.seq (.reg [⟨some 87,none,.mv (.t 1)⟩,⟨some 88,none,.un .not (.t 87)⟩]) (.cond (.t 88) (.reg [⟨some 89,none,.faddr 0 (.t 2)⟩,⟨some 90,none,.load false 1 (.t 89)⟩,⟨some 91,none,.bin .sub false (.c (.int .i64 17)) (.t 90)⟩,⟨some 6,none,.mv (.t 91)⟩]) .skip)) (.seq (.dreg [[],[],[1],[],[3],[4,3],[5,4,3],[],[6,5,4,3,7],[8,6,5,4,3,7],[0,2,1,9,8,6,5,4,3,7],[10,0,2,1,9,8,6,5,4,3,7]] [⟨some 92,none,.mv (.t 6)⟩,⟨some 93,none,.faddr 3 (.t 2)⟩,⟨some 94,none,.load false 1 (.t 93)⟩,⟨some 95,none,.faddr 4 (.t 2)⟩,⟨some 96,none,.load false 1 (.t 95)⟩,⟨some 97,none,.iaddr 5 (.t 96) (.c (.int .i64 0))⟩,⟨some 98,none,.load true 5 (.t 97)⟩,⟨some 99,none,.mv (.t 1)⟩,⟨some 100,none,.call 21 [(.t 98),(.t 99)]⟩,⟨(some 101),none,(.mkrow 29 5 [(.int .i64 0),(.str ⟨#[]⟩),.nil,(.str ⟨#[]⟩),.nil] 1 [(0,(.t 100))])⟩,⟨(some 102),none,(.build [(.int .i64 0),(.str ⟨#[]⟩),.nil,(.str ⟨#[]⟩),.nil] [(0,(1,(.t 92))),(3,(1,(.t 94))),(4,(1,(.t 101)))])⟩,⟨none,none,(.store 5 (.t 4) (.t 102))⟩]) .ret)))))
theorem Bv:codeOf Tryz.prog 21=some ⟨103,Bj,[(.cell 4 true 5)]⟩:=by kernel_rfl
theorem Ak:modes 21=⟨[],.frz,none,false⟩:=by unfold modes; rfl
def Cp:SC:=(.seq (.reg [⟨some 1,none,.boxv 29 5 (.t 0)⟩,⟨(some 2),none,(.alloc 29 [(.int .i64 0),(.str ⟨#[]⟩),.nil,(.str ⟨#[]⟩),.nil])⟩,⟨some 3,none,.mv (.c (.bool false))⟩]) (.seq (.seq (.reg [⟨some 5,none,.load true 5 (.t 1)⟩,⟨some 6,none,.call 20 [(.t 5)]⟩,⟨some 7,none,.un .not (.t 6)⟩]) (.cond (.t 7) (.seq (.reg [⟨(some 8),none,(.build [(.int .i64 0),(.str ⟨#[]⟩),.nil,(.str ⟨#[]⟩),.nil] [])⟩,⟨none,none,(.store 5 (.t 2) (.t 8))⟩,⟨some 3,none,.mv (.c (.bool false))⟩]) .ret) .skip)) (.seq (.reg [⟨some 9,none,.load true 5 (.t 1)⟩,⟨some 10,none,.call 21 [(.t 9),(.c (.bool true))]⟩,⟨(some 4),none,(.alloc 29 [(.int .i64 0),(.str ⟨#[]⟩),.nil,(.str ⟨#[]⟩),.nil])⟩,⟨none,none,(.store 5 (.t 4) (.t 10))⟩]) (.seq (.seq (.reg [⟨some 11,none,.load true 5 (.t 4)⟩,⟨some 12,none,.call 20 [(.t 11)]⟩,⟨some 13,none,.un .not (.t 12)⟩]) (.cond (.t 13) (.seq (.reg [⟨(some 14),none,(.build [(.int .i64 0),(.str ⟨#[]⟩),.nil,(.str ⟨#[]⟩),.nil] [])⟩,⟨none,none,(.store 5 (.t 2) (.t 14))⟩,⟨some 3,none,.mv (.c (.bool false))⟩]) .ret) .skip)) (.seq (.reg [⟨some 15,none,.load true 5 (.t 4)⟩,⟨none,none,(.store 5 (.t 2) (.t 15))⟩,⟨some 3,none,.mv (.c (.bool true))⟩]) .ret)))))
theorem CK:codeOf Tryz.prog 8=some ⟨16,Cp,[(.cell 2 true 5),(.tmp 3)]⟩:=by kernel_rfl
theorem A7:modes 8=⟨[],.frz,none,false⟩:=by unfold modes; rfl
theorem X7 (y:Fm):E 38 [y.sv] []=some ((Fm.QH y).sv,[]):=by
 have ho:=Fm.d_eq y
 have h1:(Fm.QH y).sv=.agg [.int .i64 4,.str ⟨#[]⟩,.arr [],.str ⟨#[]⟩,.arr [Fm.d y]]:=rfl
 rw [h1,ho]
 refine Aj PH Ap (of_decide_eq_true rfl) ?_
 simp (disch:=omega) only [K4,go_sem,Ab]
theorem K5 (op:Int) (y z:Fm):E 39 [.int .i64 op,y.sv,z.sv] []=some ((Fm.Il op y z).sv,[]):=by
 have ho:=Fm.d_eq y
 have ho2:=Fm.d_eq z
 have h1:(Fm.Il op y z).sv=.agg [.int .i64 op,.str ⟨#[]⟩,.arr [],.str ⟨#[]⟩,.arr [Fm.d y,Fm.d z]]:=rfl
 rw [h1,ho,ho2]
 refine Aj NQ Am (of_decide_eq_true rfl) ?_
 simp (disch:=omega) only [Ju,go_sem,Ab]
abbrev SnC (b:Bool) (x:Fm):Prop:=E 21 [x.sv,.bool b] []=some ((x.nnf b).sv,[])
theorem VU (x:Fm) (hx:x.forms=true) (hsz:x.nodes≤40) (b:Bool) (ih:∀ y∈x.parts,∀ b,SnC b y):SnC b x:=by
 have hf:=Fm.B8 hx
 have hta:=Fm.H4 x hx
 have hcp:=SU x hta (by omega)
 have hnt:=X7 x
 have hN:=Fm.Nj x b
 unfold Fm.RS at hN
 unfold SnC
 have hs3:∀ (h:x.op=3),Fm.mk x.op x.atom x.var x.parts=x:=fun _=>by obtain ⟨_,_,_,_⟩:=x; rfl
 rcases Fm.Nk hf with h1 | h1 | h1 | h1 | h1 | h1 | h1 | h1 | h1
 case inr.inr.inl =>
  rw [Au h1,hs3 h1,cond_true] at hN
  rw [hN]
  cases b with
  | true =>
   rw [cond_true]
   refine Aj Bv Ak (of_decide_eq_true rfl) ?_
   simp (disch:=omega) only [Bj,go_sem,hcp,hnt,Ao,Ap,Am,Ak]
   repeat ((first | (refine A2 ?_ ?_; (focus (simp (disch:=omega) only [go_sem,hcp,hnt,Ao,Ap,Am,Ak]; done))) | (refine A3 ?_ ?_; (focus (simp (disch:=omega) only [go_sem,hcp,hnt,Ao,Ap,Am,Ak]; done)))); (try simp (disch:=omega) only [go_sem,hcp,hnt,Ao,Ap,Am,Ak]))
  | false =>
   rw [cond_false]
   refine Aj Bv Ak (of_decide_eq_true rfl) ?_
   simp (disch:=omega) only [Bj,go_sem,hcp,hnt,Ao,Ap,Am,Ak]
   repeat ((first | (refine A2 ?_ ?_; (focus (simp (disch:=omega) only [go_sem,hcp,hnt,Ao,Ap,Am,Ak]; done))) | (refine A3 ?_ ?_; (focus (simp (disch:=omega) only [go_sem,hcp,hnt,Ao,Ap,Am,Ak]; done)))); (try simp (disch:=omega) only [go_sem,hcp,hnt,Ao,Ap,Am,Ak]))
 case inr.inr.inr.inl =>
  rw [Ai (p:=x.op=3) (by omega),Au h1,cond_false,cond_true] at hN
  obtain ⟨p,e⟩:=Fm.Kr hf h1
  have hp:x.parts=[p]:=by rw [e]; rfl
  rw [hp,zA,zO] at hN
  have hg0:(x.parts.map Fm.d)[0]?=some (Fm.d p):=by rw [hp]; rfl
  rw [Fm.d_eq] at hg0
  have hi:=ih p (by rw [hp]; simp) (!b)
  unfold SnC at hi
  rw [hN]
  refine Aj Bv Ak (of_decide_eq_true rfl) ?_
  simp (disch:=omega) only [Bj,go_sem,hg0,hi,Ao,Ap,Am,Ak]
  repeat ((first | (refine A2 ?_ ?_; (focus (simp (disch:=omega) only [go_sem,hg0,hi,Ao,Ap,Am,Ak]; done))) | (refine A3 ?_ ?_; (focus (simp (disch:=omega) only [go_sem,hg0,hi,Ao,Ap,Am,Ak]; done)))); (try simp (disch:=omega) only [go_sem,hg0,hi,Ao,Ap,Am,Ak]))
 case inr.inr.inr.inr.inr.inr.inl =>
  rw [Ai (p:=x.op=3) (by omega),Ai (p:=x.op=4) (by omega),Au h1,cond_false,cond_false,cond_true] at hN
  obtain ⟨p,q,e⟩:=Fm.Ge hf (by omega)
  have hp:x.parts=[p,q]:=by rw [e]; rfl
  rw [hp,zA,zO,zA,zA,zH,List.drop_succ_cons,zW,zO] at hN
  have hg0:(x.parts.map Fm.d)[0]?=some (Fm.d p):=by rw [hp]; rfl
  rw [Fm.d_eq] at hg0
  have hg1:(x.parts.map Fm.d)[1]?=some (Fm.d q):=by rw [hp]; rfl
  rw [Fm.d_eq] at hg1
  have hi:=ih p (by rw [hp]; simp) (!b)
  have hj:=ih q (by rw [hp]; simp) b
  unfold SnC at hi hj
  rw [hN]
  clear hcp hnt
  cases b with
  | true =>
   have hb:=K5 6 (p.nnf false) (q.nnf true)
   rw [cond_true,z8]
   rw [z8] at hi
   generalize p.nnf false=y at *
   generalize q.nnf true=z at *
   refine Aj Bv Ak (of_decide_eq_true rfl) ?_
   simp (disch:=omega) only [Bj,go_sem,hg0,hg1,hi,hj,hb,Ao,Ap,Am,Ak]
   repeat ((first | (refine A2 ?_ ?_; (focus (simp (disch:=omega) only [go_sem,hg0,hg1,hi,hj,hb,Ao,Ap,Am,Ak]; done))) | (refine A3 ?_ ?_; (focus (simp (disch:=omega) only [go_sem,hg0,hg1,hi,hj,hb,Ao,Ap,Am,Ak]; done)))); (try simp (disch:=omega) only [go_sem,hg0,hg1,hi,hj,hb,Ao,Ap,Am,Ak]))
  | false =>
   have hb:=K5 5 (p.nnf true) (q.nnf false)
   rw [cond_false,zX]
   rw [zX] at hi
   generalize p.nnf true=y at *
   generalize q.nnf false=z at *
   refine Aj Bv Ak (of_decide_eq_true rfl) ?_
   simp (disch:=omega) only [Bj,go_sem,hg0,hg1,hi,hj,hb,Ao,Ap,Am,Ak]
   repeat ((first | (refine A2 ?_ ?_; (focus (simp (disch:=omega) only [go_sem,hg0,hg1,hi,hj,hb,Ao,Ap,Am,Ak]; done))) | (refine A3 ?_ ?_; (focus (simp (disch:=omega) only [go_sem,hg0,hg1,hi,hj,hb,Ao,Ap,Am,Ak]; done)))); (try simp (disch:=omega) only [go_sem,hg0,hg1,hi,hj,hb,Ao,Ap,Am,Ak]))
 case inl =>
  rw [Ai (p:=x.op=3) (by omega),Ai (p:=x.op=4) (by omega),Ai (p:=x.op=7) (by omega),cond_false,cond_false,cond_false] at hN
  have e:=Fm.El hf (.inl h1)
  have hp:x.parts=[]:=by rw [e]; rfl
  have ha:x.atom=Tm.zero:=by rw [e]; rfl
  have hv:x.var=⟨#[]⟩:=by rw [e]; rfl
  rw [hp,ha,hv,zH] at hN
  rw [hN]
  have hb1:(true == false)=false:=rfl
  have hb2:(false == true)=false:=rfl
  have hz:∀ k:Int,(Fm.mk k Tm.zero ⟨#[]⟩ []).sv=.agg [.int .i64 k,.str ⟨#[]⟩,.arr [],.str ⟨#[]⟩,.arr []]:=fun _=>rfl
  cases b with
  | true =>
   rw [cond_true,hz,h1]
   refine Aj Bv Ak (of_decide_eq_true rfl) ?_
   simp (disch:=omega) only [Bj,go_sem,hb1,hb2,Ao,Ap,Am,Ak]
   repeat ((first | (refine A2 ?_ ?_; (focus (simp (disch:=omega) only [go_sem,hb1,hb2,Ao,Ap,Am,Ak]; done))) | (refine A3 ?_ ?_; (focus (simp (disch:=omega) only [go_sem,hb1,hb2,Ao,Ap,Am,Ak]; done)))); (try simp (disch:=omega) only [go_sem,hb1,hb2,Ao,Ap,Am,Ak]))
  | false =>
   rw [cond_false,CX,Au h1,cond_true,hz]
   refine Aj Bv Ak (of_decide_eq_true rfl) ?_
   simp (disch:=omega) only [Bj,go_sem,hb1,hb2,Ao,Ap,Am,Ak]
   repeat ((first | (refine A2 ?_ ?_; (focus (simp (disch:=omega) only [go_sem,hb1,hb2,Ao,Ap,Am,Ak]; done))) | (refine A3 ?_ ?_; (focus (simp (disch:=omega) only [go_sem,hb1,hb2,Ao,Ap,Am,Ak]; done)))); (try simp (disch:=omega) only [go_sem,hb1,hb2,Ao,Ap,Am,Ak]))
 case inr.inl =>
  rw [Ai (p:=x.op=3) (by omega),Ai (p:=x.op=4) (by omega),Ai (p:=x.op=7) (by omega),cond_false,cond_false,cond_false] at hN
  have e:=Fm.El hf (.inr h1)
  have hp:x.parts=[]:=by rw [e]; rfl
  have ha:x.atom=Tm.zero:=by rw [e]; rfl
  have hv:x.var=⟨#[]⟩:=by rw [e]; rfl
  rw [hp,ha,hv,zH] at hN
  rw [hN]
  have hb1:(true == false)=false:=rfl
  have hb2:(false == true)=false:=rfl
  have hz:∀ k:Int,(Fm.mk k Tm.zero ⟨#[]⟩ []).sv=.agg [.int .i64 k,.str ⟨#[]⟩,.arr [],.str ⟨#[]⟩,.arr []]:=fun _=>rfl
  cases b with
  | true =>
   rw [cond_true,hz,h1]
   refine Aj Bv Ak (of_decide_eq_true rfl) ?_
   simp (disch:=omega) only [Bj,go_sem,hb1,hb2,Ao,Ap,Am,Ak]
   repeat ((first | (refine A2 ?_ ?_; (focus (simp (disch:=omega) only [go_sem,hb1,hb2,Ao,Ap,Am,Ak]; done))) | (refine A3 ?_ ?_; (focus (simp (disch:=omega) only [go_sem,hb1,hb2,Ao,Ap,Am,Ak]; done)))); (try simp (disch:=omega) only [go_sem,hb1,hb2,Ao,Ap,Am,Ak]))
  | false =>
   rw [cond_false,CX,Ai (p:=x.op=1) (by omega),Au h1,cond_true,cond_false,hz]
   refine Aj Bv Ak (of_decide_eq_true rfl) ?_
   simp (disch:=omega) only [Bj,go_sem,hb1,hb2,Ao,Ap,Am,Ak]
   repeat ((first | (refine A2 ?_ ?_; (focus (simp (disch:=omega) only [go_sem,hb1,hb2,Ao,Ap,Am,Ak]; done))) | (refine A3 ?_ ?_; (focus (simp (disch:=omega) only [go_sem,hb1,hb2,Ao,Ap,Am,Ak]; done)))); (try simp (disch:=omega) only [go_sem,hb1,hb2,Ao,Ap,Am,Ak]))
 case inr.inr.inr.inr.inl =>
  rw [Ai (p:=x.op=3) (by omega),Ai (p:=x.op=4) (by omega),Ai (p:=x.op=7) (by omega),cond_false,cond_false,cond_false] at hN
  obtain ⟨p,q,e⟩:=Fm.Ge hf (by omega)
  have hp:x.parts=[p,q]:=by rw [e]; rfl
  have ha:x.atom=Tm.zero:=by rw [e]; rfl
  have hv:x.var=⟨#[]⟩:=by rw [e]; rfl
  have hg0:(x.parts.map Fm.d)[0]?=some (Fm.d p):=by rw [hp]; rfl
  rw [Fm.d_eq] at hg0
  have hg1:(x.parts.map Fm.d)[1]?=some (Fm.d q):=by rw [hp]; rfl
  rw [Fm.d_eq] at hg1
  have hi:=ih p (by rw [hp]; simp) b
  have hj:=ih q (by rw [hp]; simp) b
  unfold SnC at hi hj
  have hT:(bif b then x.op else CX x.op)=bif b then x.op else 11-x.op:=by
   unfold CX
   cases b
   ·rw [Ai (p:=x.op=1) (by omega),Ai (p:=x.op=2) (by omega),Au h1]; simp only [cond_true,cond_false]; omega
   ·rfl
  rw [hT,hp,ha,hv,zA,zA,zH] at hN
  have hN:x.nnf b=Fm.Il (bif b then x.op else 11-x.op) (p.nnf b) (q.nnf b):=hN
  rw [hN]
  clear hcp hnt
  have hb:=K5 (bif b then x.op else 11-x.op) (p.nnf b) (q.nnf b)
  generalize p.nnf b=y at *
  generalize q.nnf b=z at *
  cases b with
  | true =>
   simp only [cond_true] at hb ⊢
   refine Aj Bv Ak (of_decide_eq_true rfl) ?_
   simp (disch:=omega) only [Bj,go_sem,hg0,hg1,hi,hj,hb,Ao,Ap,Am,Ak]
   repeat ((first | (refine A2 ?_ ?_; (focus (simp (disch:=omega) only [go_sem,hg0,hg1,hi,hj,hb,Ao,Ap,Am,Ak]; done))) | (refine A3 ?_ ?_; (focus (simp (disch:=omega) only [go_sem,hg0,hg1,hi,hj,hb,Ao,Ap,Am,Ak]; done)))); (try simp (disch:=omega) only [go_sem,hg0,hg1,hi,hj,hb,Ao,Ap,Am,Ak]))
  | false =>
   simp only [cond_false] at hb ⊢
   refine Aj Bv Ak (of_decide_eq_true rfl) ?_
   simp (disch:=omega) only [Bj,go_sem,hg0,hg1,hi,hj,hb,Ao,Ap,Am,Ak]
   repeat ((first | (refine A2 ?_ ?_; (focus (simp (disch:=omega) only [go_sem,hg0,hg1,hi,hj,hb,Ao,Ap,Am,Ak]; done))) | (refine A3 ?_ ?_; (focus (simp (disch:=omega) only [go_sem,hg0,hg1,hi,hj,hb,Ao,Ap,Am,Ak]; done)))); (try simp (disch:=omega) only [go_sem,hg0,hg1,hi,hj,hb,Ao,Ap,Am,Ak]))
 case inr.inr.inr.inr.inr.inl =>
  rw [Ai (p:=x.op=3) (by omega),Ai (p:=x.op=4) (by omega),Ai (p:=x.op=7) (by omega),cond_false,cond_false,cond_false] at hN
  obtain ⟨p,q,e⟩:=Fm.Ge hf (by omega)
  have hp:x.parts=[p,q]:=by rw [e]; rfl
  have ha:x.atom=Tm.zero:=by rw [e]; rfl
  have hv:x.var=⟨#[]⟩:=by rw [e]; rfl
  have hg0:(x.parts.map Fm.d)[0]?=some (Fm.d p):=by rw [hp]; rfl
  rw [Fm.d_eq] at hg0
  have hg1:(x.parts.map Fm.d)[1]?=some (Fm.d q):=by rw [hp]; rfl
  rw [Fm.d_eq] at hg1
  have hi:=ih p (by rw [hp]; simp) b
  have hj:=ih q (by rw [hp]; simp) b
  unfold SnC at hi hj
  have hT:(bif b then x.op else CX x.op)=bif b then x.op else 11-x.op:=by
   unfold CX
   cases b
   ·rw [Ai (p:=x.op=1) (by omega),Ai (p:=x.op=2) (by omega),Ai (p:=x.op=5) (by omega),Au h1]; simp only [cond_true,cond_false]; omega
   ·rfl
  rw [hT,hp,ha,hv,zA,zA,zH] at hN
  have hN:x.nnf b=Fm.Il (bif b then x.op else 11-x.op) (p.nnf b) (q.nnf b):=hN
  rw [hN]
  clear hcp hnt
  have hb:=K5 (bif b then x.op else 11-x.op) (p.nnf b) (q.nnf b)
  generalize p.nnf b=y at *
  generalize q.nnf b=z at *
  cases b with
  | true =>
   simp only [cond_true] at hb ⊢
   refine Aj Bv Ak (of_decide_eq_true rfl) ?_
   simp (disch:=omega) only [Bj,go_sem,hg0,hg1,hi,hj,hb,Ao,Ap,Am,Ak]
   repeat ((first | (refine A2 ?_ ?_; (focus (simp (disch:=omega) only [go_sem,hg0,hg1,hi,hj,hb,Ao,Ap,Am,Ak]; done))) | (refine A3 ?_ ?_; (focus (simp (disch:=omega) only [go_sem,hg0,hg1,hi,hj,hb,Ao,Ap,Am,Ak]; done)))); (try simp (disch:=omega) only [go_sem,hg0,hg1,hi,hj,hb,Ao,Ap,Am,Ak]))
  | false =>
   simp only [cond_false] at hb ⊢
   refine Aj Bv Ak (of_decide_eq_true rfl) ?_
   simp (disch:=omega) only [Bj,go_sem,hg0,hg1,hi,hj,hb,Ao,Ap,Am,Ak]
   repeat ((first | (refine A2 ?_ ?_; (focus (simp (disch:=omega) only [go_sem,hg0,hg1,hi,hj,hb,Ao,Ap,Am,Ak]; done))) | (refine A3 ?_ ?_; (focus (simp (disch:=omega) only [go_sem,hg0,hg1,hi,hj,hb,Ao,Ap,Am,Ak]; done)))); (try simp (disch:=omega) only [go_sem,hg0,hg1,hi,hj,hb,Ao,Ap,Am,Ak]))
 case inr.inr.inr.inr.inr.inr.inr.inl =>
  rw [Ai (p:=x.op=3) (by omega),Ai (p:=x.op=4) (by omega),Ai (p:=x.op=7) (by omega),cond_false,cond_false,cond_false] at hN
  obtain ⟨p,e⟩:=Fm.RT hf (by omega)
  have hp:x.parts=[p]:=by rw [e]; rfl
  have ha:x.atom=Tm.zero:=by rw [e]; rfl
  have hg0:(x.parts.map Fm.d)[0]?=some (Fm.d p):=by rw [hp]; rfl
  rw [Fm.d_eq] at hg0
  have hi:=ih p (by rw [hp]; simp) b
  unfold SnC at hi
  have hT:(bif b then x.op else CX x.op)=bif b then x.op else 17-x.op:=by
   unfold CX
   cases b
   ·rw [Ai (p:=x.op=1) (by omega),Ai (p:=x.op=2) (by omega),Ai (p:=x.op=5) (by omega),Ai (p:=x.op=6) (by omega),Au h1]; simp only [cond_true,cond_false]; omega
   ·rfl
  rw [hT,hp,ha,zA,zH] at hN
  rw [hN]
  clear hcp hnt
  generalize p.nnf b=y at *
  have ho:=Fm.d_eq y
  have hb1:(true == false)=false:=rfl
  have hb2:(false == true)=false:=rfl
  have hz:∀ k:Int,(Fm.mk k Tm.zero x.var [y]).sv=.agg [.int .i64 k,.str ⟨#[]⟩,.arr [],.str x.var,.arr [Fm.d y]]:=fun _=>rfl
  cases b with
  | true =>
   rw [cond_true,hz,ho]
   refine Aj Bv Ak (of_decide_eq_true rfl) ?_
   simp (disch:=omega) only [Bj,go_sem,hg0,hi,Ao,Ap,Am,Ak]
   repeat ((first | (refine A2 ?_ ?_; (focus (simp (disch:=omega) only [go_sem,hg0,hi,Ao,Ap,Am,Ak]; done))) | (refine A3 ?_ ?_; (focus (simp (disch:=omega) only [go_sem,hg0,hi,Ao,Ap,Am,Ak]; done)))); (try simp (disch:=omega) only [go_sem,hg0,hi,Ao,Ap,Am,Ak]))
  | false =>
   rw [cond_false,hz,ho]
   refine Aj Bv Ak (of_decide_eq_true rfl) ?_
   simp (disch:=omega) only [Bj,go_sem,hg0,hi,Ao,Ap,Am,Ak]
   repeat ((first | (refine A2 ?_ ?_; (focus (simp (disch:=omega) only [go_sem,hg0,hi,Ao,Ap,Am,Ak]; done))) | (refine A3 ?_ ?_; (focus (simp (disch:=omega) only [go_sem,hg0,hi,Ao,Ap,Am,Ak]; done)))); (try simp (disch:=omega) only [go_sem,hg0,hi,Ao,Ap,Am,Ak]))
 case inr.inr.inr.inr.inr.inr.inr.inr =>
  rw [Ai (p:=x.op=3) (by omega),Ai (p:=x.op=4) (by omega),Ai (p:=x.op=7) (by omega),cond_false,cond_false,cond_false] at hN
  obtain ⟨p,e⟩:=Fm.RT hf (by omega)
  have hp:x.parts=[p]:=by rw [e]; rfl
  have ha:x.atom=Tm.zero:=by rw [e]; rfl
  have hg0:(x.parts.map Fm.d)[0]?=some (Fm.d p):=by rw [hp]; rfl
  rw [Fm.d_eq] at hg0
  have hi:=ih p (by rw [hp]; simp) b
  unfold SnC at hi
  have hT:(bif b then x.op else CX x.op)=bif b then x.op else 17-x.op:=by
   unfold CX
   cases b
   ·rw [Ai (p:=x.op=1) (by omega),Ai (p:=x.op=2) (by omega),Ai (p:=x.op=5) (by omega),Ai (p:=x.op=6) (by omega),Ai (p:=x.op=8) (by omega),Au h1]; simp only [cond_true,cond_false]; omega
   ·rfl
  rw [hT,hp,ha,zA,zH] at hN
  rw [hN]
  clear hcp hnt
  generalize p.nnf b=y at *
  have ho:=Fm.d_eq y
  have hb1:(true == false)=false:=rfl
  have hb2:(false == true)=false:=rfl
  have hz:∀ k:Int,(Fm.mk k Tm.zero x.var [y]).sv=.agg [.int .i64 k,.str ⟨#[]⟩,.arr [],.str x.var,.arr [Fm.d y]]:=fun _=>rfl
  cases b with
  | true =>
   rw [cond_true,hz,ho]
   refine Aj Bv Ak (of_decide_eq_true rfl) ?_
   simp (disch:=omega) only [Bj,go_sem,hg0,hi,Ao,Ap,Am,Ak]
   repeat ((first | (refine A2 ?_ ?_; (focus (simp (disch:=omega) only [go_sem,hg0,hi,Ao,Ap,Am,Ak]; done))) | (refine A3 ?_ ?_; (focus (simp (disch:=omega) only [go_sem,hg0,hi,Ao,Ap,Am,Ak]; done)))); (try simp (disch:=omega) only [go_sem,hg0,hi,Ao,Ap,Am,Ak]))
  | false =>
   rw [cond_false,hz,ho]
   refine Aj Bv Ak (of_decide_eq_true rfl) ?_
   simp (disch:=omega) only [Bj,go_sem,hg0,hi,Ao,Ap,Am,Ak]
   repeat ((first | (refine A2 ?_ ?_; (focus (simp (disch:=omega) only [go_sem,hg0,hi,Ao,Ap,Am,Ak]; done))) | (refine A3 ?_ ?_; (focus (simp (disch:=omega) only [go_sem,hg0,hi,Ao,Ap,Am,Ak]; done)))); (try simp (disch:=omega) only [go_sem,hg0,hi,Ao,Ap,Am,Ak]))
theorem Tg (x:Fm) (hx:x.forms=true) (hsz:x.nodes≤40) (b:Bool):SnC b x :=
 VU x hx hsz b fun y hy b=>Tg y (Fm.BE hx hy) (by have:=Fm.nodes_mem hy; have:=Fm.nodes_eq x; omega) b
termination_by SizeOf.sizeOf x
decreasing_by exact Fm.lt_of_mem hy
theorem HC (x:Fm) (hta:x.tame) (hn:x.nodes≤1099511627776):E 8 [x.sv] []=some (.tup [(Ks x).sv,.bool (Im x)],[]):=by
 have h1:=Nt x hta hn
 have hz1:Fm.zero.sv=.agg [.int .i64 0,.str ⟨#[]⟩,.arr [],.str ⟨#[]⟩,.arr []]:=rfl
 unfold Ks Im
 cases hv:x.valid with
 | false =>
  rw [hv] at h1
  rw [zU,cond_false,hz1]
  refine Aj CK A7 (of_decide_eq_true rfl) ?_
  simp (disch:=omega) only [Cp,go_sem,Ab,h1,Dz,Ak]
 | true =>
  rw [hv] at h1
  rw [zV]
  have hva:=hv
  unfold Fm.valid at hva
  rw [zB,decide_eq_true_eq] at hva
  obtain ⟨hva1,hva2⟩:=hva
  have hs:=Tg x hva2 hva1 true
  obtain ⟨hp1,hp2⟩:=Fm.IN x hva2 true
  unfold SnC at hs
  generalize x.nnf true=y at *
  have h2:=Nt y hp1 (by omega)
  cases hq:y.valid with
  | true =>
   rw [hq] at h2
   rw [cond_true]
   refine Aj CK A7 (of_decide_eq_true rfl) ?_
   simp (disch:=omega) only [Cp,go_sem,Ab,h1,hs,h2,Dz,Ak]
  | false =>
   rw [hq] at h2
   rw [cond_false,hz1]
   refine Aj CK A7 (of_decide_eq_true rfl) ?_
   simp (disch:=omega) only [Cp,go_sem,Ab,h1,hs,h2,Dz,Ak]
abbrev iD (n:Int):List D:=[D.int n]
abbrev iO (n:Int):List OT:=[OT.int n]
theorem N3:∀ p:List Int,OT.erss (p.map iO)=p.map iD
 | []=>rfl
 | x :: p=>by simp only [zA,OT.erss,OT.ers,OT.er,N3 p]
theorem HD:∀ p:List Int,OT.AS (p.map iO)=true
 | []=>rfl
 | x :: p=>by simp only [zA,OT.AS,OT.DI,OT.full,HD p,Bool.and_self]
theorem OZ (p:List Int):(p.map iD).map (·.map D.ot)=p.map iO:=by rw [zQ]; rfl
theorem Le (p:List Int):((p.map iO).all fun e=>e.length == 1)=true:=by rw [zM,zI]; intro x _; rfl
theorem Lf (p:List Int):((p.map iD).all fun e=>e.length == 1)=true:=by rw [zM,zI]; intro x _; rfl
theorem E5 {a b:Int} (h:0≤a) (k:0<b):0≤a.tmod b∧a.tmod b<b:=⟨Int.tmod_nonneg b h,Int.tmod_lt_of_pos a k⟩
theorem VV {a:Int} (h:0≤a):0≤a.tdiv 3∧a.tdiv 3≤a:=by
 rw [Int.tdiv_eq_ediv_of_nonneg h]; omega
theorem N4 (s:ByteArray) (k:Nat):0≤DN s k∧DN s k≤255:=by
 unfold DN
 have:=((s[k]?).getD 0).toNat_lt
 omega
theorem K6 (s:ByteArray):∀ k,0≤ER s k∧ER s k<65521
 | 0=>by rw [ER]; omega
 | k+1=>by
  have:=K6 s k
  have hb:=N4 s k
  rw [ER]
  exact E5 (by omega) (by omega)
theorem VW {vs:List Int} (hv:∀ v∈vs,0≤v∧v≤65535) (k:Nat):0≤vs.getD k 0∧vs.getD k 0≤65535:=by
 rw [zJ]
 cases h:vs[k]? with
 | none=>exact ⟨by simp,by simp⟩
 | some v=>exact hv v (List.mem_of_getElem? h)
theorem N5 {h:Int} {vs:List Int} (hh:0≤h∧h<65521) (hv:∀ v∈vs,0≤v∧v≤65535):∀ k,0≤Hj h vs k∧Hj h vs k<65521
 | 0=>hh
 | k+1=>by
  have:=N5 hh hv k
  have hb:=VW hv k
  rw [Hj]
  exact E5 (by omega) (by omega)
theorem DX {l:List Int} (hl:Bytes l) {i:Int} (h:0≤i):0≤C4 l i∧C4 l i≤255:=by
 unfold C4
 by_cases hc:i<l.length
 ·rw [if_pos hc,zJ,zD (by omega)]
  exact hl _ (zF _)
 ·rw [if_neg hc]
  have:=E5 (show 0≤i*7+(l.length:Int) by omega) (show (0:Int)<256 by omega)
  omega
theorem VX {l:List Int} (hl:Bytes l) (nm:ByteArray) {vs:List Int} (hv:∀ v∈vs,0≤v∧v≤65535):0≤P1 l nm vs∧P1 l nm vs≤100000:=by
 have h1:=N5 (K6 nm nm.size) hv vs.length
 unfold P1
 generalize Hj (ER nm nm.size) vs vs.length=h at *
 have a1:=E5 h1.1 (show (0:Int)<53 by omega)
 have a2:=E5 h1.1 (show (0:Int)<89 by omega)
 have b1:=DX hl a1.1
 have b2:=DX hl a2.1
 have c:=VV (show 0≤h+13*C4 l (h.tmod 53)+C4 l (h.tmod 89) by omega)
 omega
abbrev Ev:=List (ByteArray × Int)
noncomputable def C8 (e:Ev):ByteArray→Int:=e.foldl (fun E p=>upE E p.1 p.2) fun _=>0
theorem Lg (e:Ev) (n:ByteArray) (v:Int):C8 (e++[(n,v)])=upE (C8 e) n v:=by unfold C8; rw [List.foldl_append]; rfl
theorem YQ (e:Ev) (p:ByteArray × Int):C8 (e++[p])=upE (C8 e) p.1 p.2:=Lg e p.1 p.2
def EnvOk (e:Ev):Prop:=∀ p∈e,0≤p.2∧p.2≤65535
theorem QZ:∀ (e:Ev),EnvOk e→∀ m,0≤C8 e m∧C8 e m≤65535:=by
 intro e h
 have key:∀ (e:Ev) (E:ByteArray→Int),EnvOk e→(∀ m,0≤E m∧E m≤65535)→∀ m,0≤(e.foldl (fun E p=>upE E p.1 p.2) E) m∧(e.foldl (fun E p=>upE E p.1 p.2) E) m≤65535:=by
  intro e
  induction e with
  | nil=>intro E _ h; exact h
  | cons p e ih =>
   intro E he h
   refine ih _ (fun q hq=>he q (by simp [hq])) fun m=>?_
   show 0≤upE E p.1 p.2 m∧upE E p.1 p.2 m≤65535
   unfold upE
   cases dec (m=p.1) with
   | true=>exact he p (by simp)
   | false=>exact h m
 exact key e _ h fun _=>by omega
theorem EnvOk.snoc {e:Ev} (h:EnvOk e) {n:ByteArray} {v:Int} (h0:0≤v) (h1:v≤65535):EnvOk (e++[(n,v)]):=by
 intro p hp
 rcases List.mem_append.1 hp with hp | hp
 ·exact h p hp
 ·simp only [List.mem_singleton] at hp
  subst hp
  exact ⟨h0,h1⟩
theorem Tm.PI {l:List Int} (hl:Bytes l) {n:Int} (hn:1≤n∧n≤65535) {E:ByteArray→Int} (hE:∀ m,0≤E m∧E m≤65535) (x:Tm):0≤x.val l n E∧x.val l n E≤65535:=by
 have ih:∀ y∈x.args,0≤y.val l n E∧y.val l n E≤65535:=fun y hy=>Tm.PI hl hn hE y
 rw [Tm.Ng]
 cases Bz x.name with
 | true=>exact hE _
 | false =>
  have h:=VX hl x.name (vs:=x.args.map (Tm.val l n E)) fun v hv=>by
   obtain ⟨y,hy,rfl⟩:=yB.1 hv
   exact ih y hy
  have:=E5 h.1 (show 0<n by omega)
  rw [cond_false]
  omega
termination_by SizeOf.sizeOf x
decreasing_by exact Tm.lt_of_mem hy
abbrev nmD (p:ByteArray × Int):List D:=[D.str p.1]
abbrev viD (p:ByteArray × Int):List D:=[D.int p.2]
abbrev veS (e:Ev):SV:=.agg [.arr (e.map nmD),.arr (e.map viD)]
theorem VY (e:Ev) (n:ByteArray) (v:Int):veS (e++[(n,v)])=.agg [.arr (e.map nmD++[[D.str n]]),.arr (e.map viD++[[D.int v]])]:=by
 unfold veS
 rw [zE,zE]
 rfl
theorem X8 (e:Ev):((e.map nmD).all fun e=>e.length == 1)=true:=by rw [zM,zI]; intro x _; rfl
theorem VZ (e:Ev):(((e.map nmD).map (·.map D.ot)).all fun e=>e.length == 1)=true:=by rw [zM,zM,zI]; intro x _; rfl
theorem YR (e:Ev):OT.erss ((e.map nmD).map (·.map D.ot))=e.map nmD:=by
 rw [OT.Fe,zQ,zQ]
 exact List.map_congr_left fun b _=>rfl
theorem Wa (e:Ev):OT.AS ((e.map nmD).map (·.map D.ot))=true:=by
 induction e with
 | nil=>rfl
 | cons x xs ih=>simp only [zA,OT.AS,ih]; rfl
theorem X9 (e:Ev):((e.map viD).all fun e=>e.length == 1)=true:=by rw [zM,zI]; intro x _; rfl
theorem Wb (e:Ev):(((e.map viD).map (·.map D.ot)).all fun e=>e.length == 1)=true:=by rw [zM,zM,zI]; intro x _; rfl
theorem YS (e:Ev):OT.erss ((e.map viD).map (·.map D.ot))=e.map viD:=by
 rw [OT.Fe,zQ,zQ]
 exact List.map_congr_left fun b _=>rfl
theorem Wc (e:Ev):OT.AS ((e.map viD).map (·.map D.ot))=true:=by
 induction e with
 | nil=>rfl
 | cons x xs ih=>simp only [zA,OT.AS,ih]; rfl
def HN:SC:=(.seq (.reg [⟨some 2,none,.boxv 39 2 (.t 0)⟩,⟨some 4,none,.mv (.c (.int .i64 0))⟩]) (.seq (.seq (.reg [⟨some 6,none,.faddr 0 (.t 2)⟩,⟨some 7,none,.load false 1 (.t 6)⟩,⟨some 8,none,.len false (.t 7)⟩,⟨some 9,none,.bin .sub false (.t 8) (.c (.int .i64 1))⟩,⟨some 5,none,.mv (.t 9)⟩]) (.block 0 (.loop [0,1,1,0,0,1,0,0,0,0,0,0,0,0,0,0,0,0,0,0,0,0,0,0,0,0] (.seq (.seq (.reg [⟨some 10,none,.mv (.t 5)⟩,⟨some 11,none,.bin .geq false (.t 10) (.c (.int .i64 0))⟩]) (.cond (.t 11) .skip (.exit 0))) (.seq (.block 1 (.seq (.reg [⟨some 14,none,.faddr 0 (.t 2)⟩,⟨some 15,none,.load false 1 (.t 14)⟩,⟨some 16,none,.mv (.t 5)⟩,⟨some 17,none,.iaddr 1 (.t 15) (.t 16)⟩,⟨some 18,none,.load false 1 (.t 17)⟩,⟨some 19,none,.mv (.t 1)⟩,⟨some 20,none,.bin .eql false (.t 18) (.t 19)⟩]) (.cond (.t 20) (.seq (.reg [⟨some 21,none,.faddr 1 (.t 2)⟩,⟨some 22,none,.load false 1 (.t 21)⟩,⟨some 23,none,.mv (.t 5)⟩,⟨some 24,none,.iaddr 1 (.t 22) (.t 23)⟩,⟨some 25,none,.load false 1 (.t 24)⟩,⟨some 4,none,.mv (.t 25)⟩]) .ret) .skip))) (.reg [⟨some 12,none,.mv (.t 5)⟩,⟨some 13,none,.bin .sub false (.t 12) (.c (.int .i64 1))⟩,⟨some 5,none,.mv (.t 13)⟩])))))) (.seq (.reg [⟨some 4,none,.mv (.c (.int .i64 0))⟩]) .ret)))
theorem LM:codeOf Tryz.prog 72=some ⟨26,HN,[(.tmp 4)]⟩:=by kernel_rfl
theorem HO:modes 72=⟨[],.asis,none,false⟩:=by unfold modes; rfl
def Hs:SC:=(.seq (.reg [⟨some 3,none,.boxv 39 2 (.t 0)⟩,⟨some 6,none,.alloc 39 [.nil,.nil]⟩]) (.seq (.dreg [[],[],[1],[0,2,1],[],[4],[3,0,2,1,5,4],[],[],[8],[7,9,8,6,3,0,2,1,5,4],[],[11],[10,7,9,8,6,3,0,2,1,5,4,12,11],[6,3,0,2,1,5,4,13,10,7,9,8,12,11],[14,6,3,0,2,1,5,4,13,10,7,9,8,12,11]] [⟨(some 7),none,(.mkrow 9 1 [(.str ⟨#[]⟩)] 0 [])⟩,⟨some 8,none,.faddr 0 (.t 3)⟩,⟨some 9,none,.load false 1 (.t 8)⟩,⟨(some 10),none,(.append 9 1 16 [(.str ⟨#[]⟩)] (.t 7) (.t 9))⟩,⟨some 11,none,.mv (.t 1)⟩,⟨(some 12),none,(.mkrow 9 1 [(.str ⟨#[]⟩)] 1 [(0,(.t 11))])⟩,⟨(some 13),none,(.append 9 1 16 [(.str ⟨#[]⟩)] (.t 10) (.t 12))⟩,⟨some 14,none,.mkrow 3 1 [(.int .i64 0)] 0 []⟩,⟨some 15,none,.faddr 1 (.t 3)⟩,⟨some 16,none,.load false 1 (.t 15)⟩,⟨some 17,none,.append 3 1 8 [(.int .i64 0)] (.t 14) (.t 16)⟩,⟨some 18,none,.mv (.t 2)⟩,⟨some 19,none,.mkrow 3 1 [(.int .i64 0)] 1 [(0,(.t 18))]⟩,⟨some 20,none,.append 3 1 8 [(.int .i64 0)] (.t 17) (.t 19)⟩,⟨some 21,none,.build [.nil,.nil] [(0,(1,(.t 13))),(1,(1,(.t 20)))]⟩,⟨none,none,(.store 2 (.t 6) (.t 21))⟩]) .ret))
theorem Lh:codeOf Tryz.prog 11=some ⟨22,Hs,[(.cell 6 true 2)]⟩:=by kernel_rfl
theorem AU:modes 11=⟨[],.frz,none,false⟩:=by unfold modes; rfl
def JL:SC:=(.seq (.reg [⟨some 4,none,.mv (.c (.int .i64 0))⟩]) (.seq (.seq (.reg [⟨some 5,none,.mv (.t 1)⟩,⟨some 6,none,.mv (.t 0)⟩,⟨some 7,none,.len false (.t 6)⟩,⟨some 8,none,.bin .lss false (.t 5) (.t 7)⟩]) (.cond (.t 8) (.seq (.reg [⟨some 9,none,.mv (.t 0)⟩,⟨some 10,none,.mv (.t 1)⟩,⟨some 11,none,.iaddr 1 (.t 9) (.t 10)⟩,⟨some 12,none,.load false 1 (.t 11)⟩,⟨some 13,none,.conv .i64 (.t 12)⟩,⟨some 4,none,.mv (.t 13)⟩]) .ret) .skip)) (.seq (.reg [⟨some 14,none,.mv (.t 1)⟩,⟨some 15,none,.bin .mul false (.t 14) (.c (.int .i64 7))⟩,⟨some 16,none,.mv (.t 0)⟩,⟨some 17,none,.len false (.t 16)⟩,⟨some 18,none,.bin .add false (.t 15) (.t 17)⟩,⟨some 19,none,.bin .rem false (.t 18) (.c (.int .i64 256))⟩,⟨some 4,none,.mv (.t 19)⟩]) .ret)))
theorem N6:codeOf Tryz.prog 12=some ⟨20,JL,[(.tmp 4)]⟩:=by kernel_rfl
theorem Ct:modes 12=⟨[],.asis,none,false⟩:=by unfold modes; rfl
def LB:SC:=(.seq (.reg [⟨some 6,none,.mv (.c (.int .i64 0))⟩]) (.seq (.reg [⟨some 7,none,.mv (.c (.int .i64 17))⟩]) (.seq (.seq (.reg [⟨some 8,none,.mv (.c (.int .i64 0))⟩]) (.block 0 (.loop [1,1,1,0,0,0,0,1,1,0,0,0,0,0,0,0,0,0,0,0,0,0,0,0,0,0,0,0,0,0,0,0,0,0,0,0,0,0,0,0,0,0,0,0,0,0,0,0,0,0,0,0] (.seq (.seq (.reg [⟨some 10,none,.mv (.t 8)⟩,⟨some 11,none,.mv (.t 1)⟩,⟨some 12,none,.len true (.t 11)⟩,⟨some 13,none,.bin .lss false (.t 10) (.t 12)⟩]) (.cond (.t 13) .skip (.exit 0))) (.seq (.block 1 (.reg [⟨some 16,none,.mv (.t 7)⟩,⟨some 17,none,.bin .mul false (.c (.int .i64 31)) (.t 16)⟩,⟨some 18,none,.mv (.t 1)⟩,⟨some 19,none,.mv (.t 8)⟩,⟨some 20,none,.idx (.t 18) (.t 19)⟩,⟨some 21,none,.conv .i64 (.t 20)⟩,⟨some 22,none,.bin .add false (.t 17) (.t 21)⟩,⟨some 23,none,.bin .rem false (.t 22) (.c (.int .i64 65521))⟩,⟨some 7,none,.mv (.t 23)⟩])) (.reg [⟨some 14,none,.mv (.t 8)⟩,⟨some 15,none,.bin .add false (.t 14) (.c (.int .i64 1))⟩,⟨some 8,none,.mv (.t 15)⟩])))))) (.seq (.seq (.reg [⟨some 9,none,.mv (.c (.int .i64 0))⟩]) (.block 2 (.loop [1,0,1,0,0,0,0,1,0,1,0,0,0,0,0,0,0,0,0,0,0,0,0,0,0,0,0,0,0,0,0,0,0,0,0,0,0,0,0,0,0,0,0,0,0,0,0,0,0,0,0,0] (.seq (.seq (.reg [⟨some 24,none,.mv (.t 9)⟩,⟨some 25,none,.mv (.t 2)⟩,⟨some 26,none,.len false (.t 25)⟩,⟨some 27,none,.bin .lss false (.t 24) (.t 26)⟩]) (.cond (.t 27) .skip (.exit 2))) (.seq (.block 3 (.reg [⟨some 30,none,.mv (.t 7)⟩,⟨some 31,none,.bin .mul false (.c (.int .i64 37)) (.t 30)⟩,⟨some 32,none,.mv (.t 2)⟩,⟨some 33,none,.mv (.t 9)⟩,⟨some 34,none,.iaddr 1 (.t 32) (.t 33)⟩,⟨some 35,none,.load false 1 (.t 34)⟩,⟨some 36,none,.bin .add false (.t 31) (.t 35)⟩,⟨some 37,none,.bin .add false (.t 36) (.c (.int .i64 1))⟩,⟨some 38,none,.bin .rem false (.t 37) (.c (.int .i64 65521))⟩,⟨some 7,none,.mv (.t 38)⟩])) (.reg [⟨some 28,none,.mv (.t 9)⟩,⟨some 29,none,.bin .add false (.t 28) (.c (.int .i64 1))⟩,⟨some 9,none,.mv (.t 29)⟩])))))) (.seq (.reg [⟨some 39,none,.mv (.t 7)⟩,⟨some 40,none,.mv (.t 0)⟩,⟨some 41,none,.mv (.t 7)⟩,⟨some 42,none,.bin .rem false (.t 41) (.c (.int .i64 53))⟩,⟨some 43,none,.call 12 [(.t 40),(.t 42)]⟩,⟨some 44,none,.bin .mul false (.c (.int .i64 13)) (.t 43)⟩,⟨some 45,none,.bin .add false (.t 39) (.t 44)⟩,⟨some 46,none,.mv (.t 0)⟩,⟨some 47,none,.mv (.t 7)⟩,⟨some 48,none,.bin .rem false (.t 47) (.c (.int .i64 89))⟩,⟨some 49,none,.call 12 [(.t 46),(.t 48)]⟩,⟨some 50,none,.bin .add false (.t 45) (.t 49)⟩,⟨some 51,none,.bin .quo false (.t 50) (.c (.int .i64 3))⟩,⟨some 6,none,.mv (.t 51)⟩]) .ret)))))
theorem Ra:codeOf Tryz.prog 46=some ⟨52,LB,[(.tmp 6)]⟩:=by kernel_rfl
theorem Em:modes 46=⟨[],.asis,none,false⟩:=by unfold modes; rfl
def DY:SC:=(.seq (.reg [⟨some 6,none,.boxv 39 2 (.t 2)⟩,⟨some 7,none,.boxv 26 2 (.t 3)⟩,⟨some 8,none,.mv (.c (.int .i64 0))⟩]) (.seq (.seq (.reg [⟨some 11,none,.faddr 1 (.t 7)⟩,⟨some 12,none,.load false 1 (.t 11)⟩,⟨some 13,none,.len false (.t 12)⟩,⟨some 14,none,.bin .eql false (.t 13) (.c (.int .i64 0))⟩,⟨some 15,none,.mv (.t 14)⟩,⟨(some 16),(some (15,true)),(.faddr 0 (.t 7))⟩,⟨(some 17),(some (15,true)),(.load false 1 (.t 16))⟩,⟨(some 18),(some (15,true)),(.len true (.t 17))⟩,⟨(some 19),(some (15,true)),(.bin .gtr false (.t 18) (.c (.int .i64 0)))⟩,⟨some 20,none,.pick (.t 15) (.t 19) (.c (.bool false))⟩,⟨some 21,none,.mv (.t 20)⟩,⟨(some 22),(some (21,true)),(.faddr 0 (.t 7))⟩,⟨(some 23),(some (21,true)),(.load false 1 (.t 22))⟩,⟨(some 24),(some (21,true)),(.idx (.t 23) (.c (.int .i64 0)))⟩,⟨(some 25),(some (21,true)),(.bin .geq false (.t 24) (.c (.int .u8 65)))⟩,⟨some 26,none,.pick (.t 21) (.t 25) (.c (.bool false))⟩,⟨some 27,none,.mv (.t 26)⟩,⟨(some 28),(some (27,true)),(.faddr 0 (.t 7))⟩,⟨(some 29),(some (27,true)),(.load false 1 (.t 28))⟩,⟨(some 30),(some (27,true)),(.idx (.t 29) (.c (.int .i64 0)))⟩,⟨(some 31),(some (27,true)),(.bin .leq false (.t 30) (.c (.int .u8 90)))⟩,⟨some 32,none,.pick (.t 27) (.t 31) (.c (.bool false))⟩]) (.cond (.t 32) (.seq (.reg [⟨some 33,none,.load true 2 (.t 6)⟩,⟨some 34,none,.faddr 0 (.t 7)⟩,⟨some 35,none,.load false 1 (.t 34)⟩,⟨some 36,none,.call 72 [(.t 33),(.t 35)]⟩,⟨some 8,none,.mv (.t 36)⟩]) .ret) .skip)) (.seq (.reg [⟨some 37,none,.mkrow 3 1 [(.int .i64 0)] 0 []⟩,⟨some 9,none,.mv (.t 37)⟩]) (.seq (.seq (.reg [⟨some 10,none,.mv (.c (.int .i64 0))⟩]) (.block 0 (.loop [1,1,0,0,0,0,1,1,0,1,1,0,0,0,0,0,0,0,0,0,0,0,0,0,0,0,0,0,0,0,0,0,0,0,0,0,0,0,0,0,0,0,0,0,0,0,0,0,0,0,0,0,0,0,0,0,0,0,0,0,0,0,0,0] (.seq (.seq (.reg [⟨some 38,none,.mv (.t 10)⟩,⟨some 39,none,.faddr 1 (.t 7)⟩,⟨some 40,none,.load false 1 (.t 39)⟩,⟨some 41,none,.len false (.t 40)⟩,⟨some 42,none,.bin .lss false (.t 38) (.t 41)⟩]) (.cond (.t 42) .skip (.exit 0))) (.seq (.block 1 (.dreg [[],[],[],[],[],[4],[],[5,4,6],[7,5,4,6],[1,2,3,8,7,5,4,6],[9,1,2,3,8,7,5,4,6],[0,10,9,1,2,3,8,7,5,4,6],[11,0,10,9,1,2,3,8,7,5,4,6]] [⟨some 45,none,.mv (.t 9)⟩,⟨some 46,none,.mv (.t 0)⟩,⟨some 47,none,.mv (.t 1)⟩,⟨some 48,none,.load true 2 (.t 6)⟩,⟨some 49,none,.faddr 1 (.t 7)⟩,⟨some 50,none,.load false 1 (.t 49)⟩,⟨some 51,none,.mv (.t 10)⟩,⟨some 52,none,.iaddr 2 (.t 50) (.t 51)⟩,⟨some 53,none,.load true 2 (.t 52)⟩,⟨some 54,none,.call 45 [(.t 46),(.t 47),(.t 48),(.t 53)]⟩,⟨some 55,none,.mkrow 3 1 [(.int .i64 0)] 1 [(0,(.t 54))]⟩,⟨some 56,none,.append 3 1 8 [(.int .i64 0)] (.t 45) (.t 55)⟩,⟨some 9,none,.mv (.t 56)⟩])) (.reg [⟨some 43,none,.mv (.t 10)⟩,⟨some 44,none,.bin .add false (.t 43) (.c (.int .i64 1))⟩,⟨some 10,none,.mv (.t 44)⟩])))))) (.seq (.reg [⟨some 57,none,.mv (.t 0)⟩,⟨some 58,none,.faddr 0 (.t 7)⟩,⟨some 59,none,.load false 1 (.t 58)⟩,⟨some 60,none,.mv (.t 9)⟩,⟨some 61,none,.call 46 [(.t 57),(.t 59),(.t 60)]⟩,⟨some 62,none,.mv (.t 1)⟩,⟨some 63,none,.bin .rem false (.t 61) (.t 62)⟩,⟨some 8,none,.mv (.t 63)⟩]) .ret)))))
theorem Fb:codeOf Tryz.prog 45=some ⟨64,DY,[(.tmp 8)]⟩:=by kernel_rfl
theorem CC:modes 45=⟨[],.asis,none,false⟩:=by unfold modes; rfl
theorem Iy (e:Ev) (he:e.length≤1099511627776) (n:ByteArray) (v:Int):E 11 [veS e,.str n,.int .i64 v] []=some (veS (e++[(n,v)]),[]):=by
 rw [VY]
 refine Aj Lh AU (of_decide_eq_true rfl) ?_
 simp (disch:=omega) only [Hs,go_sem,Ab,X8,VZ,YR,Wa,X9,Wb,YS,Wc]
theorem Zu (e:Ev) (hl:e.length≤1099511627776) (s:ByteArray):E 72 [veS e,.str s] []=some (.int .i64 (C8 e s),[]):=by
 refine Aj LM HO (of_decide_eq_true rfl) ?_
 simp (disch:=omega) only [HN,go_sem,Ab]
 refine go_loop (α:=Int) (fun i=>⟨slots 26 0 [(1,.str s),(2,.ptr 0 0),(5,.int .i64 i)],[.box 39 [.arr (e.map nmD),.arr (e.map viD)]]⟩) (fun i=>∃ k:Nat,i=(k:Int)-1∧k≤e.length∧C8 (e.take k) s=C8 e s) (fun i=>(i+1).toNat) ((e.length:Int)-1) ⟨e.length,rfl,Nat.le_refl _,by rw [List.take_length]⟩ (by simp (disch:=omega) only [go_sem,Ab]) ?_
 rintro i ⟨k0,hi,hk,hR⟩
 rcases zS k0 with h0 | h0
 ·subst h0
  obtain rfl:i=-1:=by omega
  have hR:(0:Int)=C8 e s:=hR
  rw [←hR]
  simp (disch:=omega) only [go_sem,Ab]
 ·obtain ⟨k,rfl⟩:∃ k,k0=k+1:=⟨k0-1,by omega⟩
  have hlt:k<e.length:=by omega
  have hni:i.toNat=k:=by omega
  have hg:=get_at nmD hlt
  have hgv:=get_at viD hlt
  rw [zC hlt,YQ] at hR
  cases hd:dec (e[k].1=s) with
  | true =>
   have hds:=Az.1 hd
   have hdv:C8 e s=e[k].2:=by
    rw [←hR,← hds,Nf]
   rw [hdv]
   simp (disch:=omega) only [go_sem,Ab,hni,hg,hgv,hd]
  | false =>
   have hds:=F6.1 hd
   rw [KR (fun h=>hds h.symm)] at hR
   simp (disch:=omega) only [go_sem,Ab,hni,hg,hgv,hd]
   exact ⟨i-1,⟨k,by omega,by omega,hR⟩,by omega,by first | trivial | rfl | exact ⟨rfl,rfl⟩⟩
theorem LC (l:List Int) (hl:Bytes l) (hn:l.length≤1099511627776) (i:Int) (h0:0≤i) (h1:i≤100):E 12 [.arr (l.map by_),.int .i64 i] []=some (.int .i64 (C4 l i),[]):=by
 by_cases hlt:i<l.length
 ·have hg:=get_at by_ (show i.toNat<l.length by omega)
  have hb:=hl _ (zF (show i.toNat<l.length by omega))
  have hi:dec (inK .i64 l[i.toNat])=true:=BQ (by omega) (by omega)
  have q1:(i<(l.length:Int))=True:=eq_true (by omega)
  have hz:C4 l i=l[i.toNat]:=by
   unfold C4
   rw [if_pos hlt,zJ,zD (by omega)]; rfl
  rw [hz]
  refine Aj N6 Ct (of_decide_eq_true rfl) ?_
  simp (disch:=omega) only [JL,go_sem,Ab,q1,hg,hi]
 ·have q1:(i<(l.length:Int))=False:=eq_false (by omega)
  have q2:((256:Int)=0)=False:=eq_false (by omega)
  have hz:C4 l i=(i*7+l.length).tmod 256:=by
   unfold C4
   rw [if_neg hlt]
  have hi:dec (inK .i64 (i*7))=true:=BQ (by omega) (by omega)
  have hi2:dec (inK .i64 (i*7+l.length))=true:=BQ (by omega) (by omega)
  rw [hz]
  refine Aj N6 Ct (of_decide_eq_true rfl) ?_
  simp (disch:=omega) only [JL,go_sem,Ab,q1,q2,hi,hi2]
theorem Wd (l:List Int) (hl:Bytes l) (hn:l.length≤1099511627776) (nm:ByteArray) (hm:nm.size≤1048576) (vs:List Int) (hvl:vs.length≤1048576) (hv:∀ v∈vs,0≤v∧v≤65535):E 46 [.arr (l.map by_),.str nm,.arr (vs.map iD)] []=some (.int .i64 (P1 l nm vs),[]):=by
 have m0:ER nm 0=17:=rfl
 have z1:((65521:Int)=0)=False:=eq_false (by omega)
 refine Aj Ra Em (of_decide_eq_true rfl) ?_
 simp (disch:=omega) only [LB,go_sem,Ab]
 refine go_loop (α:=Nat) (fun k=>⟨slots 52 0 [(0,.arr (l.map by_)),(1,.str nm),(2,.arr (vs.map iD)),(7,.int .i64 (ER nm k)),(8,.int .i64 ((k:Nat):Int))],[]⟩) (fun k=>k≤nm.size) (fun k=>nm.size-k) 0 (zK _) (by simp (disch:=omega) only [go_sem,Ab,m0,Int.natCast_zero]) ?_
 intro k hk
 rcases zL k nm.size with hlt | hge
 ·have q1:((k:Int)<(nm.size:Int))=True:=eq_true (by omega)
  have hr:=K6 nm k
  have hb:=N4 nm k
  have e1:ER nm (k+1)=(31*ER nm k+DN nm k).tmod 65521:=rfl
  have i1:dec (inK .i64 (31*ER nm k))=true:=BQ (by omega) (by omega)
  have i2:dec (inK .i64 (31*ER nm k+DN nm k))=true:=BQ (by omega) (by omega)
  have i3:dec (inK .i64 (DN nm k))=true:=BQ (by omega) (by omega)
  simp (disch:=omega) only [go_sem,Ab,q1,z1,i1,i2,i3]
  refine ⟨k+1,hlt,by omega,?_⟩
  rw [e1]
  first | rfl | exact ⟨rfl,rfl⟩
 ·obtain rfl:k=nm.size:=by omega
  have q1:((nm.size:Int)<(nm.size:Int))=False:=eq_false (by omega)
  have v0:Hj (ER nm nm.size) vs 0=ER nm nm.size:=rfl
  have hh:=K6 nm nm.size
  simp (disch:=omega) only [go_sem,Ab,q1]
  refine go_loop (α:=Nat) (fun k=>⟨slots 52 0 [(0,.arr (l.map by_)),(2,.arr (vs.map iD)),(7,.int .i64 (Hj (ER nm nm.size) vs k)),(9,.int .i64 ((k:Nat):Int))],[]⟩) (fun k=>k≤vs.length) (fun k=>vs.length-k) 0 (zK _) (by simp (disch:=omega) only [go_sem,Ab,v0,Int.natCast_zero]) ?_
  intro k hk
  have hr:=N5 hh hv k
  rcases zL k vs.length with hlt | hge
  ·have q1:((k:Int)<(vs.length:Int))=True:=eq_true (by omega)
   have hg:=get_at iD hlt
   have hb:=hv _ (zF hlt)
   have e1:Hj (ER nm nm.size) vs (k+1)=(37*Hj (ER nm nm.size) vs k+vs[k]+1).tmod 65521:=by
    rw [Hj,zJ,zD hlt]; rfl
   have i1:dec (inK .i64 (37*Hj (ER nm nm.size) vs k))=true:=BQ (by omega) (by omega)
   have i2:dec (inK .i64 (37*Hj (ER nm nm.size) vs k+vs[k]))=true:=BQ (by omega) (by omega)
   have i3:dec (inK .i64 (37*Hj (ER nm nm.size) vs k+vs[k]+1))=true:=BQ (by omega) (by omega)
   simp (disch:=omega) only [go_sem,Ab,q1,z1,hg,i1,i2,i3]
   refine ⟨k+1,hlt,by omega,?_⟩
   rw [e1]
   first | rfl | exact ⟨rfl,rfl⟩
  ·obtain rfl:k=vs.length:=by omega
   have q1:((vs.length:Int)<(vs.length:Int))=False:=eq_false (by omega)
   have hz:P1 l nm vs=(Hj (ER nm nm.size) vs vs.length+13*C4 l ((Hj (ER nm nm.size) vs vs.length).tmod 53)+C4 l ((Hj (ER nm nm.size) vs vs.length).tmod 89)).tdiv 3:=rfl
   rw [hz]
   generalize Hj (ER nm nm.size) vs vs.length=h at *
   have a1:=E5 hr.1 (show (0:Int)<53 by omega)
   have a2:=E5 hr.1 (show (0:Int)<89 by omega)
   have b1:=DX hl a1.1
   have b2:=DX hl a2.1
   have c1:=LC l hl hn (h.tmod 53) (by omega) (by omega)
   have c2:=LC l hl hn (h.tmod 89) (by omega) (by omega)
   have c:=VV (show 0≤h+13*C4 l (h.tmod 53)+C4 l (h.tmod 89) by omega)
   have z2:((53:Int)=0)=False:=eq_false (by omega)
   have z3:((89:Int)=0)=False:=eq_false (by omega)
   have z4:((3:Int)=0)=False:=eq_false (by omega)
   have i1:dec (inK .i64 (13*C4 l (h.tmod 53)))=true:=BQ (by omega) (by omega)
   have i2:dec (inK .i64 (h+13*C4 l (h.tmod 53)))=true:=BQ (by omega) (by omega)
   have i3:dec (inK .i64 (h+13*C4 l (h.tmod 53)+C4 l (h.tmod 89)))=true:=BQ (by omega) (by omega)
   have i4:dec (inK .i64 ((h+13*C4 l (h.tmod 53)+C4 l (h.tmod 89)).tdiv 3))=true:=BQ (by omega) (by omega)
   simp (disch:=omega) only [go_sem,Ab,q1,z2,z3,z4,c1,c2,i1,i2,i3,i4,Ct]
theorem Uf (l:List Int) (hl:Bytes l) (hn:l.length≤1099511627776) (n:Int) (hn0:1≤n∧n≤65535) (e:Ev) (he:e.length≤1099511627776) (hE:EnvOk e) (x:Tm) (hx:x.names=true) (hxn:x.nodes≤1048576) (ih:∀ y∈x.args,E 45 [.arr (l.map by_),.int .i64 n,veS e,y.sv] []=some (.int .i64 (y.val l n (C8 e)),[])):E 45 [.arr (l.map by_),.int .i64 n,veS e,x.sv] []=some (.int .i64 (x.val l n (C8 e)),[]):=by
 have hlen:=Tm.length_le x.args
 have hne:=Tm.nodes_eq x
 have hck:=Tm.IJ x hx
 rw [Tm.KO,zB] at hck
 obtain ⟨hsz,hup⟩:=OC hck.1
 have hgt:=Zu e he x.name
 have s1:((0:Int)<(x.name.size:Int))=True:=eq_true (by omega)
 have z0:(n=0)=False:=eq_false (by omega)
 have hs6:x.name.size≤6:=by
  rw [Tm.Fk] at hx
  split at hx
  ·rename_i hv; exact TH hv
  ·rw [zB,zB] at hx; exact O9 hx.1.1
 have hmx:=Wd l hl hn x.name (by omega) (x.args.map (Tm.val l n (C8 e))) (by rw [zG]; omega) fun v hv=>by
  obtain ⟨y,hy,rfl⟩:=yB.1 hv
  exact Tm.PI hl hn0 (QZ e hE) y
 rw [Tm.Ng]
 cases hv:Bz x.name with
 | true =>
  have hx0:=Tm.FH hx hv
  rw [hv,zB] at hup
  obtain ⟨u1,u2⟩:=hup
  have q0:((x.args.length:Int)=0)=True:=eq_true (by rw [hx0]; rfl)
  rw [cond_true]
  refine Aj Fb CC (of_decide_eq_true rfl) ?_
  simp (disch:=omega) only [DY,go_sem,Ab,q0,s1,u1,u2,hgt,HO]
 | false =>
  rw [cond_false]
  rw [hv] at hup
  by_cases hx0:x.args.length=0
  ·have q0:((x.args.length:Int)=0)=True:=eq_true (by omega)
   cases u1:dec (65≤DN x.name 0) with
   | false =>
    refine Aj Fb CC (of_decide_eq_true rfl) ?_
    simp (disch:=omega) only [DY,go_sem,Ab,q0,s1,u1]
    refine go_loop (α:=Int × (List Int)) (fun a=>⟨slots 64 0 [(0,.arr (l.map by_)),(1,.int .i64 n),(6,.ptr 0 0),(7,.ptr 1 0),(9,.ref 2),(10,.int .i64 (a.1))],[.box 39 [.arr (e.map nmD),.arr (e.map viD)],.box 26 [.str x.name,.arr (x.args.map Tm.d)],.row 3 1 ((a.2).map iO)]⟩) (fun a=>∃ k:Nat,a.1=k∧k≤(x.args).length∧(a.2)=(x.args.take k).map (Tm.val l n (C8 e))) (fun a=>(x.args).length-(a.1).toNat) (0,[]) ⟨0,rfl,zK _,by rw [zT]; rfl⟩ (by simp (disch:=omega) only [go_sem,Ab]) ?_
    rintro ⟨i,acc⟩ ⟨k,hi,hk,hR⟩
    dsimp only at hi hR
    have hni:i.toNat=k:=by omega
    have hni1:(i+1).toNat=k+1:=by omega
    rcases zL k (x.args).length with hlt | hge
    ·have hg:=get_at Tm.d hlt
     rw [Tm.d_eq] at hg
     have hc:=ih x.args[k] (zF hlt)
     have hal:acc.length=k:=by rw [hR,zG,zR]; omega
     simp (disch:=omega) only [go_sem,Ab,hni,hg,hc,CC]
     refine ⟨(i+1,acc++[x.args[k].val l n (C8 e)]),⟨k+1,by dsimp only; omega,hlt,?_⟩,by dsimp only; omega,?_⟩
     ·dsimp only
      rw [zC hlt,zE,← hR]; rfl
     ·simp (disch:=omega) only [go_sem,Ab,zE]
    ·have hR:acc=x.args.map (Tm.val l n (C8 e)):=by rw [hR,zN hge]
     rw [←hR] at hmx ⊢
     simp (disch:=omega) only [go_sem,Ab,hni,N3,HD,Le,Lf,OZ,Em,hmx,z0]
   | true =>
    rw [u1,zV] at hup
    refine Aj Fb CC (of_decide_eq_true rfl) ?_
    simp (disch:=omega) only [DY,go_sem,Ab,q0,s1,u1,hup]
    refine go_loop (α:=Int × (List Int)) (fun a=>⟨slots 64 0 [(0,.arr (l.map by_)),(1,.int .i64 n),(6,.ptr 0 0),(7,.ptr 1 0),(9,.ref 2),(10,.int .i64 (a.1))],[.box 39 [.arr (e.map nmD),.arr (e.map viD)],.box 26 [.str x.name,.arr (x.args.map Tm.d)],.row 3 1 ((a.2).map iO)]⟩) (fun a=>∃ k:Nat,a.1=k∧k≤(x.args).length∧(a.2)=(x.args.take k).map (Tm.val l n (C8 e))) (fun a=>(x.args).length-(a.1).toNat) (0,[]) ⟨0,rfl,zK _,by rw [zT]; rfl⟩ (by simp (disch:=omega) only [go_sem,Ab]) ?_
    rintro ⟨i,acc⟩ ⟨k,hi,hk,hR⟩
    dsimp only at hi hR
    have hni:i.toNat=k:=by omega
    have hni1:(i+1).toNat=k+1:=by omega
    rcases zL k (x.args).length with hlt | hge
    ·have hg:=get_at Tm.d hlt
     rw [Tm.d_eq] at hg
     have hc:=ih x.args[k] (zF hlt)
     have hal:acc.length=k:=by rw [hR,zG,zR]; omega
     simp (disch:=omega) only [go_sem,Ab,hni,hg,hc,CC]
     refine ⟨(i+1,acc++[x.args[k].val l n (C8 e)]),⟨k+1,by dsimp only; omega,hlt,?_⟩,by dsimp only; omega,?_⟩
     ·dsimp only
      rw [zC hlt,zE,← hR]; rfl
     ·simp (disch:=omega) only [go_sem,Ab,zE]
    ·have hR:acc=x.args.map (Tm.val l n (C8 e)):=by rw [hR,zN hge]
     rw [←hR] at hmx ⊢
     simp (disch:=omega) only [go_sem,Ab,hni,N3,HD,Le,Lf,OZ,Em,hmx,z0]
  ·have q0:((x.args.length:Int)=0)=False:=eq_false (by omega)
   refine Aj Fb CC (of_decide_eq_true rfl) ?_
   simp (disch:=omega) only [DY,go_sem,Ab,q0,s1]
   refine go_loop (α:=Int × (List Int)) (fun a=>⟨slots 64 0 [(0,.arr (l.map by_)),(1,.int .i64 n),(6,.ptr 0 0),(7,.ptr 1 0),(9,.ref 2),(10,.int .i64 (a.1))],[.box 39 [.arr (e.map nmD),.arr (e.map viD)],.box 26 [.str x.name,.arr (x.args.map Tm.d)],.row 3 1 ((a.2).map iO)]⟩) (fun a=>∃ k:Nat,a.1=k∧k≤(x.args).length∧(a.2)=(x.args.take k).map (Tm.val l n (C8 e))) (fun a=>(x.args).length-(a.1).toNat) (0,[]) ⟨0,rfl,zK _,by rw [zT]; rfl⟩ (by simp (disch:=omega) only [go_sem,Ab]) ?_
   rintro ⟨i,acc⟩ ⟨k,hi,hk,hR⟩
   dsimp only at hi hR
   have hni:i.toNat=k:=by omega
   have hni1:(i+1).toNat=k+1:=by omega
   rcases zL k (x.args).length with hlt | hge
   ·have hg:=get_at Tm.d hlt
    rw [Tm.d_eq] at hg
    have hc:=ih x.args[k] (zF hlt)
    have hal:acc.length=k:=by rw [hR,zG,zR]; omega
    simp (disch:=omega) only [go_sem,Ab,hni,hg,hc,CC]
    refine ⟨(i+1,acc++[x.args[k].val l n (C8 e)]),⟨k+1,by dsimp only; omega,hlt,?_⟩,by dsimp only; omega,?_⟩
    ·dsimp only
     rw [zC hlt,zE,← hR]; rfl
    ·simp (disch:=omega) only [go_sem,Ab,zE]
   ·have hR:acc=x.args.map (Tm.val l n (C8 e)):=by rw [hR,zN hge]
    rw [←hR] at hmx ⊢
    simp (disch:=omega) only [go_sem,Ab,hni,N3,HD,Le,Lf,OZ,Em,hmx,z0]
theorem Rb (l:List Int) (hl:Bytes l) (hn:l.length≤1099511627776) (n:Int) (hn0:1≤n∧n≤65535) (e:Ev) (he:e.length≤1099511627776) (hE:EnvOk e) (x:Tm) (hx:x.names=true) (hxn:x.nodes≤1048576):E 45 [.arr (l.map by_),.int .i64 n,veS e,x.sv] []=some (.int .i64 (x.val l n (C8 e)),[]) :=
 Uf l hl hn n hn0 e he hE x hx hxn fun y hy=>Rb l hl hn n hn0 e he hE y (Tm.Ek hx hy) (by have:=Tm.nodes_mem hy; have:=Tm.nodes_eq x; omega)
termination_by SizeOf.sizeOf x
decreasing_by exact Tm.lt_of_mem hy
def Jv:SC:=(.seq (.reg [⟨some 6,none,.boxv 39 2 (.t 2)⟩,⟨some 7,none,.boxv 26 2 (.t 3)⟩,⟨some 8,none,.mv (.c (.bool false))⟩]) (.seq (.reg [⟨some 11,none,.mkrow 3 1 [(.int .i64 0)] 0 []⟩,⟨some 9,none,.mv (.t 11)⟩]) (.seq (.seq (.reg [⟨some 10,none,.mv (.c (.int .i64 0))⟩]) (.block 0 (.loop [1,1,0,0,0,0,1,1,0,1,1,0,0,0,0,0,0,0,0,0,0,0,0,0,0,0,0,0,0,0,0,0,0,0,0,0,0,0,0,0,0,0,0,0,0,0,0,0,0,0,0,0,0,0] (.seq (.seq (.reg [⟨some 12,none,.mv (.t 10)⟩,⟨some 13,none,.faddr 1 (.t 7)⟩,⟨some 14,none,.load false 1 (.t 13)⟩,⟨some 15,none,.len false (.t 14)⟩,⟨some 16,none,.bin .lss false (.t 12) (.t 15)⟩]) (.cond (.t 16) .skip (.exit 0))) (.seq (.block 1 (.dreg [[],[],[],[],[],[4],[],[5,4,6],[7,5,4,6],[1,2,3,8,7,5,4,6],[9,1,2,3,8,7,5,4,6],[0,10,9,1,2,3,8,7,5,4,6],[11,0,10,9,1,2,3,8,7,5,4,6]] [⟨some 19,none,.mv (.t 9)⟩,⟨some 20,none,.mv (.t 0)⟩,⟨some 21,none,.mv (.t 1)⟩,⟨some 22,none,.load true 2 (.t 6)⟩,⟨some 23,none,.faddr 1 (.t 7)⟩,⟨some 24,none,.load false 1 (.t 23)⟩,⟨some 25,none,.mv (.t 10)⟩,⟨some 26,none,.iaddr 2 (.t 24) (.t 25)⟩,⟨some 27,none,.load true 2 (.t 26)⟩,⟨some 28,none,.call 45 [(.t 20),(.t 21),(.t 22),(.t 27)]⟩,⟨some 29,none,.mkrow 3 1 [(.int .i64 0)] 1 [(0,(.t 28))]⟩,⟨some 30,none,.append 3 1 8 [(.int .i64 0)] (.t 19) (.t 29)⟩,⟨some 9,none,.mv (.t 30)⟩])) (.reg [⟨some 17,none,.mv (.t 10)⟩,⟨some 18,none,.bin .add false (.t 17) (.c (.int .i64 1))⟩,⟨some 10,none,.mv (.t 18)⟩])))))) (.seq (.seq (.reg [⟨some 31,none,.faddr 0 (.t 7)⟩,⟨some 32,none,.load false 1 (.t 31)⟩,⟨(some 33),none,(.bin .eql false (.t 32) (.c (.str ⟨#[61]⟩)))⟩,⟨some 34,none,.mv (.t 33)⟩,⟨(some 35),(some (34,true)),(.mv (.t 9))⟩,⟨(some 36),(some (34,true)),(.len false (.t 35))⟩,⟨(some 37),(some (34,true)),(.bin .eql false (.t 36) (.c (.int .i64 2)))⟩,⟨some 38,none,.pick (.t 34) (.t 37) (.c (.bool false))⟩]) (.cond (.t 38) (.seq (.dreg [[],[0],[1,0],[],[3],[4,3],[2,1,0,5,4,3],[6,2,1,0,5,4,3]] [⟨some 39,none,.mv (.t 9)⟩,⟨some 40,none,.iaddr 1 (.t 39) (.c (.int .i64 0))⟩,⟨some 41,none,.load false 1 (.t 40)⟩,⟨some 42,none,.mv (.t 9)⟩,⟨some 43,none,.iaddr 1 (.t 42) (.c (.int .i64 1))⟩,⟨some 44,none,.load false 1 (.t 43)⟩,⟨some 45,none,.bin .eql false (.t 41) (.t 44)⟩,⟨some 8,none,.mv (.t 45)⟩]) .ret) .skip)) (.seq (.reg [⟨some 46,none,.mv (.t 0)⟩,⟨some 47,none,.faddr 0 (.t 7)⟩,⟨some 48,none,.load false 1 (.t 47)⟩,⟨(some 49),none,(.bin .add false (.c (.str ⟨#[126]⟩)) (.t 48))⟩,⟨some 50,none,.mv (.t 9)⟩,⟨some 51,none,.call 46 [(.t 46),(.t 49),(.t 50)]⟩,⟨some 52,none,.bin .rem false (.t 51) (.c (.int .i64 2))⟩,⟨some 53,none,.bin .eql false (.t 52) (.c (.int .i64 1))⟩,⟨some 8,none,.mv (.t 53)⟩]) .ret)))))
theorem NR:codeOf Tryz.prog 23=some ⟨54,Jv,[(.tmp 8)]⟩:=by kernel_rfl
theorem Jw:modes 23=⟨[],.asis,none,false⟩:=by unfold modes; rfl
def Bb:SC:=(.seq (.reg [⟨some 6,none,.boxv 39 2 (.t 2)⟩,⟨some 7,none,.boxv 29 5 (.t 3)⟩,⟨some 8,none,.mv (.c (.bool false))⟩]) (.seq (.seq (.reg [⟨some 10,none,.faddr 0 (.t 7)⟩,⟨some 11,none,.load false 1 (.t 10)⟩]) (.block 0 (.seq (.reg [⟨some 13,none,.bin .eql false (.t 11) (.c (.int .i64 1))⟩,⟨some 12,none,.mv (.t 13)⟩]) (.cond (.t 12) (.seq (.reg [⟨some 8,none,.mv (.c (.bool true))⟩]) .ret) (.seq (.reg [⟨some 15,none,.bin .eql false (.t 11) (.c (.int .i64 2))⟩,⟨some 14,none,.mv (.t 15)⟩]) (.cond (.t 14) (.seq (.reg [⟨some 8,none,.mv (.c (.bool false))⟩]) .ret) (.seq (.reg [⟨some 17,none,.bin .eql false (.t 11) (.c (.int .i64 3))⟩,⟨some 16,none,.mv (.t 17)⟩]) (.cond (.t 16) (.seq (.reg [⟨some 18,none,.mv (.t 0)⟩,⟨some 19,none,.mv (.t 1)⟩,⟨some 20,none,.load true 2 (.t 6)⟩,⟨some 21,none,.faddr 1 (.t 7)⟩,⟨some 22,none,.load true 2 (.t 21)⟩,⟨some 23,none,.call 23 [(.t 18),(.t 19),(.t 20),(.t 22)]⟩,⟨some 8,none,.mv (.t 23)⟩]) .ret) (.seq (.reg [⟨some 25,none,.bin .eql false (.t 11) (.c (.int .i64 4))⟩,⟨some 24,none,.mv (.t 25)⟩]) (.cond (.t 24) (.seq (.dreg [[],[],[],[],[3],[4,3],[5,4,3],[0,1,2,6,5,4,3],[7,0,1,2,6,5,4,3],[8,7,0,1,2,6,5,4,3]] [⟨some 26,none,.mv (.t 0)⟩,⟨some 27,none,.mv (.t 1)⟩,⟨some 28,none,.load true 2 (.t 6)⟩,⟨some 29,none,.faddr 4 (.t 7)⟩,⟨some 30,none,.load false 1 (.t 29)⟩,⟨some 31,none,.iaddr 5 (.t 30) (.c (.int .i64 0))⟩,⟨some 32,none,.load true 5 (.t 31)⟩,⟨some 33,none,.call 13 [(.t 26),(.t 27),(.t 28),(.t 32)]⟩,⟨some 34,none,.un .not (.t 33)⟩,⟨some 8,none,.mv (.t 34)⟩]) .ret) (.seq (.reg [⟨some 36,none,.bin .eql false (.t 11) (.c (.int .i64 5))⟩,⟨some 35,none,.mv (.t 36)⟩]) (.cond (.t 35) (.seq (.dreg [[],[],[],[],[3],[4,3],[5,4,3],[0,1,2,6,5,4,3],[7,0,1,2,6,5,4,3],[8,7,0,1,2,6,5,4,3],[8,7,0,1,2,6,5,4,3],[8,7,0,1,2,6,5,4,3],[8,7,0,1,2,6,5,4,3],[12,8,7,0,1,2,6,5,4,3],[13,12,8,7,0,1,2,6,5,4,3],[14,13,12,8,7,0,1,2,6,5,4,3],[9,8,7,0,1,2,6,5,4,3,10,11,15,14,13,12],[8,7,0,1,2,6,5,4,3,16,9,10,11,15,14,13,12],[17,8,7,0,1,2,6,5,4,3,16,9,10,11,15,14,13,12]] [⟨some 37,none,.mv (.t 0)⟩,⟨some 38,none,.mv (.t 1)⟩,⟨some 39,none,.load true 2 (.t 6)⟩,⟨some 40,none,.faddr 4 (.t 7)⟩,⟨some 41,none,.load false 1 (.t 40)⟩,⟨some 42,none,.iaddr 5 (.t 41) (.c (.int .i64 0))⟩,⟨some 43,none,.load true 5 (.t 42)⟩,⟨some 44,none,.call 13 [(.t 37),(.t 38),(.t 39),(.t 43)]⟩,⟨some 45,none,.mv (.t 44)⟩,⟨(some 46),(some (45,true)),(.mv (.t 0))⟩,⟨(some 47),(some (45,true)),(.mv (.t 1))⟩,⟨(some 48),(some (45,true)),(.load true 2 (.t 6))⟩,⟨(some 49),(some (45,true)),(.faddr 4 (.t 7))⟩,⟨(some 50),(some (45,true)),(.load false 1 (.t 49))⟩,⟨(some 51),(some (45,true)),(.iaddr 5 (.t 50) (.c (.int .i64 1)))⟩,⟨(some 52),(some (45,true)),(.load true 5 (.t 51))⟩,⟨(some 53),(some (45,true)),(.call 13 [(.t 46),(.t 47),(.t 48),(.t 52)])⟩,⟨some 54,none,.pick (.t 45) (.t 53) (.c (.bool false))⟩,⟨some 8,none,.mv (.t 54)⟩]) .ret) (.seq (.reg [⟨some 56,none,.bin .eql false (.t 11) (.c (.int .i64 6))⟩,⟨some 55,none,.mv (.t 56)⟩]) (.cond (.t 55) (.seq (.dreg [[],[],[],[],[3],[4,3],[5,4,3],[0,1,2,6,5,4,3],[7,0,1,2,6,5,4,3],[8,7,0,1,2,6,5,4,3],[8,7,0,1,2,6,5,4,3],[8,7,0,1,2,6,5,4,3],[8,7,0,1,2,6,5,4,3],[12,8,7,0,1,2,6,5,4,3],[13,12,8,7,0,1,2,6,5,4,3],[14,13,12,8,7,0,1,2,6,5,4,3],[9,8,7,0,1,2,6,5,4,3,10,11,15,14,13,12],[8,7,0,1,2,6,5,4,3,16,9,10,11,15,14,13,12],[17,8,7,0,1,2,6,5,4,3,16,9,10,11,15,14,13,12]] [⟨some 57,none,.mv (.t 0)⟩,⟨some 58,none,.mv (.t 1)⟩,⟨some 59,none,.load true 2 (.t 6)⟩,⟨some 60,none,.faddr 4 (.t 7)⟩,⟨some 61,none,.load false 1 (.t 60)⟩,⟨some 62,none,.iaddr 5 (.t 61) (.c (.int .i64 0))⟩,⟨some 63,none,.load true 5 (.t 62)⟩,⟨some 64,none,.call 13 [(.t 57),(.t 58),(.t 59),(.t 63)]⟩,⟨some 65,none,.mv (.t 64)⟩,⟨(some 66),(some (65,false)),(.mv (.t 0))⟩,⟨(some 67),(some (65,false)),(.mv (.t 1))⟩,⟨(some 68),(some (65,false)),(.load true 2 (.t 6))⟩,⟨(some 69),(some (65,false)),(.faddr 4 (.t 7))⟩,⟨(some 70),(some (65,false)),(.load false 1 (.t 69))⟩,⟨(some 71),(some (65,false)),(.iaddr 5 (.t 70) (.c (.int .i64 1)))⟩,⟨(some 72),(some (65,false)),(.load true 5 (.t 71))⟩,⟨(some 73),(some (65,false)),(.call 13 [(.t 66),(.t 67),(.t 68),(.t 72)])⟩,⟨some 74,none,.pick (.t 65) (.c (.bool true)) (.t 73)⟩,⟨some 8,none,.mv (.t 74)⟩]) .ret) (.seq (.reg [⟨some 76,none,.bin .eql false (.t 11) (.c (.int .i64 7))⟩,⟨some 75,none,.mv (.t 76)⟩]) (.cond (.t 75) (.seq (.dreg [[],[],[],[],[3],[4,3],[5,4,3],[0,1,2,6,5,4,3],[7,0,1,2,6,5,4,3],[8,7,0,1,2,6,5,4,3],[9,8,7,0,1,2,6,5,4,3],[9,8,7,0,1,2,6,5,4,3],[9,8,7,0,1,2,6,5,4,3],[9,8,7,0,1,2,6,5,4,3],[13,9,8,7,0,1,2,6,5,4,3],[14,13,9,8,7,0,1,2,6,5,4,3],[15,14,13,9,8,7,0,1,2,6,5,4,3],[10,9,8,7,0,1,2,6,5,4,3,11,12,16,15,14,13],[9,8,7,0,1,2,6,5,4,3,17,10,11,12,16,15,14,13],[18,9,8,7,0,1,2,6,5,4,3,17,10,11,12,16,15,14,13]] [⟨some 77,none,.mv (.t 0)⟩,⟨some 78,none,.mv (.t 1)⟩,⟨some 79,none,.load true 2 (.t 6)⟩,⟨some 80,none,.faddr 4 (.t 7)⟩,⟨some 81,none,.load false 1 (.t 80)⟩,⟨some 82,none,.iaddr 5 (.t 81) (.c (.int .i64 0))⟩,⟨some 83,none,.load true 5 (.t 82)⟩,⟨some 84,none,.call 13 [(.t 77),(.t 78),(.t 79),(.t 83)]⟩,⟨some 85,none,.un .not (.t 84)⟩,⟨some 86,none,.mv (.t 85)⟩,⟨(some 87),(some (86,false)),(.mv (.t 0))⟩,⟨(some 88),(some (86,false)),(.mv (.t 1))⟩,⟨(some 89),(some (86,false)),(.load true 2 (.t 6))⟩,⟨(some 90),(some (86,false)),(.faddr 4 (.t 7))⟩,⟨(some 91),(some (86,false)),(.load false 1 (.t 90))⟩,⟨(some 92),(some (86,false)),(.iaddr 5 (.t 91) (.c (.int .i64 1)))⟩,⟨(some 93),(some (86,false)),(.load true 5 (.t 92))⟩,⟨(some 94),(some (86,false)),(.call 13 [(.t 87),(.t 88),(.t 89),(.t 93)])⟩,⟨some 95,none,.pick (.t 86) (.c (.bool true)) (.t 94)⟩,⟨some 8,none,.mv (.t 95)⟩]) .ret) .skip)))))))))))))))) (.seq (.seq (.reg [⟨some 9,none,.mv (.c (.int .i64 0))⟩]) (.block 1 (.loop [1,1,0,0,0,0,1,1,0,1,0,0,0,0,0,0,0,0,0,0,0,0,0,0,0,0,0,0,0,0,0,0,0,0,0,0,0,0,0,0,0,0,0,0,0,0,0,0,0,0,0,0,0,0,0,0,0,0,0,0,0,0,0,0,0,0,0,0,0,0,0,0,0,0,0,0,0,0,0,0,0,0,0,0,0,0,0,0,0,0,0,0,0,0,0,0,0,0,0,0,0,0,0,0,0,0,0,0,0,0,0,0,0,0,0,0,0,0,0,0,0,0,0] (.seq (.seq (.reg [⟨some 96,none,.mv (.t 9)⟩,⟨some 97,none,.mv (.t 1)⟩,⟨some 98,none,.bin .lss false (.t 96) (.t 97)⟩]) (.cond (.t 98) .skip (.exit 1))) (.seq (.block 2 (.seq (.dreg [[],[],[],[],[3],[],[2,4,3,5],[],[7],[8,7],[9,8,7],[0,1,6,2,4,3,5,10,9,8,7],[],[12],[13,12],[11,0,1,6,2,4,3,5,10,9,8,7,14,13,12]] [⟨some 101,none,.mv (.t 0)⟩,⟨some 102,none,.mv (.t 1)⟩,⟨some 103,none,.load true 2 (.t 6)⟩,⟨some 104,none,.faddr 3 (.t 7)⟩,⟨some 105,none,.load false 1 (.t 104)⟩,⟨some 106,none,.mv (.t 9)⟩,⟨some 107,none,.call 11 [(.t 103),(.t 105),(.t 106)]⟩,⟨some 108,none,.faddr 4 (.t 7)⟩,⟨some 109,none,.load false 1 (.t 108)⟩,⟨some 110,none,.iaddr 5 (.t 109) (.c (.int .i64 0))⟩,⟨some 111,none,.load true 5 (.t 110)⟩,⟨some 112,none,.call 13 [(.t 101),(.t 102),(.t 107),(.t 111)]⟩,⟨some 113,none,.faddr 0 (.t 7)⟩,⟨some 114,none,.load false 1 (.t 113)⟩,⟨some 115,none,.bin .eql false (.t 114) (.c (.int .i64 9))⟩,⟨some 116,none,.bin .eql true (.t 112) (.t 115)⟩]) (.cond (.t 116) (.seq (.reg [⟨some 117,none,.faddr 0 (.t 7)⟩,⟨some 118,none,.load false 1 (.t 117)⟩,⟨some 119,none,.bin .eql false (.t 118) (.c (.int .i64 9))⟩,⟨some 8,none,.mv (.t 119)⟩]) .ret) .skip))) (.reg [⟨some 99,none,.mv (.t 9)⟩,⟨some 100,none,.bin .add false (.t 99) (.c (.int .i64 1))⟩,⟨some 9,none,.mv (.t 100)⟩])))))) (.seq (.reg [⟨some 120,none,.faddr 0 (.t 7)⟩,⟨some 121,none,.load false 1 (.t 120)⟩,⟨some 122,none,.bin .eql false (.t 121) (.c (.int .i64 8))⟩,⟨some 8,none,.mv (.t 122)⟩]) .ret))))
theorem Bk:codeOf Tryz.prog 13=some ⟨123,Bb,[(.tmp 8)]⟩:=by kernel_rfl
theorem Av:modes 13=⟨[],.asis,none,false⟩:=by unfold modes; rfl
theorem Tm.Ug {x:Tm} (h:x.atom=true):x.name.size≤6:=by
 unfold Tm.atom at h
 split at h
 ·rename_i he
  unfold Tm.eqn at he
  rw [Az.1 he]
  decide
 ·rw [zB] at h
  exact O9 h.1
theorem Tm.We {x:Tm} (h:x.atom=true) {y:Tm} (hy:y∈x.args):y.names=true:=by
 unfold Tm.atom at h
 split at h
 ·rw [zB,Tm.Ej,zI] at h
  exact h.2 y hy
 ·rw [zB] at h
  have h2:=h.2
  unfold Tm.valid at h2
  rw [zB] at h2
  exact Tm.Ek h2.2 hy
theorem Wg (s:ByteArray):((⟨#[126]⟩:ByteArray)++s).size=1+s.size:=by rw [ByteArray.size_append]; rfl
theorem Wh (l:List Int) (hl:Bytes l) (hn:l.length≤1099511627776) (n:Int) (hn0:1≤n∧n≤65535) (e:Ev) (he:e.length≤1099511627776) (hE:EnvOk e) (x:Tm) (hx:x.atom=true) (hxn:x.nodes≤1048576):E 23 [.arr (l.map by_),.int .i64 n,veS e,x.sv] []=some (.bool (H7 l n (C8 e) x),[]):=by
 have hlen:=Tm.length_le x.args
 have hne:=Tm.nodes_eq x
 have hsz:=Tm.Ug hx
 have z0:((2:Int)=0)=False:=eq_false (by omega)
 have hmx:=Wd l hl hn ((⟨#[126]⟩:ByteArray)++x.name) (by rw [Wg]; omega) (x.args.map (Tm.val l n (C8 e))) (by rw [zG]; omega) fun v hv=>by
  obtain ⟨y,hy,rfl⟩:=yB.1 hv
  exact Tm.PI hl hn0 (QZ e hE) y
 have hs1:dec ((⟨#[126]⟩:ByteArray).size+x.name.size≤9223372036854775807)=true:=Au (by show 1+x.name.size≤_; omega)
 have hs2:dec ((#[126]:Array UInt8).size+x.name.size≤9223372036854775807)=true:=hs1
 refine Aj NR Jw (of_decide_eq_true rfl) ?_
 simp (disch:=omega) only [Jv,go_sem,Ab]
 refine go_loop (α:=Int × (List Int)) (fun a=>⟨slots 54 0 [(0,.arr (l.map by_)),(1,.int .i64 n),(6,.ptr 0 0),(7,.ptr 1 0),(9,.ref 2),(10,.int .i64 (a.1))],[.box 39 [.arr (e.map nmD),.arr (e.map viD)],.box 26 [.str x.name,.arr (x.args.map Tm.d)],.row 3 1 ((a.2).map iO)]⟩) (fun a=>∃ k:Nat,a.1=k∧k≤(x.args).length∧(a.2)=(x.args.take k).map (Tm.val l n (C8 e))) (fun a=>(x.args).length-(a.1).toNat) (0,[]) ⟨0,rfl,zK _,by rw [zT]; rfl⟩ (by simp (disch:=omega) only [go_sem,Ab]) ?_
 rintro ⟨i,acc⟩ ⟨k,hi,hk,hR⟩
 dsimp only at hi hR
 have hni:i.toNat=k:=by omega
 have hni1:(i+1).toNat=k+1:=by omega
 rcases zL k (x.args).length with hlt | hge
 ·have hg:=get_at Tm.d hlt
  rw [Tm.d_eq] at hg
  have hc:=Rb l hl hn n hn0 e he hE x.args[k] (Tm.We hx (zF hlt)) (by have:=Tm.nodes_mem (zF hlt); omega)
  have hal:acc.length=k:=by rw [hR,zG,zR]; omega
  simp (disch:=omega) only [go_sem,Ab,hni,hg,hc,CC]
  refine ⟨(i+1,acc++[x.args[k].val l n (C8 e)]),⟨k+1,by dsimp only; omega,hlt,?_⟩,by dsimp only; omega,?_⟩
  ·dsimp only
   rw [zC hlt,zE,← hR]; rfl
  ·simp (disch:=omega) only [go_sem,Ab,zE]
 ·have hR:acc=x.args.map (Tm.val l n (C8 e)):=by rw [hR,zN hge]
  have hal:acc.length=x.args.length:=by rw [hR,zG]
  unfold H7
  rw [←hR] at hmx ⊢
  by_cases hq:x.name=⟨#[61]⟩
  ·have q1:(x.name=⟨#[61]⟩)=True:=eq_true hq
   by_cases h2:x.args.length=2
   ·have q2:((acc.length:Int)=2)=True:=eq_true (by omega)
    rw [Au hq,Au h2,Bool.and_self,cond_true]
    obtain ⟨a,b,hab⟩:∃ a b,acc=[a,b]:=by
     match acc,(show acc.length=2 by omega) with
     | [a,b],_=>exact ⟨a,b,rfl⟩
    subst hab
    simp (disch:=omega) only [go_sem,Ab,q1,q2,hni,N3,HD,Le,Lf,OZ]
   ·have q2:((acc.length:Int)=2)=False:=eq_false (by omega)
    rw [Au hq,Ai h2,Bool.and_false,cond_false]
    simp (disch:=omega) only [go_sem,Ab,q1,q2,z0,hs1,hs2,hmx,Em,hni,N3,HD,Le,Lf,OZ]
  ·have q1:(x.name=⟨#[61]⟩)=False:=eq_false hq
   rw [Ai hq,zU,cond_false]
   simp (disch:=omega) only [go_sem,Ab,q1,z0,hs1,hs2,hmx,Em,hni,N3,HD,Le,Lf,OZ]
theorem Wi (l:List Int) (hl:Bytes l) (hn:l.length≤1099511627776) (n:Int) (hn0:1≤n∧n≤65535) (x:Fm) (hx:x.forms=true) (e:Ev) (he:e.length+x.nodes≤1048576) (hE:EnvOk e) (ih:∀ y∈x.parts,∀ e:Ev,e.length+y.nodes≤1048576→EnvOk e→E 13 [.arr (l.map by_),.int .i64 n,veS e,y.sv] []=some (.bool (y.vt l n (C8 e)),[])):E 13 [.arr (l.map by_),.int .i64 n,veS e,x.sv] []=some (.bool (x.vt l n (C8 e)),[]):=by
 have hne:=Fm.nodes_eq x
 have hf:=Fm.B8 hx
 have ih:∀ y∈x.parts,∀ e:Ev,e.length+1+y.nodes≤1048577→EnvOk e→E 13 [.arr (l.map by_),.int .i64 n,veS e,y.sv] []=some (.bool (y.vt l n (C8 e)),[]):=fun y hy e h1 h2=>ih y hy e (by omega) h2
 rcases Fm.IM hf with ho | ho | ho | ho | (ho | ho | ho) | ho | ho
 ·rw [Fm.TR ho]
  have o1:(x.op=1)=True:=eq_true ho
  refine Aj Bk Av (of_decide_eq_true rfl) ?_
  simp (disch:=omega) only [Bb,go_sem,Ab,o1]
 ·rw [Fm.TS ho]
  have o1:(x.op=1)=False:=eq_false (by omega)
  have o2:(x.op=2)=True:=eq_true ho
  refine Aj Bk Av (of_decide_eq_true rfl) ?_
  simp (disch:=omega) only [Bb,go_sem,Ab,o1,o2]
 ·rw [Fm.TT ho]
  have o1:(x.op=1)=False:=eq_false (by omega)
  have o2:(x.op=2)=False:=eq_false (by omega)
  have o3:(x.op=3)=True:=eq_true ho
  have h1:=Wh l hl hn n hn0 e (by omega) hE x.atom (Fm.DE hf ho).2.1 (by have:=Fm.EW hf; omega)
  refine Aj Bk Av (of_decide_eq_true rfl) ?_
  simp (disch:=omega) only [Bb,go_sem,Ab,h1,Jw,o1,o2,o3]
 ·obtain ⟨p,hp⟩:=Fm.IL hf ho
  have hpm:p∈x.parts:=by rw [hp]; simp
  have h1:=ih p hpm e (by have:=Fm.nodes_mem hpm; omega) hE
  have hg0:(x.parts.map Fm.d)[0]?=some p.d:=by rw [hp]; rfl
  rw [Fm.d_eq] at hg0
  rw [Fm.Vx ho hp]
  have o1:(x.op=1)=False:=eq_false (by omega)
  have o2:(x.op=2)=False:=eq_false (by omega)
  have o3:(x.op=3)=False:=eq_false (by omega)
  have o4:(x.op=4)=True:=eq_true ho
  refine Aj Bk Av (of_decide_eq_true rfl) ?_
  simp (disch:=omega) only [Bb,go_sem,Ab,h1,hg0,Av,o1,o2,o3,o4]
 ·obtain ⟨p,q,hp⟩:=Fm.EX hf (by omega)
  have hpm:p∈x.parts:=by rw [hp]; simp
  have hqm:q∈x.parts:=by rw [hp]; simp
  have h1:=ih p hpm e (by have:=Fm.nodes_mem hpm; omega) hE
  have h2:=ih q hqm e (by have:=Fm.nodes_mem hqm; omega) hE
  rw [Fm.Ko (by omega) hp]
  unfold Fn
  have hg0:(x.parts.map Fm.d)[0]?=some p.d:=by rw [hp]; rfl
  have hg1:(x.parts.map Fm.d)[1]?=some q.d:=by rw [hp]; rfl
  rw [Fm.d_eq] at hg0 hg1
  have o1:(x.op=1)=False:=eq_false (by omega)
  have o2:(x.op=2)=False:=eq_false (by omega)
  have o3:(x.op=3)=False:=eq_false (by omega)
  have o4:(x.op=4)=False:=eq_false (by omega)
  have o5:(x.op=5)=True:=eq_true ho
  cases hb1:p.vt l n (C8 e) with
  | true =>
   rw [hb1] at h1
   cases hb2:q.vt l n (C8 e) with
   | true =>
    rw [hb2] at h2
    refine Aj Bk Av (of_decide_eq_true rfl) ?_
    simp (disch:=omega) only [Bb,go_sem,Ab,o1,o2,o3,o4,o5,h1,h2,hg0,hg1,Av]
   | false =>
    rw [hb2] at h2
    refine Aj Bk Av (of_decide_eq_true rfl) ?_
    simp (disch:=omega) only [Bb,go_sem,Ab,o1,o2,o3,o4,o5,h1,h2,hg0,hg1,Av]
  | false =>
   rw [hb1] at h1
   cases hb2:q.vt l n (C8 e) with
   | true =>
    rw [hb2] at h2
    refine Aj Bk Av (of_decide_eq_true rfl) ?_
    simp (disch:=omega) only [Bb,go_sem,Ab,o1,o2,o3,o4,o5,h1,h2,hg0,hg1,Av]
   | false =>
    rw [hb2] at h2
    refine Aj Bk Av (of_decide_eq_true rfl) ?_
    simp (disch:=omega) only [Bb,go_sem,Ab,o1,o2,o3,o4,o5,h1,h2,hg0,hg1,Av]
 ·obtain ⟨p,q,hp⟩:=Fm.EX hf (by omega)
  have hpm:p∈x.parts:=by rw [hp]; simp
  have hqm:q∈x.parts:=by rw [hp]; simp
  have h1:=ih p hpm e (by have:=Fm.nodes_mem hpm; omega) hE
  have h2:=ih q hqm e (by have:=Fm.nodes_mem hqm; omega) hE
  rw [Fm.Ko (by omega) hp]
  unfold Fn
  have hg0:(x.parts.map Fm.d)[0]?=some p.d:=by rw [hp]; rfl
  have hg1:(x.parts.map Fm.d)[1]?=some q.d:=by rw [hp]; rfl
  rw [Fm.d_eq] at hg0 hg1
  have o1:(x.op=1)=False:=eq_false (by omega)
  have o2:(x.op=2)=False:=eq_false (by omega)
  have o3:(x.op=3)=False:=eq_false (by omega)
  have o4:(x.op=4)=False:=eq_false (by omega)
  have o5:(x.op=5)=False:=eq_false (by omega)
  have o6:(x.op=6)=True:=eq_true ho
  cases hb1:p.vt l n (C8 e) with
  | true =>
   rw [hb1] at h1
   cases hb2:q.vt l n (C8 e) with
   | true =>
    rw [hb2] at h2
    refine Aj Bk Av (of_decide_eq_true rfl) ?_
    simp (disch:=omega) only [Bb,go_sem,Ab,o1,o2,o3,o4,o5,o6,h1,h2,hg0,hg1,Av]
   | false =>
    rw [hb2] at h2
    refine Aj Bk Av (of_decide_eq_true rfl) ?_
    simp (disch:=omega) only [Bb,go_sem,Ab,o1,o2,o3,o4,o5,o6,h1,h2,hg0,hg1,Av]
  | false =>
   rw [hb1] at h1
   cases hb2:q.vt l n (C8 e) with
   | true =>
    rw [hb2] at h2
    refine Aj Bk Av (of_decide_eq_true rfl) ?_
    simp (disch:=omega) only [Bb,go_sem,Ab,o1,o2,o3,o4,o5,o6,h1,h2,hg0,hg1,Av]
   | false =>
    rw [hb2] at h2
    refine Aj Bk Av (of_decide_eq_true rfl) ?_
    simp (disch:=omega) only [Bb,go_sem,Ab,o1,o2,o3,o4,o5,o6,h1,h2,hg0,hg1,Av]
 ·obtain ⟨p,q,hp⟩:=Fm.EX hf (by omega)
  have hpm:p∈x.parts:=by rw [hp]; simp
  have hqm:q∈x.parts:=by rw [hp]; simp
  have h1:=ih p hpm e (by have:=Fm.nodes_mem hpm; omega) hE
  have h2:=ih q hqm e (by have:=Fm.nodes_mem hqm; omega) hE
  rw [Fm.Ko (by omega) hp]
  unfold Fn
  have hg0:(x.parts.map Fm.d)[0]?=some p.d:=by rw [hp]; rfl
  have hg1:(x.parts.map Fm.d)[1]?=some q.d:=by rw [hp]; rfl
  rw [Fm.d_eq] at hg0 hg1
  have o1:(x.op=1)=False:=eq_false (by omega)
  have o2:(x.op=2)=False:=eq_false (by omega)
  have o3:(x.op=3)=False:=eq_false (by omega)
  have o4:(x.op=4)=False:=eq_false (by omega)
  have o5:(x.op=5)=False:=eq_false (by omega)
  have o6:(x.op=6)=False:=eq_false (by omega)
  have o7:(x.op=7)=True:=eq_true ho
  cases hb1:p.vt l n (C8 e) with
  | true =>
   rw [hb1] at h1
   cases hb2:q.vt l n (C8 e) with
   | true =>
    rw [hb2] at h2
    refine Aj Bk Av (of_decide_eq_true rfl) ?_
    simp (disch:=omega) only [Bb,go_sem,Ab,o1,o2,o3,o4,o5,o6,o7,h1,h2,hg0,hg1,Av]
   | false =>
    rw [hb2] at h2
    refine Aj Bk Av (of_decide_eq_true rfl) ?_
    simp (disch:=omega) only [Bb,go_sem,Ab,o1,o2,o3,o4,o5,o6,o7,h1,h2,hg0,hg1,Av]
  | false =>
   rw [hb1] at h1
   cases hb2:q.vt l n (C8 e) with
   | true =>
    rw [hb2] at h2
    refine Aj Bk Av (of_decide_eq_true rfl) ?_
    simp (disch:=omega) only [Bb,go_sem,Ab,o1,o2,o3,o4,o5,o6,o7,h1,h2,hg0,hg1,Av]
   | false =>
    rw [hb2] at h2
    refine Aj Bk Av (of_decide_eq_true rfl) ?_
    simp (disch:=omega) only [Bb,go_sem,Ab,o1,o2,o3,o4,o5,o6,o7,h1,h2,hg0,hg1,Av]
 ·obtain ⟨_,p,hp⟩:=Fm.Dm hf (by unfold qB; rw [ho]; rw [Au rfl]; rfl)
  have hpm:p∈x.parts:=by rw [hp]; simp
  have hg0:(x.parts.map Fm.d)[0]?=some p.d:=by rw [hp]; rfl
  rw [Fm.d_eq] at hg0
  rw [Fm.NJ (by omega) hp]
  have o1:(x.op=1)=False:=eq_false (by omega)
  have o2:(x.op=2)=False:=eq_false (by omega)
  have o3:(x.op=3)=False:=eq_false (by omega)
  have o4:(x.op=4)=False:=eq_false (by omega)
  have o5:(x.op=5)=False:=eq_false (by omega)
  have o6:(x.op=6)=False:=eq_false (by omega)
  have o7:(x.op=7)=False:=eq_false (by omega)
  have o8:(x.op=8)=True:=eq_true ho
  have o9:(x.op=9)=False:=eq_false (by omega)
  obtain ⟨rg,hrg⟩:∃ rg,rg=zP n.toNat:=⟨_,rfl⟩
  have hrl:rg.length=n.toNat:=by rw [hrg,z7]
  refine Aj Bk Av (of_decide_eq_true rfl) ?_
  simp (disch:=omega) only [Bb,go_sem,Ab,o1,o2,o3,o4,o5,o6,o7]
  refine go_loop (α:=Int) (fun a=>⟨slots 123 0 [(0,.arr (l.map by_)),(1,.int .i64 n),(6,.ptr 0 0),(7,.ptr 1 0),(9,.int .i64 a)],[.box 39 [.arr (e.map nmD),.arr (e.map viD)],.box 29 [.int .i64 x.op,.str x.atom.name,.arr (x.atom.args.map Tm.d),.str x.var,.arr (x.parts.map Fm.d)]]⟩) (fun a=>∃ k:Nat,a=k∧k≤(rg).length∧((rg.drop k).all fun k=>p.vt l n (upE (C8 e) x.var (k:Nat)))=Fo x.op n fun k=>p.vt l n (upE (C8 e) x.var k)) (fun a=>(rg).length-(a).toNat) 0 ⟨0,rfl,zK _,by rw [zW,hrg]; unfold Fo; rw [Au ho]; rfl⟩ (by simp (disch:=omega) only [go_sem,Ab]) ?_
  rintro i ⟨k,hi,hk,hR⟩
  have hni:i.toNat=k:=by omega
  have hni1:(i+1).toNat=k+1:=by omega
  rcases zL k (rg).length with hlt | hge
  ·have q1:(i<n)=True:=eq_true (by omega)
   have hk2:rg[k]=k:=by subst hrg; rw [zY]
   have hd:rg.drop k=k :: rg.drop (k+1):=by rw [z6 hlt,hk2]
   have hw:=Iy e (by omega) x.var i
   have hc:=ih p hpm (e++[(x.var,i)]) (by rw [List.length_append,List.length_singleton]; have:=Fm.nodes_mem hpm; omega) (hE.snoc (by omega) (by omega))
   rw [Lg] at hc
   rw [hd,List.all_cons,← hi] at hR
   cases hb:p.vt l n (upE (C8 e) x.var i) with
   | false =>
    rw [hb] at hc hR
    simp (disch:=omega) only [go_sem,Ab,q1,hw,hc,hg0,o8,o9,yA,zZ,AU,Av]
    exact hR
   | true =>
    rw [hb] at hc hR
    simp (disch:=omega) only [go_sem,Ab,q1,hw,hc,hg0,o8,o9,yA,zZ,AU,Av]
    exact ⟨i+1,⟨k+1,by omega,hlt,hR⟩,by omega,by first | trivial | rfl | exact ⟨rfl,rfl⟩⟩
  ·have q1:(i<n)=False:=eq_false (by omega)
   rw [List.drop_eq_nil_of_le hge] at hR
   simp (disch:=omega) only [go_sem,Ab,q1,o8,o9]
   exact hR
 ·obtain ⟨_,p,hp⟩:=Fm.Dm hf (by unfold qB; rw [ho]; rw [Ai (by omega),Au rfl]; rfl)
  have hpm:p∈x.parts:=by rw [hp]; simp
  have hg0:(x.parts.map Fm.d)[0]?=some p.d:=by rw [hp]; rfl
  rw [Fm.d_eq] at hg0
  rw [Fm.NJ (by omega) hp]
  have o1:(x.op=1)=False:=eq_false (by omega)
  have o2:(x.op=2)=False:=eq_false (by omega)
  have o3:(x.op=3)=False:=eq_false (by omega)
  have o4:(x.op=4)=False:=eq_false (by omega)
  have o5:(x.op=5)=False:=eq_false (by omega)
  have o6:(x.op=6)=False:=eq_false (by omega)
  have o7:(x.op=7)=False:=eq_false (by omega)
  have o8:(x.op=8)=False:=eq_false (by omega)
  have o9:(x.op=9)=True:=eq_true ho
  obtain ⟨rg,hrg⟩:∃ rg,rg=zP n.toNat:=⟨_,rfl⟩
  have hrl:rg.length=n.toNat:=by rw [hrg,z7]
  refine Aj Bk Av (of_decide_eq_true rfl) ?_
  simp (disch:=omega) only [Bb,go_sem,Ab,o1,o2,o3,o4,o5,o6,o7]
  refine go_loop (α:=Int) (fun a=>⟨slots 123 0 [(0,.arr (l.map by_)),(1,.int .i64 n),(6,.ptr 0 0),(7,.ptr 1 0),(9,.int .i64 a)],[.box 39 [.arr (e.map nmD),.arr (e.map viD)],.box 29 [.int .i64 x.op,.str x.atom.name,.arr (x.atom.args.map Tm.d),.str x.var,.arr (x.parts.map Fm.d)]]⟩) (fun a=>∃ k:Nat,a=k∧k≤(rg).length∧((rg.drop k).any fun k=>p.vt l n (upE (C8 e) x.var (k:Nat)))=Fo x.op n fun k=>p.vt l n (upE (C8 e) x.var k)) (fun a=>(rg).length-(a).toNat) 0 ⟨0,rfl,zK _,by rw [zW,hrg]; unfold Fo; rw [Ai (by omega)]; rfl⟩ (by simp (disch:=omega) only [go_sem,Ab]) ?_
  rintro i ⟨k,hi,hk,hR⟩
  have hni:i.toNat=k:=by omega
  have hni1:(i+1).toNat=k+1:=by omega
  rcases zL k (rg).length with hlt | hge
  ·have q1:(i<n)=True:=eq_true (by omega)
   have hk2:rg[k]=k:=by subst hrg; rw [zY]
   have hd:rg.drop k=k :: rg.drop (k+1):=by rw [z6 hlt,hk2]
   have hw:=Iy e (by omega) x.var i
   have hc:=ih p hpm (e++[(x.var,i)]) (by rw [List.length_append,List.length_singleton]; have:=Fm.nodes_mem hpm; omega) (hE.snoc (by omega) (by omega))
   rw [Lg] at hc
   rw [hd,List.any_cons,← hi] at hR
   cases hb:p.vt l n (upE (C8 e) x.var i) with
   | true =>
    rw [hb] at hc hR
    simp (disch:=omega) only [go_sem,Ab,q1,hw,hc,hg0,o8,o9,yA,zZ,AU,Av]
    exact hR
   | false =>
    rw [hb] at hc hR
    simp (disch:=omega) only [go_sem,Ab,q1,hw,hc,hg0,o8,o9,yA,zZ,AU,Av]
    exact ⟨i+1,⟨k+1,by omega,hlt,hR⟩,by omega,by first | trivial | rfl | exact ⟨rfl,rfl⟩⟩
  ·have q1:(i<n)=False:=eq_false (by omega)
   rw [List.drop_eq_nil_of_le hge] at hR
   simp (disch:=omega) only [go_sem,Ab,q1,o8,o9]
   exact hR
theorem IQ (l:List Int) (hl:Bytes l) (hn:l.length≤1099511627776) (n:Int) (hn0:1≤n∧n≤65535) (x:Fm) (hx:x.forms=true) (e:Ev) (he:e.length+x.nodes≤1048576) (hE:EnvOk e):E 13 [.arr (l.map by_),.int .i64 n,veS e,x.sv] []=some (.bool (x.vt l n (C8 e)),[]) :=
 Wi l hl hn n hn0 x hx e he hE fun y hy e h1 h2=>IQ l hl hn n hn0 y (Fm.BE hx hy) e h1 h2
termination_by SizeOf.sizeOf x
decreasing_by exact Fm.lt_of_mem hy
def EA:SC:=(.seq (.reg [⟨some 1,none,.boxv 29 5 (.t 0)⟩,⟨some 2,none,.mv (.c (.bool false))⟩]) (.seq (.reg [⟨some 3,none,.load true 5 (.t 1)⟩,⟨some 4,none,.call 20 [(.t 3)]⟩,⟨some 2,none,.mv (.t 4)⟩]) .ret))
theorem HQ:codeOf Tryz.prog 9=some ⟨5,EA,[(.tmp 2)]⟩:=by kernel_rfl
theorem AQ:modes 9=⟨[],.asis,none,false⟩:=by unfold modes; rfl
theorem Iz (x:Fm) (ht:x.tame) (hn:x.nodes≤1099511627776):E 9 [x.sv] []=some (.bool x.valid,[]):=by
 have h:=Nt x ht hn
 refine Aj HQ AQ (of_decide_eq_true rfl) ?_
 simp (disch:=omega) only [EA,go_sem,Ab,h,Dz]
def Dd:SC:=(.seq (.reg [⟨some 1,none,.boxv 29 5 (.t 0)⟩,⟨some 2,none,.mv (.c (.bool false))⟩,⟨some 3,none,.mv (.c (.bool false))⟩]) (.seq (.seq (.reg [⟨some 4,none,.load true 5 (.t 1)⟩,⟨some 5,none,.call 16 [(.t 4)]⟩,⟨some 6,none,.un .not (.t 5)⟩]) (.cond (.t 6) (.seq (.reg [⟨some 2,none,.mv (.c (.bool false))⟩,⟨some 3,none,.mv (.c (.bool false))⟩]) .ret) .skip)) (.seq (.reg [⟨some 7,none,.load true 5 (.t 1)⟩,⟨some 8,none,.call 24 [(.t 7)]⟩,⟨some 2,none,.mv (.t 8)⟩,⟨some 3,none,.mv (.c (.bool true))⟩]) .ret)))
theorem En:codeOf Tryz.prog 14=some ⟨9,Dd,[(.tmp 2),(.tmp 3)]⟩:=by kernel_rfl
theorem AF:modes 14=⟨[],.asis,none,false⟩:=by unfold modes; rfl
theorem E6 (x:Fm) (ht:x.tame) (hn:x.nodes≤1099511627776):E 14 [x.sv] []=some (.tup [.bool (x.valid&&x.isN),.bool x.valid],[]):=by
 have h:=Cr x ht hn
 cases hv:x.valid with
 | false =>
  rw [hv] at h
  rw [zU]
  refine Aj En AF (of_decide_eq_true rfl) ?_
  simp (disch:=omega) only [Dd,go_sem,Ab,h,AH]
 | true =>
  rw [hv] at h
  rw [zV]
  have h2:=Gj x (DA hv).2 hn
  refine Aj En AF (of_decide_eq_true rfl) ?_
  simp (disch:=omega) only [Dd,go_sem,Ab,h,h2,AH,BJ]
def DL:SC:=(.seq (.reg [⟨(some 2),none,(.alloc 29 [(.int .i64 0),(.str ⟨#[]⟩),.nil,(.str ⟨#[]⟩),.nil])⟩]) (.seq (.reg [⟨some 4,none,.mv (.t 0)⟩,⟨some 5,none,.build [.nil,(.int .i64 0),(.int .u64 0)] [(0,(1,(.t 4)))]⟩,⟨some 6,none,.boxv 51 3 (.t 5)⟩,⟨some 3,none,.mv (.t 6)⟩]) (.seq (.reg [⟨some 7,none,.mv (.t 3)⟩,⟨some 8,none,.call 25 [(.t 7)]⟩,⟨none,none,(.store 5 (.t 2) (.t 8))⟩]) .ret)))
theorem Gr:codeOf Tryz.prog 15=some ⟨9,DL,[(.cell 2 true 5)]⟩:=by kernel_rfl
theorem DM:modes 15=⟨[],.frz,none,false⟩:=by unfold modes; rfl
theorem I1 (l:List Int) (hl:Bytes l) (hn:l.length≤1099511627776):∃ x:Fm,E 15 [.arr (l.map by_)] []=some (x.sv,[])∧x.tame∧x.nodes≤100:=by
 obtain ⟨Q,hQ⟩:∃ Q:SV × List Ob→Prop,Q=fun out=>∃ x,out=(Fm.sv x,[])∧x.tame∧x.nodes≤100:=⟨_,rfl⟩
 suffices hq0:∃ out,E 15 [.arr (l.map by_)] []=some out∧Q out by
  obtain ⟨out,hq1,hq2⟩:=hq0
  rw [hQ] at hq2
  obtain ⟨x,rfl,hq3⟩:=hq2
  exact ⟨x,hq1,hq3⟩
 obtain ⟨x,p1,s1,hx,⟨g1,g2⟩,g3,hta⟩:=PB l hl hn 0 0 (by omega) (by omega)
 have hxs:x.sv=.agg [.int .i64 x.op,.str x.atom.name,.arr (x.atom.args.map Tm.d),.str x.var,.arr (x.parts.map Fm.d)]:=rfl
 refine AV Gr DM (of_decide_eq_true rfl) ?_
 simp (disch:=omega) only [DL,go_sem,Ab,hx,AX]
 rw [hQ]
 exact ⟨x,rfl,hta,g3⟩
def Dj:SC:=(.seq (.reg [⟨(some 2),none,(.alloc 29 [(.int .i64 0),(.str ⟨#[]⟩),.nil,(.str ⟨#[]⟩),.nil])⟩]) (.seq (.reg [⟨some 3,none,.mv (.t 0)⟩,⟨some 4,none,.call 15 [(.t 3)]⟩,⟨none,none,(.store 5 (.t 2) (.t 4))⟩]) .ret))
theorem Ft:codeOf Tryz.prog 5=some ⟨5,Dj,[(.cell 2 true 5)]⟩:=by kernel_rfl
theorem A5:modes 5=⟨[],.frz,none,false⟩:=by unfold modes; rfl
theorem GI (l:List Int) (hl:Bytes l) (hn:l.length≤1099511627776):∃ x:Fm,E 5 [.arr (l.map by_)] []=some (x.sv,[])∧x.tame∧x.nodes≤100:=by
 obtain ⟨x,h1,h2,h3⟩:=I1 l hl hn
 refine ⟨x,?_,h2,h3⟩
 refine Aj Ft A5 (of_decide_eq_true rfl) ?_
 simp (disch:=omega) only [Dj,go_sem,Ab,h1,DM]
def LE:SC:=(.seq (.reg [⟨some 2,none,.mv (.c (.bool false))⟩]) (.seq (.reg [⟨some 3,none,.mv (.t 0)⟩,⟨some 4,none,.len false (.t 3)⟩,⟨some 5,none,.bin .gtr false (.t 4) (.c (.int .i64 65536))⟩,⟨some 2,none,.mv (.t 5)⟩]) .ret))
theorem Rc:codeOf Tryz.prog 4=some ⟨6,LE,[(.tmp 2)]⟩:=by kernel_rfl
theorem C2:modes 4=⟨[],.asis,none,false⟩:=by unfold modes; rfl
def C3:SC:=(.seq (.reg [⟨some 2,none,.mv (.c (.bool false))⟩]) (.seq (.seq (.reg [⟨some 16,none,.mv (.t 0)⟩,⟨some 17,none,.call 4 [(.t 16)]⟩]) (.cond (.t 17) (.seq (.reg [⟨some 2,none,.mv (.c (.bool true))⟩]) .ret) .skip)) (.seq (.reg [⟨some 18,none,.mv (.t 0)⟩,⟨some 19,none,.call 5 [(.t 18)]⟩,⟨(some 3),none,(.alloc 29 [(.int .i64 0),(.str ⟨#[]⟩),.nil,(.str ⟨#[]⟩),.nil])⟩,⟨none,none,(.store 5 (.t 3) (.t 19))⟩]) (.seq (.reg [⟨some 21,none,.load true 5 (.t 3)⟩,⟨some 22,none,.call 6 [(.t 21)]⟩,⟨some 20,none,.mv (.t 22)⟩,⟨some 23,none,.ext (.t 20) 0⟩,⟨some 24,none,.ext (.t 20) 1⟩,⟨(some 4),none,(.alloc 29 [(.int .i64 0),(.str ⟨#[]⟩),.nil,(.str ⟨#[]⟩),.nil])⟩,⟨none,none,(.store 5 (.t 4) (.t 23))⟩,⟨some 5,none,.mv (.t 24)⟩]) (.seq (.reg [⟨some 26,none,.load true 5 (.t 3)⟩,⟨some 27,none,.call 7 [(.t 26)]⟩,⟨some 25,none,.mv (.t 27)⟩,⟨some 28,none,.ext (.t 25) 0⟩,⟨some 29,none,.ext (.t 25) 1⟩,⟨(some 6),none,(.alloc 29 [(.int .i64 0),(.str ⟨#[]⟩),.nil,(.str ⟨#[]⟩),.nil])⟩,⟨none,none,(.store 5 (.t 6) (.t 28))⟩,⟨some 7,none,.mv (.t 29)⟩]) (.seq (.seq (.reg [⟨some 31,none,.load true 5 (.t 3)⟩,⟨some 32,none,.call 8 [(.t 31)]⟩,⟨some 30,none,.mv (.t 32)⟩,⟨some 33,none,.ext (.t 30) 0⟩,⟨some 34,none,.ext (.t 30) 1⟩,⟨(some 8),none,(.alloc 29 [(.int .i64 0),(.str ⟨#[]⟩),.nil,(.str ⟨#[]⟩),.nil])⟩,⟨none,none,(.store 5 (.t 8) (.t 33))⟩,⟨some 9,none,.mv (.t 34)⟩]) (.seq (.reg [⟨some 35,none,.mv (.t 5)⟩,⟨some 36,none,.mv (.t 9)⟩,⟨some 37,none,.bin .neq true (.t 35) (.t 36)⟩,⟨some 38,none,.mv (.t 37)⟩,⟨(some 39),(some (38,false)),(.mv (.t 7))⟩,⟨(some 40),(some (38,false)),(.load true 5 (.t 3))⟩,⟨(some 41),(some (38,false)),(.call 9 [(.t 40)])⟩,⟨(some 42),(some (38,false)),(.bin .neq true (.t 39) (.t 41))⟩,⟨some 43,none,.pick (.t 38) (.c (.bool true)) (.t 42)⟩]) (.cond (.t 43) (.seq (.reg [⟨some 2,none,.mv (.c (.bool false))⟩]) .ret) .skip))) (.seq (.seq (.reg [⟨some 44,none,.mv (.t 7)⟩,⟨some 45,none,.un .not (.t 44)⟩]) (.cond (.t 45) (.seq (.reg [⟨some 46,none,.faddr 0 (.t 6)⟩,⟨some 47,none,.load false 1 (.t 46)⟩,⟨some 48,none,.bin .eql false (.t 47) (.c (.int .i64 0))⟩,⟨some 49,none,.mv (.t 48)⟩,⟨(some 50),(some (49,true)),(.faddr 0 (.t 4))⟩,⟨(some 51),(some (49,true)),(.load false 1 (.t 50))⟩,⟨(some 52),(some (49,true)),(.bin .eql false (.t 51) (.c (.int .i64 0)))⟩,⟨some 53,none,.pick (.t 49) (.t 52) (.c (.bool false))⟩,⟨some 2,none,.mv (.t 53)⟩]) .ret) .skip)) (.seq (.reg [⟨some 55,none,.load true 5 (.t 3)⟩,⟨some 56,none,.load true 5 (.t 6)⟩,⟨some 57,none,.call 10 [(.t 55),(.t 56)]⟩,⟨some 54,none,.mv (.t 57)⟩,⟨some 58,none,.ext (.t 54) 0⟩,⟨some 59,none,.ext (.t 54) 1⟩,⟨some 10,none,.mv (.t 58)⟩,⟨some 11,none,.mv (.t 59)⟩]) (.seq (.seq (.reg [⟨some 60,none,.mv (.t 10)⟩,⟨some 61,none,.un .not (.t 60)⟩,⟨some 62,none,.mv (.t 61)⟩,⟨(some 63),(some (62,false)),(.mv (.t 11))⟩,⟨(some 64),(some (62,false)),(.un .not (.t 63))⟩,⟨some 65,none,.pick (.t 62) (.c (.bool true)) (.t 64)⟩]) (.cond (.t 65) (.seq (.reg [⟨some 2,none,.mv (.c (.bool false))⟩]) .ret) .skip)) (.seq (.seq (.reg [⟨some 12,none,.mv (.c (.int .i64 1))⟩]) (.block 0 (.loop [1,0,0,1,1,1,1,0,0,0,0,0,1,0,0,0,0,0,0,0,0,0,0,0,0,0,0,0,0,0,0,0,0,0,0,0,0,0,0,0,0,0,0,0,0,0,0,0,0,0,0,0,0,0,0,0,0,0,0,0,0,0,0,0,0,0,0,0,0,0,0,0,0,0,0,0,0,0,0,0,0,0,0,0,0,0,0,0,0,0,0,0,0,0,0,0,0,0,0,0,0,0,0,0,0,0,0,0,0,0,0,0,0,0,0,0,0,0,0,0,0,0,0,0,0,0] (.seq (.seq (.reg [⟨some 66,none,.mv (.t 12)⟩,⟨some 67,none,.bin .lss false (.t 66) (.c (.int .i64 3))⟩]) (.cond (.t 67) .skip (.exit 0))) (.seq (.block 1 (.seq (.reg [⟨some 70,none,.build [.nil,.nil] []⟩,⟨some 71,none,.mv (.t 0)⟩,⟨some 72,none,.call 12 [(.t 71),(.c (.int .i64 1))]⟩,⟨some 73,none,.mv (.t 12)⟩,⟨some 74,none,.bin .rem false (.t 72) (.t 73)⟩,⟨(some 75),none,(.call 11 [(.t 70),(.c (.str ⟨#[88]⟩)),(.t 74)])⟩,⟨some 76,none,.mv (.t 0)⟩,⟨some 77,none,.call 12 [(.t 76),(.c (.int .i64 2))]⟩,⟨some 78,none,.mv (.t 12)⟩,⟨some 79,none,.bin .rem false (.t 77) (.t 78)⟩,⟨(some 80),none,(.call 11 [(.t 75),(.c (.str ⟨#[89]⟩)),(.t 79)])⟩,⟨some 81,none,.mv (.t 0)⟩,⟨some 82,none,.call 12 [(.t 81),(.c (.int .i64 3))]⟩,⟨some 83,none,.mv (.t 12)⟩,⟨some 84,none,.bin .rem false (.t 82) (.t 83)⟩,⟨(some 85),none,(.call 11 [(.t 80),(.c (.str ⟨#[90]⟩)),(.t 84)])⟩,⟨some 13,none,.alloc 39 [.nil,.nil]⟩,⟨none,none,(.store 2 (.t 13) (.t 85))⟩]) (.seq (.dreg [[],[0],[1,0],[1,0],[1,0],[1,0],[2,1,0,3,4,5],[1,0],[1,0],[1,0],[1,0],[7,1,0,8,9,10,6,2,3,4,5],[6,2,1,0,3,4,5,11,7,8,9,10],[1,0,12,6,2,3,4,5,11,7,8,9,10],[13,1,0,12,6,2,3,4,5,11,7,8,9,10],[14,13,1,0,12,6,2,3,4,5,11,7,8,9,10],[14,13,1,0,12,6,2,3,4,5,11,7,8,9,10],[14,13,1,0,12,6,2,3,4,5,11,7,8,9,10],[14,13,1,0,12,6,2,3,4,5,11,7,8,9,10],[15,14,13,1,0,12,6,2,3,4,5,11,7,8,9,10,16,17,18],[14,13,1,0,12,6,2,3,4,5,11,7,8,9,10],[14,13,1,0,12,6,2,3,4,5,11,7,8,9,10],[14,13,1,0,12,6,2,3,4,5,11,7,8,9,10],[14,13,1,0,12,6,2,3,4,5,11,7,8,9,10],[20,14,13,1,0,12,6,2,3,4,5,11,7,8,9,10,21,22,23,19,15,16,17,18],[19,15,14,13,1,0,12,6,2,3,4,5,11,7,8,9,10,16,17,18,24,20,21,22,23],[14,13,1,0,12,6,2,3,4,5,11,7,8,9,10,25,19,15,16,17,18,24,20,21,22,23]] [⟨some 86,none,.mv (.t 5)⟩,⟨some 87,none,.mv (.t 86)⟩,⟨(some 88),(some (87,true)),(.mv (.t 0))⟩,⟨(some 89),(some (87,true)),(.mv (.t 12))⟩,⟨(some 90),(some (87,true)),(.load true 2 (.t 13))⟩,⟨(some 91),(some (87,true)),(.load true 5 (.t 3))⟩,⟨(some 92),(some (87,true)),(.call 13 [(.t 88),(.t 89),(.t 90),(.t 91)])⟩,⟨(some 93),(some (87,true)),(.mv (.t 0))⟩,⟨(some 94),(some (87,true)),(.mv (.t 12))⟩,⟨(some 95),(some (87,true)),(.load true 2 (.t 13))⟩,⟨(some 96),(some (87,true)),(.load true 5 (.t 4))⟩,⟨(some 97),(some (87,true)),(.call 13 [(.t 93),(.t 94),(.t 95),(.t 96)])⟩,⟨(some 98),(some (87,true)),(.bin .neq true (.t 92) (.t 97))⟩,⟨some 99,none,.pick (.t 87) (.t 98) (.c (.bool false))⟩,⟨some 100,none,.mv (.t 99)⟩,⟨(some 101),(some (100,false)),(.mv (.t 0))⟩,⟨(some 102),(some (100,false)),(.mv (.t 12))⟩,⟨(some 103),(some (100,false)),(.load true 2 (.t 13))⟩,⟨(some 104),(some (100,false)),(.load true 5 (.t 3))⟩,⟨(some 105),(some (100,false)),(.call 13 [(.t 101),(.t 102),(.t 103),(.t 104)])⟩,⟨(some 106),(some (100,false)),(.mv (.t 0))⟩,⟨(some 107),(some (100,false)),(.mv (.t 12))⟩,⟨(some 108),(some (100,false)),(.load true 2 (.t 13))⟩,⟨(some 109),(some (100,false)),(.load true 5 (.t 6))⟩,⟨(some 110),(some (100,false)),(.call 13 [(.t 106),(.t 107),(.t 108),(.t 109)])⟩,⟨(some 111),(some (100,false)),(.bin .neq true (.t 105) (.t 110))⟩,⟨some 112,none,.pick (.t 100) (.c (.bool true)) (.t 111)⟩]) (.cond (.t 112) (.seq (.reg [⟨some 2,none,.mv (.c (.bool false))⟩]) .ret) .skip)))) (.reg [⟨some 68,none,.mv (.t 12)⟩,⟨some 69,none,.bin .add false (.t 68) (.c (.int .i64 1))⟩,⟨some 12,none,.mv (.t 69)⟩])))))) (.seq (.reg [⟨some 114,none,.load true 5 (.t 4)⟩,⟨some 115,none,.call 14 [(.t 114)]⟩,⟨some 113,none,.mv (.t 115)⟩,⟨some 116,none,.ext (.t 113) 0⟩,⟨some 117,none,.ext (.t 113) 1⟩,⟨some 14,none,.mv (.t 116)⟩,⟨some 15,none,.mv (.t 117)⟩]) (.seq (.reg [⟨some 118,none,.mv (.t 5)⟩,⟨some 119,none,.un .not (.t 118)⟩,⟨some 120,none,.mv (.t 119)⟩,⟨(some 121),(some (120,false)),(.mv (.t 14))⟩,⟨(some 122),(some (120,false)),(.mv (.t 121))⟩,⟨(some 123),(some (122,true)),(.mv (.t 15))⟩,⟨(some 124),(some (120,false)),(.pick (.t 122) (.t 123) (.c (.bool false)))⟩,⟨some 125,none,.pick (.t 120) (.c (.bool true)) (.t 124)⟩,⟨some 2,none,.mv (.t 125)⟩]) .ret))))))))))))
theorem CP:codeOf Tryz.prog 3=some ⟨126,C3,[(.tmp 2)]⟩:=by kernel_rfl
theorem CQ:modes 3=⟨[],.asis,none,false⟩:=by unfold modes; rfl
theorem XA (l:List Int):E 4 [.arr (l.map by_)] []=some (.bool (dec (65536<(l.length:Int))),[]):=by
 refine Aj Rc C2 (of_decide_eq_true rfl) ?_
 simp (disch:=omega) only [LE,go_sem,Ab]
theorem Wj {x:Fm} (h:x.valid=false):Ku x=false∧Nm x=Fm.zero:=by
 have e:Ku x=false:=by unfold Ku; rw [h]; rfl
 exact ⟨e,by unfold Nm; rw [e]; rfl⟩
theorem Uh {x:Fm} (h:x.valid=true):Ku x=true∧Nm x=Kt x:=by
 have e:Ku x=true:=by unfold Ku; rw [h,Nr h]; rfl
 exact ⟨e,by unfold Nm; rw [e]; rfl⟩
theorem Rd {x:Fm} (h:Im x=false):Ks x=Fm.zero:=by unfold Ks; rw [h]; rfl
theorem Ui {x:Fm} (h:Im x=true):Ks x=x.nnf true∧(x.nnf true).valid=true:=by
 have h0:=h
 unfold Im at h
 rw [zB] at h
 exact ⟨by unfold Ks; rw [h0]; rfl,h.2⟩
theorem Fm.Li:Fm.zero.tame∧Fm.zero.nodes≤100∧Fm.zero.valid=false:=by
 refine ⟨?_,?_,?_⟩
 ·rw [Fm.H3]
  refine ⟨?_,?_⟩
  ·show (Tm.mk ⟨#[]⟩ []).nodes≤_
   rw [Tm.nodes_eq]; show 1+Tm.nodeS []≤_; rw [Tm.nodeS]; omega
  ·show Fm.C0 []
   rw [Fm.C0]; trivial
 ·rw [Fm.nodes_eq]; show 1+Fm.nodeS []≤_; rw [Fm.nodeS]; omega
 ·cases h:Fm.zero.valid with
  | false=>rfl
  | true =>
   have:=(DA h).2
   have h2:=Fm.B8 this
   unfold Fm.form at h2
   have e:Fm.zero.op=0:=rfl
   rw [e] at h2
   simp at h2
theorem XB (l:List Int) (hl:Bytes l):E 3 [.arr (l.map by_)] []=some (.bool true,[]):=by
 have hbig:=XA l
 by_cases hb:65536<(l.length:Int)
 ·rw [Au hb] at hbig
  refine Aj CP CQ (of_decide_eq_true rfl) ?_
  simp (disch:=omega) only [C3,go_sem,Ab,hbig,C2,Ct,Av,AU,A5,A6,A9,A7,AQ,Bt,AF,Fm.osv,Fm.obs]
 ·rw [Ai hb] at hbig
  obtain ⟨x,hd,hta,hxn⟩:=GI l hl (by omega)
  have h1:=Ix x hta (by omega)
  have h2:=HC x hta (by omega)
  have h3:=IV x hta (by omega)
  have h4:=Iz x hta (by omega)
  have hz1:Fm.zero.osv=.agg [.int .i64 0,.str ⟨#[]⟩,.ref 0,.str ⟨#[]⟩,.ref 1]:=rfl
  have hz2:Fm.zero.obs=[.row 26 2 [],.row 29 5 []]:=rfl
  have hz3:Fm.zero.sv=.agg [.int .i64 0,.str ⟨#[]⟩,.arr [],.str ⟨#[]⟩,.arr []]:=rfl
  cases hv:x.valid with
  | false =>
   obtain ⟨z1,z2⟩:=Wj hv
   have z3:Im x=false:=by unfold Im; rw [hv]; rfl
   have z4:=Rd z3
   rw [z3,z4,hz1,hz2] at h1
   rw [z3,z4,hz3] at h2
   rw [z1,z2,hz1,hz2] at h3
   rw [hv] at h4
   refine Aj CP CQ (of_decide_eq_true rfl) ?_
   simp (disch:=omega) only [C3,go_sem,Ab,hbig,hd,h1,h2,h3,h4,C2,Ct,Av,AU,A5,A6,A9,A7,AQ,Bt,AF,Fm.osv,Fm.obs]
  | true =>
   obtain ⟨z1,z2⟩:=Uh hv
   rw [z1,z2] at h3
   rw [hv] at h4
   obtain ⟨hx40,hxf⟩:=DA hv
   have hhv:=Xw hv
   have hha:=VL hv
   have hsv:=Nr hv
   obtain ⟨hst,hsn⟩:=Fm.IO x.free x hxf (fun _=>none) 0
   have e0:(x.sep x.free (fun _=>none) 0).1=Kt x:=rfl
   rw [e0] at hst hsn
   obtain ⟨h,hh⟩:∃ h,h=Kt x:=⟨_,rfl⟩
   rw [←hh] at h3 hhv hha hsv hst hsn
   have hhf:=(DA hsv).2
   have h5:=P8 x h hta hst hv hsv
   rw [hha] at h5
   cases hok:Im x with
   | false =>
    have z4:=Rd hok
    have h6:=E6 Fm.zero Fm.Li.1 (by have:=Fm.Li.2.1; omega)
    rw [Fm.Li.2.2,zU] at h6
    rw [hok,z4] at h1 h2
    obtain ⟨g,hg⟩:∃ g,g=Fm.zero:=⟨_,rfl⟩
    rw [←hg] at h1 h2 h6
    refine Aj CP CQ (of_decide_eq_true rfl) ?_
    simp (disch:=omega) only [C3,go_sem,Ab,hbig,hd,h1,h2,h3,h4,h5,C2,Ct,Av,AU,A5,A6,A9,A7,AQ,Bt,AF,Fm.osv,Fm.obs]
    refine go_loop (α:=Int) (fun i=>⟨slots 126 0 [(0,.arr (l.map by_)),(3,.ptr 0 0),(4,.ptr 1 0),(5,.bool false),(6,.ptr 2 0),(12,.int .i64 i)],[.box 29 [.int .i64 x.op,.str x.atom.name,.arr (x.atom.args.map Tm.d),.str x.var,.arr (x.parts.map Fm.d)],.box 29 [.int .i64 g.op,.str g.atom.name,.ref 3,.str g.var,.ref 4],.box 29 [.int .i64 h.op,.str h.atom.name,.ref 5,.str h.var,.ref 6],.row 26 2 (g.atom.args.map Tm.o),.row 29 5 (g.parts.map Fm.o),.row 26 2 (h.atom.args.map Tm.o),.row 29 5 (h.parts.map Fm.o)]⟩) (fun i=>1≤i∧i≤3) (fun i=>(3-i).toNat) 1 (by omega) (by simp (disch:=omega) only [go_sem,Ab]) ?_
    rintro i ⟨hi1,hi3⟩
    by_cases hlt:i<3
    ·have q1:(i<3)=True:=eq_true hlt
     have q2:(i=0)=False:=eq_false (by omega)
     have v1:=DX hl (show (0:Int)≤1 by omega)
     have v2:=DX hl (show (0:Int)≤2 by omega)
     have v3:=DX hl (show (0:Int)≤3 by omega)
     have r1:=E5 v1.1 (show 0<i by omega)
     have r2:=E5 v2.1 (show 0<i by omega)
     have r3:=E5 v3.1 (show 0<i by omega)
     have a1:=LC l hl (by omega) 1 (by omega) (by omega)
     have a2:=LC l hl (by omega) 2 (by omega) (by omega)
     have a3:=LC l hl (by omega) 3 (by omega) (by omega)
     obtain ⟨e,hee⟩:∃ e:Ev,e=[(⟨#[88]⟩,(C4 l 1).tmod i),(⟨#[89]⟩,(C4 l 2).tmod i),(⟨#[90]⟩,(C4 l 3).tmod i)]:=⟨_,rfl⟩
     have hE:EnvOk e:=by
      rw [hee]
      intro p hp
      simp only [List.mem_cons,List.not_mem_nil,or_false] at hp
      rcases hp with rfl | rfl | rfl
      ·dsimp only; omega
      ·dsimp only; omega
      ·dsimp only; omega
     have hel:e.length=3:=by rw [hee]; rfl
     have w1:E 11 [.agg [.arr [],.arr []],.str ⟨#[88]⟩,.int .i64 ((C4 l 1).tmod i)] []=some (.agg [.arr [[D.str ⟨#[88]⟩]],.arr [[D.int ((C4 l 1).tmod i)]]],[]):=Iy [] (by simp) _ _
     have w2:E 11 [.agg [.arr [[D.str ⟨#[88]⟩]],.arr [[D.int ((C4 l 1).tmod i)]]],.str ⟨#[89]⟩,.int .i64 ((C4 l 2).tmod i)] []=some (.agg [.arr [[D.str ⟨#[88]⟩],[D.str ⟨#[89]⟩]],.arr [[D.int ((C4 l 1).tmod i)],[D.int ((C4 l 2).tmod i)]]],[]):=Iy [(⟨#[88]⟩,(C4 l 1).tmod i)] (by simp) _ _
     have w3:E 11 [.agg [.arr [[D.str ⟨#[88]⟩],[D.str ⟨#[89]⟩]],.arr [[D.int ((C4 l 1).tmod i)],[D.int ((C4 l 2).tmod i)]]],.str ⟨#[90]⟩,.int .i64 ((C4 l 3).tmod i)] []=some (.agg [.arr (e.map nmD),.arr (e.map viD)],[]):=by
      rw [hee]
      exact Iy [(⟨#[88]⟩,(C4 l 1).tmod i),(⟨#[89]⟩,(C4 l 2).tmod i)] (by simp) _ _
     have c1:=IQ l hl (by omega) i (by omega) x hxf e (by omega) hE
     have c2:=IQ l hl (by omega) i (by omega) h hhf e (by omega) hE
     rw [hhv l i] at c2
     cases hb:x.vt l i (C8 e) with
     | true =>
      rw [hb] at c1 c2
      simp (disch:=omega) only [go_sem,Ab,q1,q2,a1,a2,a3,w1,w2,w3,c1,c2,C2,Ct,Av,AU,A5,A6,A9,A7,AQ,Bt,AF,Fm.osv,Fm.obs]
      exact ⟨i+1,by omega,by omega,by first | trivial | rfl | exact ⟨rfl,rfl⟩⟩
     | false =>
      rw [hb] at c1 c2
      simp (disch:=omega) only [go_sem,Ab,q1,q2,a1,a2,a3,w1,w2,w3,c1,c2,C2,Ct,Av,AU,A5,A6,A9,A7,AQ,Bt,AF,Fm.osv,Fm.obs]
      exact ⟨i+1,by omega,by omega,by first | trivial | rfl | exact ⟨rfl,rfl⟩⟩
    ·have q1:(i<3)=False:=eq_false hlt
     simp (disch:=omega) only [go_sem,Ab,q1,h6,C2,Ct,Av,AU,A5,A6,A9,A7,AQ,Bt,AF,Fm.osv,Fm.obs]
   | true =>
    obtain ⟨z4,z5⟩:=Ui hok
    obtain ⟨y1,y2⟩:=Fm.IN x hxf true
    have h6:=E6 (x.nnf true) y1 (by omega)
    rw [z5,Fm.SW x hxf true,zV] at h6
    have hgv:∀ (l:List Int) (n:Int) (E:ByteArray→Int),(x.nnf true).vt l n E=x.vt l n E:=fun l n E=>by
     rw [Fm.VA x hxf true E]
     cases x.vt l n E <;> rfl
    have hgf:=(DA z5).2
    rw [hok,z4] at h1 h2
    obtain ⟨g,hg⟩:∃ g,g=x.nnf true:=⟨_,rfl⟩
    rw [←hg] at h1 h2 h6 hgv hgf y1 y2
    refine Aj CP CQ (of_decide_eq_true rfl) ?_
    simp (disch:=omega) only [C3,go_sem,Ab,hbig,hd,h1,h2,h3,h4,h5,C2,Ct,Av,AU,A5,A6,A9,A7,AQ,Bt,AF,Fm.osv,Fm.obs]
    refine go_loop (α:=Int) (fun i=>⟨slots 126 0 [(0,.arr (l.map by_)),(3,.ptr 0 0),(4,.ptr 1 0),(5,.bool true),(6,.ptr 2 0),(12,.int .i64 i)],[.box 29 [.int .i64 x.op,.str x.atom.name,.arr (x.atom.args.map Tm.d),.str x.var,.arr (x.parts.map Fm.d)],.box 29 [.int .i64 g.op,.str g.atom.name,.ref 3,.str g.var,.ref 4],.box 29 [.int .i64 h.op,.str h.atom.name,.ref 5,.str h.var,.ref 6],.row 26 2 (g.atom.args.map Tm.o),.row 29 5 (g.parts.map Fm.o),.row 26 2 (h.atom.args.map Tm.o),.row 29 5 (h.parts.map Fm.o)]⟩) (fun i=>1≤i∧i≤3) (fun i=>(3-i).toNat) 1 (by omega) (by simp (disch:=omega) only [go_sem,Ab]) ?_
    rintro i ⟨hi1,hi3⟩
    by_cases hlt:i<3
    ·have q1:(i<3)=True:=eq_true hlt
     have q2:(i=0)=False:=eq_false (by omega)
     have v1:=DX hl (show (0:Int)≤1 by omega)
     have v2:=DX hl (show (0:Int)≤2 by omega)
     have v3:=DX hl (show (0:Int)≤3 by omega)
     have r1:=E5 v1.1 (show 0<i by omega)
     have r2:=E5 v2.1 (show 0<i by omega)
     have r3:=E5 v3.1 (show 0<i by omega)
     have a1:=LC l hl (by omega) 1 (by omega) (by omega)
     have a2:=LC l hl (by omega) 2 (by omega) (by omega)
     have a3:=LC l hl (by omega) 3 (by omega) (by omega)
     obtain ⟨e,hee⟩:∃ e:Ev,e=[(⟨#[88]⟩,(C4 l 1).tmod i),(⟨#[89]⟩,(C4 l 2).tmod i),(⟨#[90]⟩,(C4 l 3).tmod i)]:=⟨_,rfl⟩
     have hE:EnvOk e:=by
      rw [hee]
      intro p hp
      simp only [List.mem_cons,List.not_mem_nil,or_false] at hp
      rcases hp with rfl | rfl | rfl
      ·dsimp only; omega
      ·dsimp only; omega
      ·dsimp only; omega
     have hel:e.length=3:=by rw [hee]; rfl
     have w1:E 11 [.agg [.arr [],.arr []],.str ⟨#[88]⟩,.int .i64 ((C4 l 1).tmod i)] []=some (.agg [.arr [[D.str ⟨#[88]⟩]],.arr [[D.int ((C4 l 1).tmod i)]]],[]):=Iy [] (by simp) _ _
     have w2:E 11 [.agg [.arr [[D.str ⟨#[88]⟩]],.arr [[D.int ((C4 l 1).tmod i)]]],.str ⟨#[89]⟩,.int .i64 ((C4 l 2).tmod i)] []=some (.agg [.arr [[D.str ⟨#[88]⟩],[D.str ⟨#[89]⟩]],.arr [[D.int ((C4 l 1).tmod i)],[D.int ((C4 l 2).tmod i)]]],[]):=Iy [(⟨#[88]⟩,(C4 l 1).tmod i)] (by simp) _ _
     have w3:E 11 [.agg [.arr [[D.str ⟨#[88]⟩],[D.str ⟨#[89]⟩]],.arr [[D.int ((C4 l 1).tmod i)],[D.int ((C4 l 2).tmod i)]]],.str ⟨#[90]⟩,.int .i64 ((C4 l 3).tmod i)] []=some (.agg [.arr (e.map nmD),.arr (e.map viD)],[]):=by
      rw [hee]
      exact Iy [(⟨#[88]⟩,(C4 l 1).tmod i),(⟨#[89]⟩,(C4 l 2).tmod i)] (by simp) _ _
     have c1:=IQ l hl (by omega) i (by omega) x hxf e (by omega) hE
     have c2:=IQ l hl (by omega) i (by omega) h hhf e (by omega) hE
     rw [hhv l i] at c2
     have c3:=IQ l hl (by omega) i (by omega) g hgf e (by omega) hE
     rw [hgv l i] at c3
     cases hb:x.vt l i (C8 e) with
     | true =>
      rw [hb] at c1 c2
      rw [hb] at c3
      simp (disch:=omega) only [go_sem,Ab,q1,q2,a1,a2,a3,w1,w2,w3,c1,c2,c3,C2,Ct,Av,AU,A5,A6,A9,A7,AQ,Bt,AF,Fm.osv,Fm.obs]
      exact ⟨i+1,by omega,by omega,by first | trivial | rfl | exact ⟨rfl,rfl⟩⟩
     | false =>
      rw [hb] at c1 c2
      rw [hb] at c3
      simp (disch:=omega) only [go_sem,Ab,q1,q2,a1,a2,a3,w1,w2,w3,c1,c2,c3,C2,Ct,Av,AU,A5,A6,A9,A7,AQ,Bt,AF,Fm.osv,Fm.obs]
      exact ⟨i+1,by omega,by omega,by first | trivial | rfl | exact ⟨rfl,rfl⟩⟩
    ·have q1:(i<3)=False:=eq_false hlt
     simp (disch:=omega) only [go_sem,Ab,q1,h6,C2,Ct,Av,AU,A5,A6,A9,A7,AQ,Bt,AF,Fm.osv,Fm.obs]
end Go.Proofs.YtfgkiemoglcppaaGreatDoor
set_option maxRecDepth 100000
set_option linter.unusedSimpArgs false
set_option linter.unusedVariables false
set_option linter.unusedSectionVars false
namespace Go.Proofs.YtfgkiemoglcppaaGreatDoor
open Go.RowKit Go.ChangeShapes Go.WideShapes Go.ChangeAt Go.Deep
section
variable {H:Type} {enc:TypeId × Value→H} {P:Program} {w:World} {base:Nat} {spare:Nat→Bool} {held:Bool}
theorem I3 {b o k:Nat}:(⟨b,o,none⟩:Addr).add k=⟨b,o+k,none⟩:=by
 unfold Addr.add; split
 ·subst_vars; rfl
 ·rfl
theorem XC {a:Addr} {v:Value} (h:w.cell? a=some v):a.block<w.heap.size:=by
 unfold World.cell? at h
 cases hb:w.heap[a.block]? with
 | none=>rw [hb] at h; cases h
 | some o=>exact (Array.getElem?_eq_some_iff.1 hb).1
end
section
variable {H:Type} {enc:TypeId × Value→H} {w:World} {base:Nat} {spare:Nat→Bool} {held:Bool}
end
end Go.Proofs.YtfgkiemoglcppaaGreatDoor
set_option maxRecDepth 100000
set_option linter.unusedSimpArgs false
set_option linter.unusedVariables false
set_option linter.unusedSectionVars false
namespace Go.Proofs.YtfgkiemoglcppaaGreatDoor
open Go.RowKit Go.ChangeShapes Go.WideShapes Go.ChangeAt Go.Deep
section
variable {H:Type} {enc:TypeId × Value→H} {P:Program} {w:World} {base:Nat} {spare:Nat→Bool} {held:Bool}
theorem Wk {t e:TypeId} {fuel:Nat} {v:Value} {x:DataW H × List MemPlace} (sz:Nat) (hsz:P.cellsOf e=sz) (h0:0<sz) (ht:P.underlying t=some (.slice e)) (h:DataW.trod enc P w base spare held fuel t [v]=some x) :
  ∃ (a:Option Addr) (len cap:Nat) (f:Nat→Nat→Value),v=.slice a len cap∧len≤cap∧cap≤9223372036854775807∧SlA w 0 sz len f a ∧
   ∀ i,i<len→∃ n x',n<fuel∧DataW.trod enc P w base spare held n e ((zP sz).map (f i))=some x':=by
 rcases DataW.trod_slice ht h with ⟨hcs,_⟩ | ⟨a,len,cap,elems,rest,n,hf,hcs,hx,hb,hl,hm,hlen,hel,_,_⟩
 ·simp only [List.cons.injEq,and_true] at hcs
  exact ⟨none,0,0,fun _ _=>undef,hcs,Nat.le_refl _,by omega,.inl rfl,fun i hi=>absurd hi (by omega)⟩
 ·have hi:∀ i,i<len→∃ cs' x',w.cells? base (a.add (i*sz)) sz=some cs'∧DataW.trod enc P w base spare held n e cs'=some x':=by
   intro i hi
   have h1:=hel i hi
   rw [hsz,zD (by omega)] at h1
   obtain ⟨cs',h2,h3⟩:=Option.bind_eq_some_iff.1 h1
   exact ⟨cs',_,h2,h3⟩
  have hcell:∀ i j,i<len→j<sz→∃ v,w.cell? (a.add (i*sz+j))=some v:=by
   intro i j hil hj
   obtain ⟨cs',x',hc,_⟩:=hi i hil
   obtain ⟨_,hcl,hat⟩:=World.cells?_some hc
   have h1:=hat j hj
   rw [Go.Deep.add_add,zD (by omega)] at h1
   exact ⟨_,h1⟩
  simp only [List.cons.injEq,and_true] at hcs
  refine ⟨some a,len,cap,fun i j=>(w.cell? (a.add (i*sz+j))).getD undef,hcs,hl,hm,?_,?_⟩
  ·rcases zS len with h | h
   ·exact .inl h
   ·obtain ⟨v,hv⟩:=hcell 0 0 h h0
    rw [Nat.zero_mul,Nat.zero_add] at hv
    have hsp:a.spot=none:=by simpa [Addr.add] using World.cell?_spot hv
    have hlt:=XC hv
    obtain ⟨b,off,spot⟩:=a
    simp only at hsp
    subst hsp
    refine .inr ⟨b,off,rfl,zK _,by simpa [Addr.add] using hlt,fun i j hil hj=>?_⟩
    obtain ⟨v',hv'⟩:=hcell i j hil hj
    rw [I3] at hv'
    show _=some ((w.cell? ((⟨b,off,none⟩:Addr).add (i*sz+j))).getD undef)
    rw [I3,Nat.add_assoc,hv']
    rfl
  ·intro i hil
   obtain ⟨cs',x',hc,ht'⟩:=hi i hil
   obtain ⟨_,hcl,hat⟩:=World.cells?_some hc
   refine ⟨n,x',by omega,?_⟩
   have hcs':(zP sz).map (fun j=>(w.cell? (a.add (i*sz+j))).getD undef)=cs':=by
    apply List.ext_getElem?
    intro j
    by_cases hj:j<sz
    ·rw [List.getElem?_map,List.getElem?_range hj]
     have h1:=hat j hj
     rw [Go.Deep.add_add] at h1
     rw [zD (by omega:j<cs'.length)] at h1 ⊢
     simp [h1]
    ·rw [List.getElem?_eq_none (by simp; omega),List.getElem?_eq_none (by omega)]
   rw [hcs']
   exact ht'
end
inductive Lvs (w:World):List D→List Value→Prop
 |nil:Lvs w [] []
 |cons {d:D} {v:Value} {ds:List D} {vs:List Value} (h:DAt w d v) (hs:Lvs w ds vs):Lvs w (d :: ds) (v :: vs)
theorem Lvs.len {w:World} {ds:List D} {vs:List Value} (h:Lvs w ds vs):ds.length=vs.length:=by
 induction h with
 | nil=>rfl
 | cons h hs ih=>simp [ih]
theorem Lvs.get {w:World} {ds:List D} {vs:List Value} (h:Lvs w ds vs):∀ j (h1:j<ds.length) (h2:j<vs.length),DAt w ds[j] vs[j]:=by
 induction h with
 | nil=>intro j h1; simp at h1
 | cons h hs ih =>
  intro j h1 h2
  cases j with
  | zero=>exact h
  | succ j=>exact ih j (by simpa using h1) (by simpa using h2)
theorem Wl {α:Type} [Inhabited α] (dd:α→List D) {w:World} {m len cap:Nat} {f:Nat→Nat→Value} {a:Option Addr} (hl:len≤cap) (hm:cap≤9223372036854775807) (hS:SlA w 0 m len f a)
  (hel:∀ i,i<len→∃ X:α,Lvs w (dd X) ((zP m).map (f i))):∃ xs:List α,DAt w (.arr (xs.map dd)) (.slice a len cap):=by
 obtain ⟨g,hg⟩:∃ g:Nat→α,∀ i,i<len→Lvs w (dd (g i)) ((zP m).map (f i)) :=
  ⟨fun i=>if h:i<len then (hel i h).choose else default,fun i hi=>by simp only [hi,dif_pos]; exact (hel i hi).choose_spec⟩
 refine ⟨(zP len).map g,?_⟩
 have hlen:(((zP len).map g).map dd).length=len:=by simp
 have:=DAt.XM (w:=w) (es:=((zP len).map g).map dd) (sz:=m) (cap:=cap) (a:=a) (f:=f) (by rw [hlen]; exact hl) hm (by rw [hlen]; exact hS) (fun i hi=>by
  rw [hlen] at hi
  have:=(hg i hi).len
  simpa using this) (fun i j hi hj=>by
  rw [hlen] at hi
  have h1:=hg i hi
  have h2:=h1.len
  simp only [zG,z7] at h2
  simp only [List.getElem_map,zY] at hj ⊢
  have:=h1.get j hj (by simp; omega)
  simpa using this)
 rw [hlen] at this
 exact this
instance:Inhabited Tm:=⟨Tm.zero⟩
instance:Inhabited Fm:=⟨Fm.zero⟩
section
variable {H:Type} {enc:TypeId × Value→H} {w:World} {base:Nat} {spare:Nat→Bool} {held:Bool}
end
end Go.Proofs.YtfgkiemoglcppaaGreatDoor
set_option maxRecDepth 100000
set_option linter.unusedSimpArgs false
set_option linter.unusedVariables false
set_option linter.unusedSectionVars false
namespace Go.Proofs.YtfgkiemoglcppaaGreatDoor
open Go.RowKit
theorem DRep.lt_ {own:Bool} {w:World} {S:Nat→Prop} {d:D} {v:Value} (h:DRep own w S d v):DRep own w (fun b=>S b∧b<w.heap.size) d v:=by
 induction h with
 | int S n=>exact .int _ n
 | byte S n=>exact .byte _ n
 | bool S b=>exact .bool _ b
 | str S s h=>exact .str _ s h
 | arr S sz es a cap f Sub h1 h2 h3 h4 h5 h6 h7 ih =>
  refine .arr _ sz es a cap f (fun i j x=>Sub i j x∧x<w.heap.size) h1 h2 ?_ h4 (fun i j x h=>⟨h5 i j x h.1,h.2⟩) (fun ho i j i' j' x h h'=>h6 ho i j i' j' x h.1 h'.1) ih
  rcases h3 with h3 | ⟨b,off,ha,hS,hl,hc,ho⟩
  ·exact .inl h3
  ·exact .inr ⟨b,off,ha,⟨hS,hl⟩,hl,hc,fun h=>⟨fun i j hx=>(ho h).1 i j hx.1,(ho h).2⟩⟩
theorem DAt.rep {w:World} {es:List (List D)} {v:Value} (h:DAt w (.arr es) v):RepV w (fun b=>b<w.heap.size) (fun _=>none) (.arr es) v:=by
 simp only [RepV]
 exact (DRep.lt_ h).up fun b hb=>hb.2
theorem Fun.yes {f:FuncId} {args:List SV} (h:Fun Tryz.prog f args [] (.bool true) []) {w:World} {vs:List Value} (hgl:GL w fun b=>b<w.heap.size) (hvs:RepVs w (fun b=>b<w.heap.size) (fun _=>none) args vs):Calls Tryz.prog f vs.toArray w (Ret w (.bool true)):=by
 have nl:∀ g,¬ (Aw [] g).live:=fun g hg=>by simp [Aw,Ob.live] at hg
 refine (h w (fun b=>b<w.heap.size) (fun _=>none) (fun _ _=>False) vs ⟨fun b hb=>hb,fun g hg=>absurd hg (nl g),fun g b hg=>absurd hg (nl g),fun g b hg=>absurd hg (nl g),fun g g' b hg=>absurd hg (nl g),fun g _=>rfl,hgl⟩ hvs).mono ?_
 rintro e w' ⟨v,I',V',B',rfl,hr,hp⟩
 simp only [RepV] at hr
 subst hr
 exact ⟨rfl,hp.fr.os,hp.fr.tape.1,hp.fr.output,hp.fr.size,fun b hb=>hp.fr.block b hb fun ⟨g,hg,_⟩=>absurd hg (nl g)⟩
theorem Wm {w:World} {I:Nat→Prop} {V:Nat→Option Value}:RepVs w I V [] []:=by simp [RepVs]
theorem Uj {w:World} {I:Nat→Prop} {V:Nat→Option Value} {x:SV} {xs:List SV} {v:Value} {vs:List Value} (h:RepV w I V x v) (hs:RepVs w I V xs vs):RepVs w I V (x :: xs) (v :: vs):=by
 simp only [RepVs]; exact ⟨v,vs,rfl,h,hs⟩
section
variable {H:Type} {enc:TypeId × Value→H} {w:World} {base:Nat} {spare:Nat→Bool} {held:Bool}
end
end Go.Proofs.YtfgkiemoglcppaaGreatDoor
set_option maxRecDepth 100000
set_option linter.unusedSimpArgs false
set_option linter.unusedVariables false
set_option linter.unusedSectionVars false
namespace Go.Proofs.YtfgkiemoglcppaaGreatDoor
open Go.RowKit Go.ChangeShapes Go.WideShapes Go.ChangeAt Go.Deep
section
variable {H:Type} {enc:TypeId × Value→H} {w:World} {base:Nat} {spare:Nat→Bool} {held:Bool}
abbrev ByteZ:={ b:Int // 0≤b∧b≤255 }
instance:Inhabited ByteZ:=⟨⟨0,by omega⟩⟩
theorem Uk {fuel:Nat} {v:Value} {x:DataW H × List MemPlace} (h:DataW.trod enc Tryz.prog w base spare held fuel 22 [v]=some x):∃ l:List Int,Bytes l∧DAt w (.arr (l.map by_)) v:=by
 obtain ⟨a,len,cap,f,rfl,hl,hm,hS,hr⟩:=Wk (P:=Tryz.prog) 1 (by kernel_rfl) (by omega) Tryz.underlying22 h
 obtain ⟨xs,hx⟩:=Wl (fun s:ByteZ=>[D.byte s.1]) hl hm hS fun i hi=>by
  obtain ⟨n,x',hn,h1⟩:=hr i hi
  obtain ⟨z,q,_,hw⟩:=DataW.trod_int Tryz.underlying5 h1
  have h2:(decide (IntKind.u8.min≤z)&&decide (z≤IntKind.u8.max))=true:=hw
  rw [zB,decide_eq_true_eq,decide_eq_true_eq] at h2
  rw [q]
  exact ⟨⟨z,h2.1,h2.2⟩,.cons (.byte _ z) .nil⟩
 refine ⟨xs.map (·.1),fun b hb=>?_,?_⟩
 ·obtain ⟨s,_,rfl⟩:=yB.1 hb
  exact s.2
 ·rw [zQ]
  exact hx
end
end Go.Proofs.YtfgkiemoglcppaaGreatDoor
