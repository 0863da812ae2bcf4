/-
  Texts of this claim, one behind the other, each built on those ahead of it. No condition.
-/
import Derived.Test.YtkmenhhapfombaaGreatK29b
import Derived.Test.YtkmenhhapfombaaGreatK29c
import Derived.Test.YtkmenhhapfombaaGreatK29d
import Derived.ProofKit
import Derived.Deep.Slices
import Derived.Deep.Fields
import Derived.ChangeSame
import Derived.OpenShut
import Derived.ShutString
import Derived.ChangeOld
set_option maxHeartbeats 16000000
open Bool renaming and_eq_true → zA
open List renaming getElem?_eq_getElem → zB, range → zC
set_option maxRecDepth 100000
set_option linter.unusedSimpArgs false
set_option linter.unusedVariables false
set_option linter.unusedSectionVars false
namespace Go.Proofs.YtkmenhhapfombaaGreat
open Go.RowKit
def K6:SC:=(.seq (.reg [⟨some 2,none,.mv (.c (.bool false))⟩]) (.seq (.reg [⟨some 3,none,.mv (.t 0)⟩,⟨some 4,none,.len false (.t 3)⟩,⟨some 5,none,.bin .gtr false (.t 4) (.c (.int .i64 65536))⟩,⟨some 2,none,.mv (.t 5)⟩]) .ret))
theorem Qb:Ar Tryz.prog 4=some ⟨6,K6,[(.tmp 2)]⟩:=by kernel_rfl
theorem DL:modes 4=⟨[],.asis,none,false⟩:=by unfold modes; rfl
def Db:SC:=(.seq (.reg [⟨(some 2),none,(.alloc 29 [(.int .i64 0),(.str ⟨#[]⟩),.nil,(.str ⟨#[]⟩),.nil])⟩,⟨(some 3),none,(.mv (.c (.str ⟨#[]⟩)))⟩,⟨(some 4),none,(.alloc 26 [(.str ⟨#[]⟩),.nil])⟩]) (.seq (.reg [⟨some 6,none,.mv (.t 0)⟩,⟨some 7,none,.build [.nil,(.int .i64 0),(.int .u64 0)] [(0,(1,(.t 6)))]⟩,⟨some 8,none,.boxv 45 3 (.t 7)⟩,⟨some 5,none,.mv (.t 8)⟩]) (.seq (.reg [⟨some 9,none,.mv (.t 5)⟩,⟨some 10,none,.call 12 [(.t 9)]⟩,⟨some 11,none,.mv (.t 5)⟩,⟨(some 12),none,(.mkrow 9 1 [(.str ⟨#[]⟩)] 6 [(0,(.c (.str ⟨#[88]⟩))),(1,(.c (.str ⟨#[89]⟩))),(2,(.c (.str ⟨#[90]⟩))),(3,(.c (.str ⟨#[88]⟩))),(4,(.c (.str ⟨#[89]⟩))),(5,(.c (.str ⟨#[97]⟩)))])⟩,⟨some 13,none,.call 13 [(.t 11),(.t 12)]⟩,⟨some 14,none,.mv (.t 5)⟩,⟨some 15,none,.call 14 [(.t 14)]⟩,⟨none,none,(.store 5 (.t 2) (.t 10))⟩,⟨some 3,none,.mv (.t 13)⟩,⟨none,none,(.store 2 (.t 4) (.t 15))⟩]) .ret)))
theorem EN:Ar Tryz.prog 5=some ⟨16,Db,[(.cell 2 true 5),(.tmp 3),(.cell 4 true 2)]⟩:=by kernel_rfl
theorem Bg:modes 5=⟨[],.frz,none,false⟩:=by unfold modes; rfl
def C7:SC:=(.seq (.reg [⟨some 2,none,.mv (.c (.bool false))⟩]) (.seq (.seq (.reg [⟨some 12,none,.mv (.t 0)⟩,⟨some 13,none,.call 4 [(.t 12)]⟩]) (.cond (.t 13) (.seq (.reg [⟨some 2,none,.mv (.c (.bool true))⟩]) .ret) .skip)) (.seq (.reg [⟨some 15,none,.mv (.t 0)⟩,⟨some 16,none,.call 5 [(.t 15)]⟩,⟨some 14,none,.mv (.t 16)⟩,⟨some 17,none,.ext (.t 14) 0⟩,⟨some 18,none,.ext (.t 14) 1⟩,⟨some 19,none,.ext (.t 14) 2⟩,⟨(some 3),none,(.alloc 29 [(.int .i64 0),(.str ⟨#[]⟩),.nil,(.str ⟨#[]⟩),.nil])⟩,⟨(some 5),none,(.alloc 26 [(.str ⟨#[]⟩),.nil])⟩,⟨none,none,(.store 5 (.t 3) (.t 17))⟩,⟨some 4,none,.mv (.t 18)⟩,⟨none,none,(.store 2 (.t 5) (.t 19))⟩]) (.seq (.reg [⟨some 21,none,.load true 5 (.t 3)⟩,⟨some 22,none,.mv (.t 4)⟩,⟨some 23,none,.load true 2 (.t 5)⟩,⟨some 24,none,.call 6 [(.t 21),(.t 22),(.t 23)]⟩,⟨some 20,none,.mv (.t 24)⟩,⟨some 25,none,.ext (.t 20) 0⟩,⟨some 26,none,.ext (.t 20) 1⟩,⟨(some 6),none,(.alloc 29 [(.int .i64 0),(.str ⟨#[]⟩),.nil,(.str ⟨#[]⟩),.nil])⟩,⟨none,none,(.store 5 (.t 6) (.t 25))⟩,⟨some 7,none,.mv (.t 26)⟩]) (.seq (.seq (.reg [⟨some 28,none,.load true 5 (.t 3)⟩,⟨some 29,none,.mv (.t 4)⟩,⟨some 30,none,.load true 2 (.t 5)⟩,⟨some 31,none,.call 7 [(.t 28),(.t 29),(.t 30)]⟩,⟨some 27,none,.mv (.t 31)⟩,⟨some 32,none,.ext (.t 27) 0⟩,⟨some 33,none,.ext (.t 27) 1⟩,⟨(some 8),none,(.alloc 29 [(.int .i64 0),(.str ⟨#[]⟩),.nil,(.str ⟨#[]⟩),.nil])⟩,⟨none,none,(.store 5 (.t 8) (.t 32))⟩,⟨some 9,none,.mv (.t 33)⟩]) (.seq (.reg [⟨some 34,none,.mv (.t 7)⟩,⟨some 35,none,.mv (.t 9)⟩,⟨some 36,none,.bin .neq true (.t 34) (.t 35)⟩]) (.cond (.t 36) (.seq (.reg [⟨some 2,none,.mv (.c (.bool false))⟩]) .ret) .skip))) (.seq (.seq (.reg [⟨some 37,none,.mv (.t 7)⟩,⟨some 38,none,.un .not (.t 37)⟩]) (.cond (.t 38) (.seq (.reg [⟨some 39,none,.faddr 0 (.t 6)⟩,⟨some 40,none,.load false 1 (.t 39)⟩,⟨some 41,none,.bin .eql false (.t 40) (.c (.int .i64 0))⟩,⟨some 2,none,.mv (.t 41)⟩]) .ret) .skip)) (.seq (.seq (.reg [⟨some 10,none,.mv (.c (.int .i64 1))⟩]) (.block 0 (.loop [1,0,0,1,1,1,1,0,0,0,1,0,0,0,0,0,0,0,0,0,0,0,0,0,0,0,0,0,0,0,0,0,0,0,0,0,0,0,0,0,0,0,0,0,0,0,0,0,0,0,0,0,0,0,0,0,0,0,0,0,0,0,0,0,0,0,0,0,0,0,0,0,0,0,0,0,0,0,0,0] (.seq (.seq (.reg [⟨some 42,none,.mv (.t 10)⟩,⟨some 43,none,.bin .lss false (.t 42) (.c (.int .i64 3))⟩]) (.cond (.t 43) .skip (.exit 0))) (.seq (.block 1 (.seq (.reg [⟨some 46,none,.build [.nil,.nil] []⟩,⟨some 47,none,.mv (.t 0)⟩,⟨some 48,none,.call 9 [(.t 47),(.c (.int .i64 1))]⟩,⟨some 49,none,.mv (.t 10)⟩,⟨some 50,none,.bin .rem false (.t 48) (.t 49)⟩,⟨(some 51),none,(.call 8 [(.t 46),(.c (.str ⟨#[88]⟩)),(.t 50)])⟩,⟨some 52,none,.mv (.t 0)⟩,⟨some 53,none,.call 9 [(.t 52),(.c (.int .i64 2))]⟩,⟨some 54,none,.mv (.t 10)⟩,⟨some 55,none,.bin .rem false (.t 53) (.t 54)⟩,⟨(some 56),none,(.call 8 [(.t 51),(.c (.str ⟨#[89]⟩)),(.t 55)])⟩,⟨some 57,none,.mv (.t 0)⟩,⟨some 58,none,.call 9 [(.t 57),(.c (.int .i64 3))]⟩,⟨some 59,none,.mv (.t 10)⟩,⟨some 60,none,.bin .rem false (.t 58) (.t 59)⟩,⟨(some 61),none,(.call 8 [(.t 56),(.c (.str ⟨#[90]⟩)),(.t 60)])⟩,⟨some 11,none,.alloc 37 [.nil,.nil]⟩,⟨none,none,(.store 2 (.t 11) (.t 61))⟩]) (.seq (.dreg [[],[],[],[],[0,1,2,3],[],[],[],[],[],[],[],[],[9,10,11,12,4,0,1,2,3],[7,8,13,9,10,11,12,4,0,1,2,3],[],[5,6,14,7,8,13,9,10,11,12,4,0,1,2,3,15],[4,0,1,2,3,16,5,6,14,7,8,13,9,10,11,12,15]] [⟨some 62,none,.mv (.t 0)⟩,⟨some 63,none,.mv (.t 10)⟩,⟨some 64,none,.load true 2 (.t 11)⟩,⟨some 65,none,.load true 5 (.t 6)⟩,⟨some 66,none,.call 10 [(.t 62),(.t 63),(.t 64),(.t 65)]⟩,⟨some 67,none,.mv (.t 0)⟩,⟨some 68,none,.mv (.t 10)⟩,⟨some 69,none,.load true 2 (.t 11)⟩,⟨some 70,none,.mv (.t 4)⟩,⟨some 71,none,.mv (.t 0)⟩,⟨some 72,none,.mv (.t 10)⟩,⟨some 73,none,.load true 2 (.t 11)⟩,⟨some 74,none,.load true 2 (.t 5)⟩,⟨some 75,none,.call 11 [(.t 71),(.t 72),(.t 73),(.t 74)]⟩,⟨some 76,none,.call 8 [(.t 69),(.t 70),(.t 75)]⟩,⟨some 77,none,.load true 5 (.t 3)⟩,⟨some 78,none,.call 10 [(.t 67),(.t 68),(.t 76),(.t 77)]⟩,⟨some 79,none,.bin .neq true (.t 66) (.t 78)⟩]) (.cond (.t 79) (.seq (.reg [⟨some 2,none,.mv (.c (.bool false))⟩]) .ret) .skip)))) (.reg [⟨some 44,none,.mv (.t 10)⟩,⟨some 45,none,.bin .add false (.t 44) (.c (.int .i64 1))⟩,⟨some 10,none,.mv (.t 45)⟩])))))) (.seq (.reg [⟨some 2,none,.mv (.c (.bool true))⟩]) .ret))))))))
theorem Dt:Ar Tryz.prog 3=some ⟨80,C7,[(.tmp 2)]⟩:=by kernel_rfl
theorem Du:modes 3=⟨[],.asis,none,false⟩:=by unfold modes; rfl
theorem Wm (l:List Int):E 4 [.arr (l.map by_)] []=some (.bool (dec (65536<(l.length:Int))),[]):=by
 refine Ai Qb DL (of_decide_eq_true rfl) ?_
 simp (disch:=omega) only [K6,go_sem,Ab]
theorem G7 (l:List Int) (hl:Bytes l) (hn:l.length≤1099511627776):∃ (x:Fm) (s:ByteArray) (t:Tm),E 5 [.arr (l.map by_)] []=some (.tup [x.sv,.str s,t.sv],[])∧x.tame∧x.nodes≤100∧t.nodes≤150:=by
 obtain ⟨x,p1,s1,hx,⟨g1,g2⟩,g3,g4⟩:=O7 l hl hn 0 0 (by omega) (by omega)
 obtain ⟨s,p2,s2,ho,_,g5,g6⟩:=PK l hl hn [⟨#[88]⟩,⟨#[89]⟩,⟨#[90]⟩,⟨#[88]⟩,⟨#[89]⟩,⟨#[97]⟩] (by decide) (by decide) p1 s1 (by omega) (by omega)
 simp only [List.map_cons,List.map_nil] at ho
 obtain ⟨t,p3,s3,ht,_,g7⟩:=NI l hl hn p2 s2 (by omega) (by omega)
 refine ⟨x,s,t,?_,g4,g3,g7⟩
 refine Ai EN Bg (of_decide_eq_true rfl) ?_
 simp (disch:=omega) only [Db,go_sem,Ab,hx,ho,ht,AM,Au,A1]
theorem UR {s:ByteArray} {t:Tm} {x:Fm} (h:J7 s t x=false):G6 s t x=Fm.zero:=by unfold G6; rw [h]; rfl
theorem SU {s:ByteArray} {t:Tm} {x:Fm} (h:J7 s t x=true):x.forms=true∧t.names=true∧(G6 s t x).forms=true∧(G6 s t x).nodes=x.nodes∧∀ (l:List Int) (n:Int) (E:ByteArray→Int),(G6 s t x).vt l n E=x.vt l n (upE E s (t.val l n E)):=by
 have e1:G6 s t x=(x.subS s t).1:=by unfold G6; rw [h]; rfl
 unfold J7 at h
 rw [zA,zA,zA] at h
 obtain ⟨h1,h2,h3,h4⟩:=h
 unfold Fm.valid at h1
 rw [zA] at h1
 have hx:=h1.2
 unfold Tm.valid at h3
 rw [zA] at h3
 obtain ⟨b1,b2,b3⟩:=(Fm.Md s t x hx).1 h4
 rw [e1]
 refine ⟨hx,h3.2,b2,b3,fun l n E=>?_⟩
 have h5:(x.subP s t).2=true:=by rw [b1]
 have:=Fm.Uv (l:=l) (n:=n) s t x hx E h5
 rw [b1] at this
 exact this
theorem Wn (l:List Int) (hl:Bytes l):E 3 [.arr (l.map by_)] []=some (.bool true,[]):=by
 have hbig:=Wm l
 by_cases hb:65536<(l.length:Int)
 ·rw [A5 hb] at hbig
  refine Ai Dt Du (of_decide_eq_true rfl) ?_
  simp (disch:=omega) only [C7,go_sem,Ab,hbig,DL,Dr,Aq,Bw,Bv,Bg,AB,AD,Fm.osv,Fm.obs]
 ·rw [An hb] at hbig
  obtain ⟨x,s,t,hd,hta,hxn,htn⟩:=G7 l hl (by omega)
  have h1:=Ic s t x hta (by omega) (by omega)
  have h2:=Hh s t x hta (by omega) (by omega)
  cases hok:J7 s t x with
  | false =>
   have hz:=UR hok
   rw [hok,hz] at h1 h2
   have hz1:Fm.zero.osv=.agg [.int .i64 0,.str ⟨#[]⟩,.ref 0,.str ⟨#[]⟩,.ref 1]:=rfl
   have hz2:Fm.zero.obs=[.row 26 2 [],.row 29 5 []]:=rfl
   have hz3:Fm.zero.sv=.agg [.int .i64 0,.str ⟨#[]⟩,.arr [],.str ⟨#[]⟩,.arr []]:=rfl
   rw [hz1,hz2] at h1
   rw [hz3] at h2
   refine Ai Dt Du (of_decide_eq_true rfl) ?_
   simp (disch:=omega) only [C7,go_sem,Ab,hbig,hd,h1,h2,DL,Dr,Aq,Bw,Bv,Bg,AB,AD,Fm.osv,Fm.obs]
  | true =>
   obtain ⟨hxf,hts,hgf,hgn,hvt⟩:=SU hok
   rw [hok] at h1 h2
   obtain ⟨g,hg⟩:∃ g,g=G6 s t x:=⟨_,rfl⟩
   rw [←hg] at h1 h2 hgf hgn hvt
   refine Ai Dt Du (of_decide_eq_true rfl) ?_
   simp (disch:=omega) only [C7,go_sem,Ab,hbig,hd,h1,h2,DL,Dr,Aq,Bw,Bv,Bg,AB,AD,Fm.osv,Fm.obs]
   refine go_loop (α:=Int) (fun i=>⟨slots 80 0 [(0,.arr (l.map by_)),(3,.ptr 0 0),(4,.str s),(5,.ptr 1 0),(6,.ptr 2 0),(10,.int .i64 i)],[.box 29 [.int .i64 x.op,.str x.atom.name,.arr (x.atom.args.map Tm.d),.str x.var,.arr (x.parts.map Fm.d)],.box 26 [.str t.name,.arr (t.args.map Tm.d)],.box 29 [.int .i64 g.op,.str g.atom.name,.ref 3,.str g.var,.ref 4],.row 26 2 (g.atom.args.map Tm.o),.row 29 5 (g.parts.map Fm.o)]⟩) (fun i=>1≤i∧i≤3) (fun i=>(3-i).toNat) 1 (by omega) (by simp (disch:=omega) only [go_sem,Ab]) ?_
   rintro i ⟨hi1,hi3⟩
   by_cases hlt:i<3
   ·have q1:(i<3)=True:=eq_true hlt
    have q2:(i=0)=False:=eq_false (by omega)
    have v1:=F7 hl (show (0:Int)≤1 by omega)
    have v2:=F7 hl (show (0:Int)≤2 by omega)
    have v3:=F7 hl (show (0:Int)≤3 by omega)
    have r1:=F6 v1.1 (show 0<i by omega)
    have r2:=F6 v2.1 (show 0<i by omega)
    have r3:=F6 v3.1 (show 0<i by omega)
    have a1:=PO l hl (by omega) 1 (by omega) (by omega)
    have a2:=PO l hl (by omega) 2 (by omega) (by omega)
    have a3:=PO l hl (by omega) 3 (by omega) (by omega)
    obtain ⟨e,hee⟩:∃ e:Ev,e=[(⟨#[88]⟩,(Dg l 1).tmod i),(⟨#[89]⟩,(Dg l 2).tmod i),(⟨#[90]⟩,(Dg l 3).tmod i)]:=⟨_,rfl⟩
    have hE:EnvOk e:=by
     rw [hee]
     intro p hp
     simp only [List.mem_cons,List.not_mem_nil,or_false] at hp
     rcases hp with rfl | rfl | rfl
     ·dsimp only; omega
     ·dsimp only; omega
     ·dsimp only; omega
    have hel:e.length=3:=by rw [hee]; rfl
    have w1:E 8 [.agg [.arr [],.arr []],.str ⟨#[88]⟩,.int .i64 ((Dg l 1).tmod i)] []=some (.agg [.arr [[D.str ⟨#[88]⟩]],.arr [[D.int ((Dg l 1).tmod i)]]],[]):=JY [] (by simp) _ _
    have w2:E 8 [.agg [.arr [[D.str ⟨#[88]⟩]],.arr [[D.int ((Dg l 1).tmod i)]]],.str ⟨#[89]⟩,.int .i64 ((Dg l 2).tmod i)] []=some (.agg [.arr [[D.str ⟨#[88]⟩],[D.str ⟨#[89]⟩]],.arr [[D.int ((Dg l 1).tmod i)],[D.int ((Dg l 2).tmod i)]]],[]):=JY [(⟨#[88]⟩,(Dg l 1).tmod i)] (by simp) _ _
    have w3:E 8 [.agg [.arr [[D.str ⟨#[88]⟩],[D.str ⟨#[89]⟩]],.arr [[D.int ((Dg l 1).tmod i)],[D.int ((Dg l 2).tmod i)]]],.str ⟨#[90]⟩,.int .i64 ((Dg l 3).tmod i)] []=some (.agg [.arr (e.map nmD),.arr (e.map viD)],[]):=by
     rw [hee]
     exact JY [(⟨#[88]⟩,(Dg l 1).tmod i),(⟨#[89]⟩,(Dg l 2).tmod i)] (by simp) _ _
    have c1:=O5 l hl (by omega) i (by omega) g hgf e (by omega) hE
    have c2:=Mo l hl (by omega) i (by omega) e (by omega) hE t hts (by omega)
    have r4:=Tm.KQ hl (show 1≤i∧i≤65535 by omega) (Mm e hE) t
    obtain ⟨e',hee'⟩:∃ e':Ev,e'=e++[(s,t.val l i (Ck e))]:=⟨_,rfl⟩
    have w4:E 8 [veS e,.str s,.int .i64 (t.val l i (Ck e))] []=some (veS e',[]):=by
     rw [hee']
     exact JY e (by omega) _ _
    have hE':EnvOk e':=by
     rw [hee']
     exact hE.snoc r4.1 r4.2
    have hel':e'.length=4:=by rw [hee',List.length_append,hel]; rfl
    have c3:=O5 l hl (by omega) i (by omega) x hxf e' (by omega) hE'
    rw [hee',Ia,← hvt,← hee'] at c3
    cases hb:g.vt l i (Ck e) with
    | true =>
     rw [hb] at c1 c3
     simp (disch:=omega) only [go_sem,Ab,q1,q2,a1,a2,a3,w1,w2,w3,c1,c2,w4,c3,DL,Dr,Aq,Bw,Bv,Bg,AB,AD,Fm.osv,Fm.obs]
     exact ⟨i+1,by omega,by omega,by first | trivial | rfl | exact ⟨rfl,rfl⟩⟩
    | false =>
     rw [hb] at c1 c3
     simp (disch:=omega) only [go_sem,Ab,q1,q2,a1,a2,a3,w1,w2,w3,c1,c2,w4,c3,DL,Dr,Aq,Bw,Bv,Bg,AB,AD,Fm.osv,Fm.obs]
     exact ⟨i+1,by omega,by omega,by first | trivial | rfl | exact ⟨rfl,rfl⟩⟩
   ·have q1:(i<3)=False:=eq_false hlt
    simp (disch:=omega) only [go_sem,Ab,q1]
end Go.Proofs.YtkmenhhapfombaaGreat
set_option maxRecDepth 100000
set_option linter.unusedSimpArgs false
set_option linter.unusedVariables false
set_option linter.unusedSectionVars false
namespace Go.Proofs.YtkmenhhapfombaaGreat
open Go.RowKit Go.ChangeShapes Go.WideShapes Go.ChangeAt Go.Deep
section
variable {H:Type} {enc:TypeId × Value→H} {P:Program} {w:World} {base:Nat} {spare:Nat→Bool} {held:Bool}
theorem HI {b o k:Nat}:(⟨b,o,none⟩:Addr).add k=⟨b,o+k,none⟩:=by
 unfold Addr.add; split
 ·subst_vars; rfl
 ·rfl
theorem Wo {a:Addr} {v:Value} (h:w.cell? a=some v):a.block<w.heap.size:=by
 unfold World.cell? at h
 cases hb:w.heap[a.block]? with
 | none=>rw [hb] at h; cases h
 | some o=>exact (Array.getElem?_eq_some_iff.1 hb).1
end
section
variable {H:Type} {enc:TypeId × Value→H} {w:World} {base:Nat} {spare:Nat→Bool} {held:Bool}
end
end Go.Proofs.YtkmenhhapfombaaGreat
set_option maxRecDepth 100000
set_option linter.unusedSimpArgs false
set_option linter.unusedVariables false
set_option linter.unusedSectionVars false
namespace Go.Proofs.YtkmenhhapfombaaGreat
open Go.RowKit Go.ChangeShapes Go.WideShapes Go.ChangeAt Go.Deep
section
variable {H:Type} {enc:TypeId × Value→H} {P:Program} {w:World} {base:Nat} {spare:Nat→Bool} {held:Bool}
theorem US {t e:TypeId} {fuel:Nat} {v:Value} {x:DataW H × List MemPlace} (sz:Nat) (hsz:P.cellsOf e=sz) (h0:0<sz) (ht:P.underlying t=some (.slice e)) (h:DataW.trod enc P w base spare held fuel t [v]=some x) :
  ∃ (a:Option Addr) (len cap:Nat) (f:Nat→Nat→Value),v=.slice a len cap∧len≤cap∧cap≤9223372036854775807∧SlA w 0 sz len f a ∧
   ∀ i,i<len→∃ n x',n<fuel∧DataW.trod enc P w base spare held n e ((zC sz).map (f i))=some x':=by
 rcases DataW.trod_slice ht h with ⟨hcs,_⟩ | ⟨a,len,cap,elems,rest,n,hf,hcs,hx,hb,hl,hm,hlen,hel,_,_⟩
 ·simp only [List.cons.injEq,and_true] at hcs
  exact ⟨none,0,0,fun _ _=>undef,hcs,Nat.le_refl _,by omega,.inl rfl,fun i hi=>absurd hi (by omega)⟩
 ·have hi:∀ i,i<len→∃ cs' x',w.cells? base (a.add (i*sz)) sz=some cs'∧DataW.trod enc P w base spare held n e cs'=some x':=by
   intro i hi
   have h1:=hel i hi
   rw [hsz,zB (by omega)] at h1
   obtain ⟨cs',h2,h3⟩:=Option.bind_eq_some_iff.1 h1
   exact ⟨cs',_,h2,h3⟩
  have hcell:∀ i j,i<len→j<sz→∃ v,w.cell? (a.add (i*sz+j))=some v:=by
   intro i j hil hj
   obtain ⟨cs',x',hc,_⟩:=hi i hil
   obtain ⟨_,hcl,hat⟩:=World.cells?_some hc
   have h1:=hat j hj
   rw [Go.Deep.add_add,zB (by omega)] at h1
   exact ⟨_,h1⟩
  simp only [List.cons.injEq,and_true] at hcs
  refine ⟨some a,len,cap,fun i j=>(w.cell? (a.add (i*sz+j))).getD undef,hcs,hl,hm,?_,?_⟩
  ·rcases Nat.eq_zero_or_pos len with h | h
   ·exact .inl h
   ·obtain ⟨v,hv⟩:=hcell 0 0 h h0
    rw [Nat.zero_mul,Nat.zero_add] at hv
    have hsp:a.spot=none:=by simpa [Addr.add] using World.cell?_spot hv
    have hlt:=Wo hv
    obtain ⟨b,off,spot⟩:=a
    simp only at hsp
    subst hsp
    refine .inr ⟨b,off,rfl,Nat.zero_le _,by simpa [Addr.add] using hlt,fun i j hil hj=>?_⟩
    obtain ⟨v',hv'⟩:=hcell i j hil hj
    rw [HI] at hv'
    show _=some ((w.cell? ((⟨b,off,none⟩:Addr).add (i*sz+j))).getD undef)
    rw [HI,Nat.add_assoc,hv']
    rfl
  ·intro i hil
   obtain ⟨cs',x',hc,ht'⟩:=hi i hil
   obtain ⟨_,hcl,hat⟩:=World.cells?_some hc
   refine ⟨n,x',by omega,?_⟩
   have hcs':(zC sz).map (fun j=>(w.cell? (a.add (i*sz+j))).getD undef)=cs':=by
    apply List.ext_getElem?
    intro j
    by_cases hj:j<sz
    ·rw [List.getElem?_map,List.getElem?_range hj]
     have h1:=hat j hj
     rw [Go.Deep.add_add] at h1
     rw [zB (by omega:j<cs'.length)] at h1 ⊢
     simp [h1]
    ·rw [List.getElem?_eq_none (by simp; omega),List.getElem?_eq_none (by omega)]
   rw [hcs']
   exact ht'
end
inductive Lvs (w:World):List D→List Value→Prop
 |nil:Lvs w [] []
 |cons {d:D} {v:Value} {ds:List D} {vs:List Value} (h:DAt w d v) (hs:Lvs w ds vs):Lvs w (d :: ds) (v :: vs)
theorem Lvs.len {w:World} {ds:List D} {vs:List Value} (h:Lvs w ds vs):ds.length=vs.length:=by
 induction h with
 | nil=>rfl
 | cons h hs ih=>simp [ih]
theorem Lvs.get {w:World} {ds:List D} {vs:List Value} (h:Lvs w ds vs):∀ j (h1:j<ds.length) (h2:j<vs.length),DAt w ds[j] vs[j]:=by
 induction h with
 | nil=>intro j h1; simp at h1
 | cons h hs ih =>
  intro j h1 h2
  cases j with
  | zero=>exact h
  | succ j=>exact ih j (by simpa using h1) (by simpa using h2)
theorem UT {α:Type} [Inhabited α] (dd:α→List D) {w:World} {m len cap:Nat} {f:Nat→Nat→Value} {a:Option Addr} (hl:len≤cap) (hm:cap≤9223372036854775807) (hS:SlA w 0 m len f a)
  (hel:∀ i,i<len→∃ X:α,Lvs w (dd X) ((zC m).map (f i))):∃ xs:List α,DAt w (.arr (xs.map dd)) (.slice a len cap):=by
 obtain ⟨g,hg⟩:∃ g:Nat→α,∀ i,i<len→Lvs w (dd (g i)) ((zC m).map (f i)) :=
  ⟨fun i=>if h:i<len then (hel i h).choose else default,fun i hi=>by simp only [hi,dif_pos]; exact (hel i hi).choose_spec⟩
 refine ⟨(zC len).map g,?_⟩
 have hlen:(((zC len).map g).map dd).length=len:=by simp
 have:=DAt.Wv (w:=w) (es:=((zC len).map g).map dd) (sz:=m) (cap:=cap) (a:=a) (f:=f) (by rw [hlen]; exact hl) hm (by rw [hlen]; exact hS) (fun i hi=>by
  rw [hlen] at hi
  have:=(hg i hi).len
  simpa using this) (fun i j hi hj=>by
  rw [hlen] at hi
  have h1:=hg i hi
  have h2:=h1.len
  simp only [List.length_map,List.length_range] at h2
  simp only [List.getElem_map,List.getElem_range] at hj ⊢
  have:=h1.get j hj (by simp; omega)
  simpa using this)
 rw [hlen] at this
 exact this
instance:Inhabited Tm:=⟨Tm.zero⟩
instance:Inhabited Fm:=⟨Fm.zero⟩
section
variable {H:Type} {enc:TypeId × Value→H} {w:World} {base:Nat} {spare:Nat→Bool} {held:Bool}
end
end Go.Proofs.YtkmenhhapfombaaGreat
set_option maxRecDepth 100000
set_option linter.unusedSimpArgs false
set_option linter.unusedVariables false
set_option linter.unusedSectionVars false
namespace Go.Proofs.YtkmenhhapfombaaGreat
open Go.RowKit
theorem DRep.lt_ {own:Bool} {w:World} {S:Nat→Prop} {d:D} {v:Value} (h:DRep own w S d v):DRep own w (fun b=>S b∧b<w.heap.size) d v:=by
 induction h with
 | int S n=>exact .int _ n
 | byte S n=>exact .byte _ n
 | bool S b=>exact .bool _ b
 | str S s h=>exact .str _ s h
 | arr S sz es a cap f Sub h1 h2 h3 h4 h5 h6 h7 ih =>
  refine .arr _ sz es a cap f (fun i j x=>Sub i j x∧x<w.heap.size) h1 h2 ?_ h4 (fun i j x h=>⟨h5 i j x h.1,h.2⟩) (fun ho i j i' j' x h h'=>h6 ho i j i' j' x h.1 h'.1) ih
  rcases h3 with h3 | ⟨b,off,ha,hS,hl,hc,ho⟩
  ·exact .inl h3
  ·exact .inr ⟨b,off,ha,⟨hS,hl⟩,hl,hc,fun h=>⟨fun i j hx=>(ho h).1 i j hx.1,(ho h).2⟩⟩
theorem DAt.rep {w:World} {es:List (List D)} {v:Value} (h:DAt w (.arr es) v):RepV w (fun b=>b<w.heap.size) (fun _=>none) (.arr es) v:=by
 simp only [RepV]
 exact (DRep.lt_ h).up fun b hb=>hb.2
theorem Fun.yes {f:FuncId} {args:List SV} (h:Fun Tryz.prog f args [] (.bool true) []) {w:World} {vs:List Value} (hgl:GL w fun b=>b<w.heap.size) (hvs:RepVs w (fun b=>b<w.heap.size) (fun _=>none) args vs):Calls Tryz.prog f vs.toArray w (Ret w (.bool true)):=by
 have nl:∀ g,¬ (Ap [] g).live:=fun g hg=>by simp [Ap,Ob.live] at hg
 refine (h w (fun b=>b<w.heap.size) (fun _=>none) (fun _ _=>False) vs ⟨fun b hb=>hb,fun g hg=>absurd hg (nl g),fun g b hg=>absurd hg (nl g),fun g b hg=>absurd hg (nl g),fun g g' b hg=>absurd hg (nl g),fun g _=>rfl,hgl⟩ hvs).mono ?_
 rintro e w' ⟨v,I',V',B',rfl,hr,hp⟩
 simp only [RepV] at hr
 subst hr
 exact ⟨rfl,hp.fr.os,hp.fr.tape.1,hp.fr.output,hp.fr.size,fun b hb=>hp.fr.block b hb fun ⟨g,hg,_⟩=>absurd hg (nl g)⟩
theorem UU {w:World} {I:Nat→Prop} {V:Nat→Option Value}:RepVs w I V [] []:=by simp [RepVs]
theorem SW {w:World} {I:Nat→Prop} {V:Nat→Option Value} {x:SV} {xs:List SV} {v:Value} {vs:List Value} (h:RepV w I V x v) (hs:RepVs w I V xs vs):RepVs w I V (x :: xs) (v :: vs):=by
 simp only [RepVs]; exact ⟨v,vs,rfl,h,hs⟩
section
variable {H:Type} {enc:TypeId × Value→H} {w:World} {base:Nat} {spare:Nat→Bool} {held:Bool}
end
end Go.Proofs.YtkmenhhapfombaaGreat
set_option maxRecDepth 100000
set_option linter.unusedSimpArgs false
set_option linter.unusedVariables false
set_option linter.unusedSectionVars false
namespace Go.Proofs.YtkmenhhapfombaaGreat
open Go.RowKit Go.ChangeShapes Go.WideShapes Go.ChangeAt Go.Deep
section
variable {H:Type} {enc:TypeId × Value→H} {w:World} {base:Nat} {spare:Nat→Bool} {held:Bool}
abbrev ByteZ:={ b:Int // 0≤b∧b≤255 }
instance:Inhabited ByteZ:=⟨⟨0,by omega⟩⟩
theorem SY {fuel:Nat} {v:Value} {x:DataW H × List MemPlace} (h:DataW.trod enc Tryz.prog w base spare held fuel 22 [v]=some x):∃ l:List Int,Bytes l∧DAt w (.arr (l.map by_)) v:=by
 obtain ⟨a,len,cap,f,rfl,hl,hm,hS,hr⟩:=US (P:=Tryz.prog) 1 (by kernel_rfl) (by omega) Tryz.underlying22 h
 obtain ⟨xs,hx⟩:=UT (fun s:ByteZ=>[D.byte s.1]) hl hm hS fun i hi=>by
  obtain ⟨n,x',hn,h1⟩:=hr i hi
  obtain ⟨z,q,_,hw⟩:=DataW.trod_int Tryz.underlying5 h1
  have h2:(decide (IntKind.u8.min≤z)&&decide (z≤IntKind.u8.max))=true:=hw
  rw [zA,decide_eq_true_eq,decide_eq_true_eq] at h2
  rw [q]
  exact ⟨⟨z,h2.1,h2.2⟩,.cons (.byte _ z) .nil⟩
 refine ⟨xs.map (·.1),fun b hb=>?_,?_⟩
 ·obtain ⟨s,_,rfl⟩:=List.mem_map.1 hb
  exact s.2
 ·rw [List.map_map]
  exact hx
end
end Go.Proofs.YtkmenhhapfombaaGreat
