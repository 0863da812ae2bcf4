/-
  This text holds, one behind the other: This text tells what the laws' comparing functions answer. No condition.
  This text tells what composing substitutions answers in the program. No condition.
  This text tells what composing substitutions answers in both packages. No condition.
  This text tells what the variables of a term answer in the reference. No condition.
  This text holds the plain laws of unification: what the steps do, and that they end. No condition.
  This text tells how often a name occurs in a term. No condition.
  This text tells whether a name is in a list of names, in the reference. No condition.
  This text tells whether a variable occurs in a term, in the program. No condition.
  This text tells what the steps of unification answer in both packages. No condition.
  This text says how equations lie in memory. No condition.
  This text holds what unifying comes to. No condition.
  This text holds what factors and resolvents come to. No condition.
  This text names the parts of the program's unifying loop. No condition.
  This text goes one round of the program's unifying loop (1 of 4). No condition.
  This text goes one round of the program's unifying loop (2 of 4). No condition.
  This text goes one round of the program's unifying loop (3 of 4). No condition.
  This text goes one round of the program's unifying loop (4 of 4). No condition.
  This text tells what unifying answers in the program. No condition.
  This text tells what a question for a range answers. No condition.
  This text tells what factors answer in the program. No condition.
  This text tells what resolvents and factors answer in the program. No condition.
  This text tells what the variables of a clause in their order answer in the reference. No condition.
  This text tells what renaming and normalizing a clause answer in the reference. No condition.
  This text tells what normalizing, and renaming a clause apart, answer in the reference. No condition.
  This text names the parts of the reference's unifying loop. No condition.
  This text goes one round of the reference's unifying loop (1 of 4). No condition.
  This text goes one round of the reference's unifying loop (2 of 4). No condition.
-/
import Derived.Test.YtibdknkacmimgaaGreatDoorK46c
import Derived.Test.YtibdknkacmimgaaGreatDoorK46d
set_option maxHeartbeats 16000000
set_option maxRecDepth 100000
set_option linter.unusedSimpArgs false
set_option linter.unusedVariables false
set_option linter.unusedSectionVars false
namespace Go.Proofs.YtibdknkacmimgaaGreatDoor
open Go.RowKit
def LG:SC:=(.seq (.reg [⟨some 2,none,.boxv 71 2 (.t 0)⟩,⟨some 3,none,.boxv 71 2 (.t 1)⟩,⟨some 4,none,.mv (.c (.bool false))⟩]) (.seq (.seq (.reg [⟨some 5,none,.faddr 0 (.t 2)⟩,⟨some 6,none,.load false 1 (.t 5)⟩,⟨some 7,none,.faddr 0 (.t 3)⟩,⟨some 8,none,.load false 1 (.t 7)⟩,⟨some 9,none,.bin .neq false (.t 6) (.t 8)⟩]) (.cond (.t 9) (.seq (.reg [⟨some 4,none,.mv (.c (.bool false))⟩]) .ret) .skip)) (.seq (.seq (.reg [⟨some 10,none,.faddr 1 (.t 2)⟩,⟨some 11,none,.load false 1 (.t 10)⟩,⟨some 12,none,.faddr 1 (.t 3)⟩,⟨some 13,none,.load false 1 (.t 12)⟩,⟨some 14,none,.call 141 [(.t 11),(.t 13)]⟩,⟨some 15,none,.un .not (.t 14)⟩]) (.cond (.t 15) (.seq (.reg [⟨some 4,none,.mv (.c (.bool false))⟩]) .ret) .skip)) (.seq (.reg [⟨some 4,none,.mv (.c (.bool true))⟩]) .ret))))
theorem Sv:Am Tryz.prog 96=some ⟨16,LG,[(.tmp 4)]⟩:=by kernel_rfl
theorem Ip:modes 96=⟨[],.asis,none,false⟩:=by unfold modes; rfl
def KJ:SC:=(.seq (.reg [⟨some 4,none,.mv (.c (.bool false))⟩]) (.seq (.seq (.reg [⟨some 6,none,.mv (.t 0)⟩,⟨some 7,none,.len false (.t 6)⟩,⟨some 8,none,.mv (.t 1)⟩,⟨some 9,none,.len false (.t 8)⟩,⟨some 10,none,.bin .neq false (.t 7) (.t 9)⟩]) (.cond (.t 10) (.seq (.reg [⟨some 4,none,.mv (.c (.bool false))⟩]) .ret) .skip)) (.seq (.seq (.reg [⟨some 5,none,.mv (.c (.int .i64 0))⟩]) (.block 0 (.loop [1,1,0,0,0,1,0,0,0,0,0,0,0,0,0,0,0,0,0,0,0,0,0,0,0,0,0] (.seq (.seq (.reg [⟨some 11,none,.mv (.t 5)⟩,⟨some 12,none,.mv (.t 0)⟩,⟨some 13,none,.len false (.t 12)⟩,⟨some 14,none,.bin .lss false (.t 11) (.t 13)⟩]) (.cond (.t 14) .skip (.exit 0))) (.seq (.block 1 (.seq (.dreg [[],[],[0,1],[2,0,1],[],[],[4,5],[6,4,5],[3,2,0,1,7,6,4,5],[8,3,2,0,1,7,6,4,5]] [⟨some 17,none,.mv (.t 0)⟩,⟨some 18,none,.mv (.t 5)⟩,⟨some 19,none,.iaddr 2 (.t 17) (.t 18)⟩,⟨some 20,none,.load true 2 (.t 19)⟩,⟨some 21,none,.mv (.t 1)⟩,⟨some 22,none,.mv (.t 5)⟩,⟨some 23,none,.iaddr 2 (.t 21) (.t 22)⟩,⟨some 24,none,.load true 2 (.t 23)⟩,⟨some 25,none,.call 96 [(.t 20),(.t 24)]⟩,⟨some 26,none,.un .not (.t 25)⟩]) (.cond (.t 26) (.seq (.reg [⟨some 4,none,.mv (.c (.bool false))⟩]) .ret) .skip))) (.reg [⟨some 15,none,.mv (.t 5)⟩,⟨some 16,none,.bin .add false (.t 15) (.c (.int .i64 1))⟩,⟨some 5,none,.mv (.t 16)⟩])))))) (.seq (.reg [⟨some 4,none,.mv (.c (.bool true))⟩]) .ret))))
theorem R5:Am Tryz.prog 141=some ⟨27,KJ,[(.tmp 4)]⟩:=by kernel_rfl
theorem KK:modes 141=⟨[],.asis,none,false⟩:=by unfold modes; rfl
abbrev Nu (x:Tm):Prop:=x.bulk≤1048576→E 96 [x.sv,x.sv] []=some (.bool true,[])
abbrev TF (xs:List Tm):Prop:=xs.length+Tm.sumB xs≤1048576→E 141 [.arr (xs.map Tm.d),.arr (xs.map Tm.d)] []=some (.bool true,[])
theorem UM (xs:List Tm) (h:∀ x∈xs,Nu x):TF xs:=by
  intro hb
  refine Ah R5 KK (of_decide_eq_true rfl) ?_
  simp (disch:=omega) only [KJ,go_sem,Aa]
  refine As (α:=Int) (fun i=>⟨slots 27 0 [(0,.arr (xs.map Tm.d)),(1,.arr (xs.map Tm.d)),(5,.int .i64 i)],[]⟩) (fun i=>∃ k:Nat,i=k∧k≤xs.length) (fun i=>xs.length - i.toNat) 0 ⟨0,rfl,Nat.zero_le _⟩ (by simp (disch:=omega) only [go_sem,Aa]) ?_
  · rintro i ⟨k,rfl,hk⟩
    obtain ⟨i,hi⟩:∃ i:Int,i=(k:Int):=⟨_,rfl⟩
    rw [← hi]
    have hn:i.toNat=k:=by omega
    rcases Nat.lt_or_ge k xs.length with hlt | hge
    · have hg:=Aq Tm.d hlt
      rw [Tm.d_eq] at hg
      have hle:=Tm.bulk_le xs k hlt
      have hc:=h xs[k] (List.getElem_mem hlt) (by omega)
      simp (disch:=omega) only [go_sem,Aa,hn,hg,hc,Ip]
      refine ⟨i+1,⟨k+1,by omega,hlt⟩,by omega,?_⟩
      trivial
    · obtain rfl:k=xs.length:=by omega
      simp (disch:=omega) only [go_sem,Aa,hn]
theorem WF (x:Tm) (h_args:TF x.args):Nu x:=by
  intro hb
  have qb:=Tm.bulk_eq x
  replace h_args:=h_args (by omega)
  refine Ah Sv Ip (of_decide_eq_true rfl) ?_
  simp (disch:=omega) only [LG,go_sem,Aa,h_args,KK,D0]
theorem WG (x:Tm):Nu x:=WF x (UM x.args fun y hy=>WG y)
termination_by SizeOf.sizeOf x
decreasing_by exact Tm.Az hy
def IP:SC:=(.seq (.reg [⟨some 2,none,.boxv 73 3 (.t 0)⟩,⟨some 3,none,.boxv 73 3 (.t 1)⟩,⟨some 4,none,.mv (.c (.bool false))⟩]) (.seq (.seq (.reg [⟨some 5,none,.faddr 0 (.t 2)⟩,⟨some 6,none,.load false 1 (.t 5)⟩,⟨some 7,none,.faddr 0 (.t 3)⟩,⟨some 8,none,.load false 1 (.t 7)⟩,⟨some 9,none,.bin .neq true (.t 6) (.t 8)⟩]) (.cond (.t 9) (.seq (.reg [⟨some 4,none,.mv (.c (.bool false))⟩]) .ret) .skip)) (.seq (.seq (.reg [⟨some 10,none,.faddr 1 (.t 2)⟩,⟨some 11,none,.load true 2 (.t 10)⟩,⟨some 12,none,.faddr 1 (.t 3)⟩,⟨some 13,none,.load true 2 (.t 12)⟩,⟨some 14,none,.call 96 [(.t 11),(.t 13)]⟩,⟨some 15,none,.un .not (.t 14)⟩]) (.cond (.t 15) (.seq (.reg [⟨some 4,none,.mv (.c (.bool false))⟩]) .ret) .skip)) (.seq (.reg [⟨some 4,none,.mv (.c (.bool true))⟩]) .ret))))
theorem Oz:Am Tryz.prog 60=some ⟨16,IP,[(.tmp 4)]⟩:=by kernel_rfl
theorem IQ:modes 60=⟨[],.asis,none,false⟩:=by unfold modes; rfl
def HP:SC:=(.seq (.reg [⟨some 4,none,.mv (.c (.bool false))⟩]) (.seq (.seq (.reg [⟨some 6,none,.mv (.t 0)⟩,⟨some 7,none,.len false (.t 6)⟩,⟨some 8,none,.mv (.t 1)⟩,⟨some 9,none,.len false (.t 8)⟩,⟨some 10,none,.bin .neq false (.t 7) (.t 9)⟩]) (.cond (.t 10) (.seq (.reg [⟨some 4,none,.mv (.c (.bool false))⟩]) .ret) .skip)) (.seq (.seq (.reg [⟨some 5,none,.mv (.c (.int .i64 0))⟩]) (.block 0 (.loop [1,1,0,0,0,1,0,0,0,0,0,0,0,0,0,0,0,0,0,0,0,0,0,0,0,0,0] (.seq (.seq (.reg [⟨some 11,none,.mv (.t 5)⟩,⟨some 12,none,.mv (.t 0)⟩,⟨some 13,none,.len false (.t 12)⟩,⟨some 14,none,.bin .lss false (.t 11) (.t 13)⟩]) (.cond (.t 14) .skip (.exit 0))) (.seq (.block 1 (.seq (.dreg [[],[],[0,1],[2,0,1],[],[],[4,5],[6,4,5],[3,2,0,1,7,6,4,5],[8,3,2,0,1,7,6,4,5]] [⟨some 17,none,.mv (.t 0)⟩,⟨some 18,none,.mv (.t 5)⟩,⟨some 19,none,.iaddr 3 (.t 17) (.t 18)⟩,⟨some 20,none,.load true 3 (.t 19)⟩,⟨some 21,none,.mv (.t 1)⟩,⟨some 22,none,.mv (.t 5)⟩,⟨some 23,none,.iaddr 3 (.t 21) (.t 22)⟩,⟨some 24,none,.load true 3 (.t 23)⟩,⟨some 25,none,.call 60 [(.t 20),(.t 24)]⟩,⟨some 26,none,.un .not (.t 25)⟩]) (.cond (.t 26) (.seq (.reg [⟨some 4,none,.mv (.c (.bool false))⟩]) .ret) .skip))) (.reg [⟨some 15,none,.mv (.t 5)⟩,⟨some 16,none,.bin .add false (.t 15) (.c (.int .i64 1))⟩,⟨some 5,none,.mv (.t 16)⟩])))))) (.seq (.reg [⟨some 4,none,.mv (.c (.bool true))⟩]) .ret))))
theorem Nv:Am Tryz.prog 34=some ⟨27,HP,[(.tmp 4)]⟩:=by kernel_rfl
theorem HQ:modes 34=⟨[],.asis,none,false⟩:=by unfold modes; rfl
abbrev KL (x:Lt):Prop:=x.bulk≤1048576→E 60 [x.sv,x.sv] []=some (.bool true,[])
abbrev Nw (xs:List Lt):Prop:=xs.length+Lt.sumB xs≤1048576→E 34 [.arr (xs.map Lt.d),.arr (xs.map Lt.d)] []=some (.bool true,[])
theorem Pu (xs:List Lt) (h:∀ x∈xs,KL x):Nw xs:=by
  intro hb
  refine Ah Nv HQ (of_decide_eq_true rfl) ?_
  simp (disch:=omega) only [HP,go_sem,Aa]
  refine As (α:=Int) (fun i=>⟨slots 27 0 [(0,.arr (xs.map Lt.d)),(1,.arr (xs.map Lt.d)),(5,.int .i64 i)],[]⟩) (fun i=>∃ k:Nat,i=k∧k≤xs.length) (fun i=>xs.length - i.toNat) 0 ⟨0,rfl,Nat.zero_le _⟩ (by simp (disch:=omega) only [go_sem,Aa]) ?_
  · rintro i ⟨k,rfl,hk⟩
    obtain ⟨i,hi⟩:∃ i:Int,i=(k:Int):=⟨_,rfl⟩
    rw [← hi]
    have hn:i.toNat=k:=by omega
    rcases Nat.lt_or_ge k xs.length with hlt | hge
    · have hg:=Aq Lt.d hlt
      rw [Lt.d_eq] at hg
      have hle:=Lt.bulk_le xs k hlt
      have hc:=h xs[k] (List.getElem_mem hlt) (by omega)
      simp (disch:=omega) only [go_sem,Aa,hn,hg,hc,IQ]
      refine ⟨i+1,⟨k+1,by omega,hlt⟩,by omega,?_⟩
      trivial
    · obtain rfl:k=xs.length:=by omega
      simp (disch:=omega) only [go_sem,Aa,hn]
theorem R6 (x:Lt) (h_atom:Nu x.atom):KL x:=by
  intro hb
  have qb:=Lt.bulk_eq x
  replace h_atom:=h_atom (by omega)
  refine Ah Oz IQ (of_decide_eq_true rfl) ?_
  simp (disch:=omega) only [IP,go_sem,Aa,h_atom,Ip,D0]
theorem WH (x:Lt):KL x:=R6 x (WG x.atom)
def JG:SC:=(.seq (.reg [⟨some 2,none,.boxv 28 1 (.t 0)⟩,⟨some 3,none,.boxv 28 1 (.t 1)⟩,⟨some 4,none,.mv (.c (.bool false))⟩]) (.seq (.seq (.reg [⟨some 5,none,.faddr 0 (.t 2)⟩,⟨some 6,none,.load false 1 (.t 5)⟩,⟨some 7,none,.faddr 0 (.t 3)⟩,⟨some 8,none,.load false 1 (.t 7)⟩,⟨some 9,none,.call 34 [(.t 6),(.t 8)]⟩,⟨some 10,none,.un .not (.t 9)⟩]) (.cond (.t 10) (.seq (.reg [⟨some 4,none,.mv (.c (.bool false))⟩]) .ret) .skip)) (.seq (.reg [⟨some 4,none,.mv (.c (.bool true))⟩]) .ret)))
theorem Pv:Am Tryz.prog 12=some ⟨11,JG,[(.tmp 4)]⟩:=by kernel_rfl
theorem D8:modes 12=⟨[],.asis,none,false⟩:=by unfold modes; rfl
abbrev R7 (x:Cl):Prop:=x.bulk≤1048576→E 12 [x.sv,x.sv] []=some (.bool true,[])
theorem Sw (x:Cl) (h_lits:Nw x.lits):R7 x:=by
  intro hb
  have qb:=Cl.bulk_eq x
  replace h_lits:=h_lits (by omega)
  refine Ah Pv D8 (of_decide_eq_true rfl) ?_
  simp (disch:=omega) only [JG,go_sem,Aa,h_lits,HQ,D0]
theorem R8 (x:Cl):R7 x:=Sw x (Pu x.lits fun y hy=>WH y)
theorem A8:modes 134=⟨[true],.asis,some Dq,false⟩:=by unfold modes; rfl
theorem Qdm (l:List Bd) (hl:l.length≤1099511627776) (hn:(l.map Bd.var).Nodup):E 134 [.ref 0,.fn 135 []] [.row 139 3 (l.map Bd.o)]=some (.tup [],[.row 139 3 ((l.mergeSort bdLe).map Bd.o)]):=by
  rw [Jk (g:=Dq) (congrArg FM.ext A8)]
  unfold Dq
  simp only
  have e1:(l.map Bd.o).map VP=l.map Bd.var:=by rw [List.map_map]; rfl
  rw [A4 ⟨by first | trivial | rfl,by first | trivial | rfl,fun e he=>by obtain ⟨b,_,rfl⟩:=List.mem_map.1 he; exact ⟨_,_,_,rfl⟩,by rw [e1]; exact hn,by simpa using hl⟩,cond_true]
  have e2:(l.mergeSort bdLe).map Bd.o=(l.map Bd.o).mergeSort rowLe:=List.map_mergeSort fun a _ b _=>rfl
  rw [e2]
theorem QaA:E 134 [.nil,.fn 135 []] []=some (.tup [],[]):=by
  rw [Jk (g:=Dq) (congrArg FM.ext A8)]
  unfold Dq
  simp only
  rw [A4 (by first | trivial | rfl),cond_true]
def JH:SC:=(.seq (.reg [⟨some 2,none,.boxv 76 1 (.t 0)⟩,⟨some 3,none,.boxv 76 1 (.t 1)⟩,⟨some 4,none,.alloc 76 [.nil]⟩,⟨some 5,none,.mv (.c (.bool false))⟩]) (.seq (.reg [⟨some 14,none,.build [.nil] []⟩,⟨some 6,none,.alloc 76 [.nil]⟩,⟨none,none,(.store 1 (.t 6) (.t 14))⟩]) (.seq (.seq (.reg [⟨some 15,none,.faddr 0 (.t 2)⟩,⟨some 16,none,.load false 1 (.t 15)⟩,⟨some 17,none,.len false (.t 16)⟩,⟨some 18,none,.mv (.c (.int .i64 0))⟩]) (.block 0 (.loop [0,0,1,1,1,0,1,0,0,0,0,0,0,0,0,0,1,1,1,0,0,0,0,0,0,0,0,0,0,0,0,0,0,0,0,0,0,0,0,0,0,0,0,0,0,0,0,0,0,0,0,0,0,0,0,0,0,0,0,0,0,0,0,0,0,0,0,0,0,0,0,0,0,0,0,0,0] (.seq (.reg [⟨some 19,none,.bin .lss false (.t 18) (.t 17)⟩]) (.seq (.cond (.t 19) .skip (.exit 0)) (.seq (.block 1 (.seq (.reg [⟨some 20,none,.iaddr 3 (.t 16) (.t 18)⟩,⟨some 21,none,.load true 3 (.t 20)⟩,⟨(some 8),none,(.alloc 139 [(.str ⟨#[]⟩),(.str ⟨#[]⟩),.nil])⟩,⟨none,none,(.store 3 (.t 8) (.t 21))⟩]) (.seq (.reg [⟨some 22,none,.load true 1 (.t 3)⟩,⟨some 23,none,.faddr 1 (.t 8)⟩,⟨some 24,none,.load true 2 (.t 23)⟩,⟨some 25,none,.call 126 [(.t 22),(.t 24)]⟩,⟨(some 9),none,(.alloc 71 [(.str ⟨#[]⟩),.nil])⟩,⟨none,none,(.store 2 (.t 9) (.t 25))⟩]) (.seq (.reg [⟨some 26,none,.faddr 0 (.t 9)⟩,⟨some 27,none,.load false 1 (.t 26)⟩,⟨some 28,none,.faddr 0 (.t 8)⟩,⟨some 29,none,.load false 1 (.t 28)⟩,⟨some 30,none,.bin .neq false (.t 27) (.t 29)⟩]) (.cond (.t 30) (.reg [⟨some 31,none,.faddr 0 (.t 6)⟩,⟨some 32,none,.load false 1 (.t 31)⟩,⟨some 33,none,.faddr 0 (.t 8)⟩,⟨some 34,none,.load false 1 (.t 33)⟩,⟨some 35,none,.load true 2 (.t 9)⟩,⟨(some 36),none,(.build [(.str ⟨#[]⟩),(.str ⟨#[]⟩),.nil] [(0,(1,(.t 34))),(1,(2,(.t 35)))])⟩,⟨(some 37),none,(.mkrow 139 3 [(.str ⟨#[]⟩),(.str ⟨#[]⟩),.nil] 1 [(0,(.t 36))])⟩,⟨(some 38),none,(.append 139 3 56 [(.str ⟨#[]⟩),(.str ⟨#[]⟩),.nil] (.t 32) (.t 37))⟩,⟨some 39,none,.faddr 0 (.t 6)⟩,⟨none,none,(.store 1 (.t 39) (.t 38))⟩]) .skip))))) (.reg [⟨some 40,none,.bin .add false (.t 18) (.c (.int .i64 1))⟩,⟨some 18,none,.mv (.t 40)⟩]))))))) (.seq (.seq (.reg [⟨some 41,none,.faddr 0 (.t 3)⟩,⟨some 42,none,.load false 1 (.t 41)⟩,⟨some 43,none,.len false (.t 42)⟩,⟨some 44,none,.mv (.c (.int .i64 0))⟩]) (.block 2 (.loop [0,0,1,0,1,0,1,0,0,0,0,0,0,0,0,0,0,0,0,0,0,0,0,0,0,0,0,0,0,0,0,0,0,0,0,0,0,0,0,0,0,0,1,1,1,0,0,0,0,0,0,0,0,0,0,0,0,0,0,0,0,0,0,0,0,0,0,0,0,0,0,0,0,0,0,0,0] (.seq (.reg [⟨some 45,none,.bin .lss false (.t 44) (.t 43)⟩]) (.seq (.cond (.t 45) .skip (.exit 2)) (.seq (.block 3 (.seq (.reg [⟨some 46,none,.iaddr 3 (.t 42) (.t 44)⟩,⟨some 47,none,.load true 3 (.t 46)⟩,⟨(some 11),none,(.alloc 139 [(.str ⟨#[]⟩),(.str ⟨#[]⟩),.nil])⟩,⟨none,none,(.store 3 (.t 11) (.t 47))⟩]) (.seq (.reg [⟨some 49,none,.load true 1 (.t 2)⟩,⟨some 50,none,.faddr 0 (.t 11)⟩,⟨some 51,none,.load false 1 (.t 50)⟩,⟨some 52,none,.call 132 [(.t 49),(.t 51)]⟩,⟨some 48,none,.mv (.t 52)⟩,⟨some 53,none,.ext (.t 48) 0⟩,⟨some 54,none,.ext (.t 48) 1⟩,⟨(some 12),none,(.alloc 71 [(.str ⟨#[]⟩),.nil])⟩,⟨none,none,(.store 2 (.t 12) (.t 53))⟩,⟨some 13,none,.mv (.t 54)⟩]) (.seq (.reg [⟨some 55,none,.mv (.t 13)⟩,⟨some 56,none,.un .not (.t 55)⟩]) (.cond (.t 56) (.dreg [[],[0],[],[2],[],[4],[5,4],[3,2,6,5,4],[7,3,2,6,5,4],[1,0,8,7,3,2,6,5,4],[0,1,2,3,4,5,6,7,8,9],[10,0,1,2,3,4,5,6,7,8,9]] [⟨some 57,none,.faddr 0 (.t 6)⟩,⟨some 58,none,.load false 1 (.t 57)⟩,⟨some 59,none,.faddr 0 (.t 11)⟩,⟨some 60,none,.load false 1 (.t 59)⟩,⟨some 61,none,.faddr 1 (.t 11)⟩,⟨some 62,none,.load true 2 (.t 61)⟩,⟨some 63,none,.call 133 [(.t 62)]⟩,⟨(some 64),none,(.build [(.str ⟨#[]⟩),(.str ⟨#[]⟩),.nil] [(0,(1,(.t 60))),(1,(2,(.t 63)))])⟩,⟨(some 65),none,(.mkrow 139 3 [(.str ⟨#[]⟩),(.str ⟨#[]⟩),.nil] 1 [(0,(.t 64))])⟩,⟨(some 66),none,(.append 139 3 56 [(.str ⟨#[]⟩),(.str ⟨#[]⟩),.nil] (.t 58) (.t 65))⟩,⟨some 67,none,.faddr 0 (.t 6)⟩,⟨none,none,(.store 1 (.t 67) (.t 66))⟩]) .skip))))) (.reg [⟨some 68,none,.bin .add false (.t 44) (.c (.int .i64 1))⟩,⟨some 44,none,.mv (.t 68)⟩]))))))) (.seq (.reg [⟨some 69,none,.faddr 0 (.t 6)⟩,⟨some 70,none,.load false 1 (.t 69)⟩,⟨some 71,none,.call 134 [(.t 70),(.c (.fn 135 []))]⟩]) (.seq (.seq (.reg [⟨some 72,none,.load true 1 (.t 6)⟩,⟨some 73,none,.call 131 [(.t 72)]⟩,⟨some 74,none,.un .not (.t 73)⟩]) (.cond (.t 74) (.seq (.reg [⟨some 75,none,.build [.nil] []⟩,⟨none,none,(.store 1 (.t 4) (.t 75))⟩,⟨some 5,none,.mv (.c (.bool false))⟩]) .ret) .skip)) (.seq (.reg [⟨some 76,none,.load true 1 (.t 6)⟩,⟨none,none,(.store 1 (.t 4) (.t 76))⟩,⟨some 5,none,.mv (.c (.bool true))⟩]) .ret)))))))
theorem Pw:Am Tryz.prog 91=some ⟨77,JH,[(.cell 4 true 1),(.tmp 5)]⟩:=by kernel_rfl
theorem Aj:modes 91=⟨[],.own [some (139,3),none],none,false⟩:=by unfold modes; rfl
theorem Sb.R9 {u:Sb} (hu:u.ok=true) {t:Tm} (ht:t.valid=true):(t.ap u.look).nodes≤900:=by
  have h:=Tm.IE (Sb.Fa hu) t
  have h2:t.nodes≤30:=Tm.Au (by unfold Tm.expr; rw [ht]; rfl)
  omega
theorem WI {t:Tm} (h:t.valid=true):t.names=true:=by
  unfold Tm.valid at h; rw [Bool.and_eq_true] at h; exact h.2
theorem Eb {t:Tm} (h:t.valid=true):t.nodes≤30:=Tm.Au (by unfold Tm.expr; rw [h]; rfl)
theorem ok_len {s:Sb} (h:s.ok=true):s.binds.length≤12:=by
  unfold Sb.ok at h; rw [Bool.and_eq_true,decide_eq_true_eq] at h; exact h.1
theorem Qce (s u:Sb):(Cn s u).binds.length≤s.binds.length+u.binds.length:=by
  unfold Cn
  show ((Cs s u).mergeSort bdLe).length≤_
  rw [(List.mergeSort_perm _ _).length_eq]
  exact Rv s u
theorem Y7 {s u:Sb} (hs:s.ok=true) (hu:u.ok=true) {b:Bd} (h:b∈Cs s u):b.term.nodes≤900:=by
  unfold Cs at h
  rcases List.mem_append.1 h with h | h
  · obtain ⟨c,hc,_,e⟩:=TC h
    obtain ⟨k,hk,rfl⟩:=List.getElem_of_mem hc
    rw [e]
    exact Sb.R9 hu (Dv (Sb.JA hs hk))
  · have hc:=(List.mem_filter.1 h).1
    obtain ⟨k,hk,rfl⟩:=List.getElem_of_mem hc
    have:=Eb (Dv (Sb.JA hu hk))
    omega
theorem TG {s u:Sb} (hs:s.ok=true) (hu:u.ok=true):(Cn s u).tame:=by
  have h1:=Qce s u
  have h2:=ok_len hs
  have h3:=ok_len hu
  refine ⟨by omega,fun y hy=>?_⟩
  have:=Y7 hs hu ((List.mergeSort_perm (Cs s u) bdLe).mem_iff.1 hy)
  omega
noncomputable def Ct (s u:Sb):Bool:=(Cn s u).ok
noncomputable def Fh (s u:Sb):Sb:=bif Ct s u then Cn s u else ⟨[]⟩
theorem Jw (s u:Sb) (hs:s.ok=true) (hu:u.ok=true) (hts:s.tame) (htu:u.tame):E 91 [s.sv,u.sv] []=some (.tup [(Fh s u).osv,.bool (Ct s u)],(Fh s u).obs):=by
  have hsl:=ok_len hs
  have hul:=ok_len hu
  have hnil:(([]:List Bd)=[])=True:=eq_self _
  refine Ah Pw Aj (of_decide_eq_true rfl) ?_
  simp (disch:=omega) only [JH,go_sem,Aa]
  refine As (α:=Int × List Bd) (fun a=>⟨slots 77 0 [(2,.ptr 0 0),(3,.ptr 1 0),(4,.ptr 2 0),(6,.ptr 3 0),(16,.arr (s.binds.map Bd.d)),(17,.int .i64 s.binds.length),(18,.int .i64 a.1)],(if a.2=[] then [.box 76 [.arr (s.binds.map Bd.d)],.box 76 [.arr (u.binds.map Bd.d)],.box 76 [.nil],.box 76 [.nil]] else [.box 76 [.arr (s.binds.map Bd.d)],.box 76 [.arr (u.binds.map Bd.d)],.box 76 [.nil],.box 76 [.ref 4],.row 139 3 (a.2.map Bd.o)])⟩) (fun a=>∃ k:Nat,a.1=k∧k≤s.binds.length∧a.2++(s.binds.drop k).filterMap (CE u)=Hq s u∧a.2.length≤k) (fun a=>s.binds.length - a.1.toNat) (0,[]) ⟨0,rfl,Nat.zero_le _,by rw [List.drop_zero]; rfl,Nat.le_refl _⟩ (by simp (disch:=omega) only [go_sem,Aa,hnil,if_true]) ?_
  rintro ⟨i,acc⟩ ⟨k,hi,hk,hR,hal⟩
  dsimp only at hi hR hal
  have hni:i.toNat=k:=by omega
  have hni1:(i+1).toNat=k+1:=by omega
  rcases Nat.lt_or_ge k s.binds.length with hlt | hge
  · have hg:=Aq Bd.d hlt
    rw [Bd.d_eq] at hg
    have hval:=Dv (Sb.JA hs hlt)
    have hc:=Z5 u hu htu s.binds[k].term (WI hval) (by have:=Eb hval; omega)
    rw [List.drop_eq_getElem_cons hlt,List.filterMap_cons] at hR
    cases hq:dec ((s.binds[k].term.ap u.look).name=s.binds[k].var) with
    | true =>
      have ho:CE u s.binds[k]=none:=by unfold CE; rw [hq]; rfl
      rw [ho] at hR
      rcases List.eq_nil_or_concat acc with ha | ⟨ys,y,ha⟩
      · subst ha
        simp (disch:=omega) only [go_sem,Aa,hni,hg,hc,hq,hnil,if_true,Tm.osv,Tm.obs,Ay,A9,Be]
        exact ⟨(i+1,[]),⟨k+1,by dsimp only; omega,hlt,hR,by dsimp only; omega⟩,by dsimp only; omega,by first | trivial | rfl | simp only [hnil,if_true,and_self]⟩
      · have hne:(acc=[])=False:=eq_false (by rw [ha]; simp)
        simp (disch:=omega) only [go_sem,Aa,hni,hg,hc,hq,hne,if_false,Tm.osv,Tm.obs,List.length_map,Ay,A9,Be]
        exact ⟨(i+1,acc),⟨k+1,by dsimp only; omega,hlt,hR,by dsimp only; omega⟩,by dsimp only; omega,by first | trivial | rfl | simp only [hne,if_false,and_self]⟩
    | false =>
      have ho:CE u s.binds[k]=some ⟨s.binds[k].var,s.binds[k].term.ap u.look⟩:=by unfold CE; rw [hq]; rfl
      rw [ho] at hR
      obtain ⟨b,hb⟩:∃ b:Bd,b=⟨s.binds[k].var,s.binds[k].term.ap u.look⟩:=⟨_,rfl⟩
      have hbo:[OT.str s.binds[k].var,.str (s.binds[k].term.ap u.look).name,.ow ((s.binds[k].term.ap u.look).args.map Tm.o)]=b.o:=by rw [hb]; rfl
      have hR':(acc++[b])++(s.binds.drop (k+1)).filterMap (CE u)=Hq s u:=by rw [hb,List.append_assoc]; exact hR
      have hnea:(acc++[b]=[])=False:=eq_false (by simp)
      have hlen:(acc++[b]).length≤k+1:=by rw [List.length_append]; simp only [List.length_cons,List.length_nil]; omega
      rcases List.eq_nil_or_concat acc with ha | ⟨ys,y,ha⟩
      · subst ha
        have hneb:([b]=[])=False:=eq_false (by simp)
        simp (disch:=omega) only [go_sem,Aa,hni,hg,hc,hq,hnil,if_true,Tm.osv,Tm.obs,Ay,A9,Be]
        exact ⟨(i+1,[b]),⟨k+1,by dsimp only; omega,hlt,hR',by simp⟩,by dsimp only; omega,by simp only [hneb,if_false,← hbo,List.map_cons,List.map_nil,and_self]⟩
      · have hne:(acc=[])=False:=eq_false (by rw [ha]; simp)
        simp (disch:=omega) only [go_sem,Aa,hni,hg,hc,hq,hne,if_false,Tm.osv,Tm.obs,List.length_map,Ay,A9,Be]
        exact ⟨(i+1,acc++[b]),⟨k+1,by dsimp only; omega,hlt,hR',by dsimp only; omega⟩,by dsimp only; omega,by simp only [hnea,if_false,← hbo,List.map_append,List.map_cons,List.map_nil,and_self]⟩
  rw [List.drop_eq_nil_of_le hge,List.filterMap_nil,List.append_nil] at hR
  subst hR
  have hl1:(Hq s u).length≤12:=by omega
  have htame:=TG hs hu
  have hvalid:=DG (Cn s u) htame
  have hnd:=Ng (Sb.J9 hs) (Sb.J9 hu)
  have hcl:=Rv s u
  have hsort:=Qdm (Cs s u) (by omega) hnd
  have hsn:=QaA
  have hosv:(Cn s u).sv=.agg [.arr (((Cs s u).mergeSort bdLe).map Bd.d)]:=rfl
  rw [hosv] at hvalid
  have hor:((Hq s u=[])=True)∨((Hq s u=[])=False):=by
    by_cases h:Hq s u=[]
    · exact .inl (eq_true h)
    · exact .inr (eq_false h)
  rcases hor with hE | hE
  all_goals
    simp (disch:=omega) only [go_sem,Aa,hni,hE,if_true,if_false]
    refine As (α:=Int × List Bd) (fun a=>⟨slots 77 0 [(2,.ptr 0 0),(4,.ptr 1 0),(6,.ptr 2 0),(42,.arr (u.binds.map Bd.d)),(43,.int .i64 u.binds.length),(44,.int .i64 a.1)],(if a.2=[] then [.box 76 [.arr (s.binds.map Bd.d)],.box 76 [.nil],.box 76 [.nil]] else [.box 76 [.arr (s.binds.map Bd.d)],.box 76 [.nil],.box 76 [.ref 3],.row 139 3 (a.2.map Bd.o)])⟩) (fun a=>∃ k:Nat,a.1=k∧k≤u.binds.length∧a.2++(u.binds.drop k).filter (fun b=>!DH s.binds b.var)=Cs s u∧a.2.length≤12+k) (fun a=>u.binds.length - a.1.toNat) (0,Hq s u) ⟨0,rfl,Nat.zero_le _,by rw [List.drop_zero]; rfl,by dsimp only; omega⟩ (by simp (disch:=omega) only [go_sem,Aa,hE,if_true,if_false]) ?_
    rintro ⟨i,acc⟩ ⟨k,hi,hk,hR,hal⟩
    dsimp only at hi hR hal
    have hni:i.toNat=k:=by omega
    have hni1:(i+1).toNat=k+1:=by omega
    rcases Nat.lt_or_ge k u.binds.length with hlt | hge
    · have hg:=Aq Bd.d hlt
      rw [Bd.d_eq] at hg
      have hval:=Dv (Sb.JA hu hlt)
      have hc:=Js u.binds[k].term (by have:=Eb hval; omega)
      rw [List.drop_eq_getElem_cons hlt,List.filter_cons] at hR
      cases hh:DH s.binds u.binds[k].var with
      | true =>
        have hq:=Yu s hs u.binds[k].var (by omega) hh (H9 hh)
        rw [hh,if_neg (by simp)] at hR
        rcases List.eq_nil_or_concat acc with ha | ⟨ys,y,ha⟩
        · subst ha
          simp (disch:=omega) only [go_sem,Aa,hni,hg,hc,hq,hnil,if_true,Tm.osv,Tm.obs,Ay,A9,Be]
          exact ⟨(i+1,[]),⟨k+1,by dsimp only; omega,hlt,hR,by simp⟩,by dsimp only; omega,by first | trivial | rfl | simp only [hnil,if_true,and_self]⟩
        · have hne:(acc=[])=False:=eq_false (by rw [ha]; simp)
          simp (disch:=omega) only [go_sem,Aa,hni,hg,hc,hq,hne,if_false,Tm.osv,Tm.obs,List.length_map,Ay,A9,Be]
          exact ⟨(i+1,acc),⟨k+1,by dsimp only; omega,hlt,hR,by dsimp only; omega⟩,by dsimp only; omega,by first | trivial | rfl | simp only [hne,if_false,and_self]⟩
      | false =>
        have hq:=Qa1 s hs u.binds[k].var (by omega) hh
        rw [hh,if_pos (by simp)] at hR
        have hbo:[OT.str u.binds[k].var,.str u.binds[k].term.name,.ow (u.binds[k].term.args.map Tm.o)]=u.binds[k].o:=rfl
        have hR':(acc++[u.binds[k]])++(u.binds.drop (k+1)).filter (fun b=>!DH s.binds b.var)=Cs s u:=by rw [List.append_assoc]; exact hR
        have hnea:(acc++[u.binds[k]]=[])=False:=eq_false (by simp)
        have hlen:(acc++[u.binds[k]]).length≤12+(k+1):=by rw [List.length_append]; simp only [List.length_cons,List.length_nil]; omega
        rcases List.eq_nil_or_concat acc with ha | ⟨ys,y,ha⟩
        · subst ha
          have hneb:([u.binds[k]]=[])=False:=eq_false (by simp)
          simp (disch:=omega) only [go_sem,Aa,hni,hg,hc,hq,hnil,if_true,Tm.osv,Tm.obs,Ay,A9,Be]
          exact ⟨(i+1,[u.binds[k]]),⟨k+1,by dsimp only; omega,hlt,hR',by simp; omega⟩,by dsimp only; omega,by simp only [hneb,if_false,← hbo,List.map_cons,List.map_nil,and_self]⟩
        · have hne:(acc=[])=False:=eq_false (by rw [ha]; simp)
          simp (disch:=omega) only [go_sem,Aa,hni,hg,hc,hq,hne,if_false,Tm.osv,Tm.obs,List.length_map,Ay,A9,Be]
          exact ⟨(i+1,acc++[u.binds[k]]),⟨k+1,by dsimp only; omega,hlt,hR',by dsimp only; omega⟩,by dsimp only; omega,by simp only [hnea,if_false,← hbo,List.map_append,List.map_cons,List.map_nil,and_self]⟩
    · rw [List.drop_eq_nil_of_le hge,List.filter_nil,List.append_nil] at hR
      subst hR
      unfold Fh
      cases hok:Ct s u with
      | false =>
        have hok':(Cn s u).ok=false:=hok
        rw [hok'] at hvalid
        simp only [cond_false]
        rcases List.eq_nil_or_concat (Cs s u) with ha | ⟨ys,y,ha⟩
        · have hz:(Cs s u=[])=True:=eq_true ha
          rw [ha,List.mergeSort_nil,List.map_nil] at hvalid
          simp (disch:=omega) only [go_sem,Aa,hni,hz,if_true,hsn,hvalid,A3,A8]
          try rfl
        · have hz:(Cs s u=[])=False:=eq_false (by rw [ha]; simp)
          simp (disch:=omega) only [go_sem,Aa,hni,hz,if_false,hsort,hvalid,Bd.erss,Bd.fus,A3,A8]
          try rfl
      | true =>
        have hok':(Cn s u).ok=true:=hok
        rw [hok'] at hvalid
        simp only [cond_true]
        rcases List.eq_nil_or_concat (Cs s u) with ha | ⟨ys,y,ha⟩
        · have hz:(Cs s u=[])=True:=eq_true ha
          have hcs:Cn s u=⟨[]⟩:=by unfold Cn; rw [ha,List.mergeSort_nil]
          rw [hcs]
          rw [ha,List.mergeSort_nil,List.map_nil] at hvalid
          simp (disch:=omega) only [go_sem,Aa,hni,hz,if_true,hsn,hvalid,A3,A8]
          try rfl
        · have hz:(Cs s u=[])=False:=eq_false (by rw [ha]; simp)
          simp (disch:=omega) only [go_sem,Aa,hni,hz,if_false,hsort,hvalid,Bd.erss,Bd.fus,A3,A8]
          try rfl
def Jx:SC:=(.seq (.reg [⟨some 3,none,.boxv 76 1 (.t 0)⟩,⟨some 5,none,.boxv 71 2 (.t 2)⟩,⟨some 6,none,.alloc 76 [.nil]⟩]) (.seq (.seq (.reg [⟨some 9,none,.faddr 0 (.t 5)⟩,⟨some 10,none,.load false 1 (.t 9)⟩,⟨some 11,none,.mv (.t 1)⟩,⟨some 12,none,.bin .eql false (.t 10) (.t 11)⟩]) (.cond (.t 12) (.seq (.reg [⟨some 13,none,.load true 1 (.t 3)⟩,⟨none,none,(.store 1 (.t 6) (.t 13))⟩]) .ret) .skip)) (.seq (.reg [⟨some 7,none,.mv (.c (.int .i64 0))⟩]) (.seq (.block 0 (.loop [0,1,0,1,0,1,1,1,0,0,0,0,0,0,0,0,0,0,0,0,0,0,0,0,0,0,0,0,0,0,0,0,0,0,0,0,0,0,0,0,0,0,0,0,0,0,0,0,0,0,0] (.seq (.seq (.reg [⟨some 14,none,.mv (.t 7)⟩,⟨some 15,none,.faddr 0 (.t 3)⟩,⟨some 16,none,.load false 1 (.t 15)⟩,⟨some 17,none,.len false (.t 16)⟩,⟨some 18,none,.bin .lss false (.t 14) (.t 17)⟩,⟨some 19,none,.mv (.t 18)⟩,⟨(some 20),(some (19,true)),(.faddr 0 (.t 3))⟩,⟨(some 21),(some (19,true)),(.load false 1 (.t 20))⟩,⟨(some 22),(some (19,true)),(.mv (.t 7))⟩,⟨(some 23),(some (19,true)),(.iaddr 3 (.t 21) (.t 22))⟩,⟨(some 24),(some (19,true)),(.faddr 0 (.t 23))⟩,⟨(some 25),(some (19,true)),(.load false 1 (.t 24))⟩,⟨(some 26),(some (19,true)),(.mv (.t 1))⟩,⟨(some 27),(some (19,true)),(.bin .lss false (.t 25) (.t 26))⟩,⟨some 28,none,.pick (.t 19) (.t 27) (.c (.bool false))⟩]) (.cond (.t 28) .skip (.exit 0))) (.block 1 (.reg [⟨some 29,none,.mv (.t 7)⟩,⟨some 30,none,.bin .add false (.t 29) (.c (.int .i64 1))⟩,⟨some 7,none,.mv (.t 30)⟩]))))) (.seq (.reg [⟨(some 31),none,(.mkrow 139 3 [(.str ⟨#[]⟩),(.str ⟨#[]⟩),.nil] 0 [])⟩,⟨some 32,none,.faddr 0 (.t 3)⟩,⟨some 33,none,.load false 1 (.t 32)⟩,⟨some 34,none,.mv (.t 7)⟩,⟨some 35,none,.slice false 3 (.t 33) none (some (.t 34))⟩,⟨(some 36),none,(.append 139 3 56 [(.str ⟨#[]⟩),(.str ⟨#[]⟩),.nil] (.t 31) (.t 35))⟩,⟨some 8,none,.mv (.t 36)⟩]) (.seq (.reg [⟨some 37,none,.mv (.t 8)⟩,⟨some 38,none,.mv (.t 1)⟩,⟨some 39,none,.load true 2 (.t 5)⟩,⟨some 40,none,.call 148 [(.t 39)]⟩,⟨(some 41),none,(.build [(.str ⟨#[]⟩),(.str ⟨#[]⟩),.nil] [(0,(1,(.t 38))),(1,(2,(.t 40)))])⟩,⟨(some 42),none,(.mkrow 139 3 [(.str ⟨#[]⟩),(.str ⟨#[]⟩),.nil] 1 [(0,(.t 41))])⟩,⟨(some 43),none,(.append 139 3 56 [(.str ⟨#[]⟩),(.str ⟨#[]⟩),.nil] (.t 37) (.t 42))⟩,⟨some 8,none,.mv (.t 43)⟩]) (.seq (.reg [⟨some 44,none,.mv (.t 8)⟩,⟨some 45,none,.faddr 0 (.t 3)⟩,⟨some 46,none,.load false 1 (.t 45)⟩,⟨some 47,none,.mv (.t 7)⟩,⟨some 48,none,.slice false 3 (.t 46) (some (.t 47)) none⟩,⟨(some 49),none,(.append 139 3 56 [(.str ⟨#[]⟩),(.str ⟨#[]⟩),.nil] (.t 44) (.t 48))⟩,⟨some 50,none,.build [.nil] [(0,(1,(.t 49)))]⟩,⟨none,none,(.store 1 (.t 6) (.t 50))⟩]) .ret)))))))
theorem Nx:Am Tryz.prog 116=some ⟨51,Jx,[(.cell 6 true 1)]⟩:=by kernel_rfl
theorem C2:modes 116=⟨[],.frz,none,false⟩:=by unfold modes; rfl
def IR:SC:=(.seq (.reg [⟨some 2,none,.boxv 76 1 (.t 0)⟩,⟨some 3,none,.boxv 76 1 (.t 1)⟩,⟨some 4,none,.alloc 76 [.nil]⟩]) (.seq (.reg [⟨some 8,none,.build [.nil] []⟩,⟨some 5,none,.alloc 76 [.nil]⟩,⟨none,none,(.store 1 (.t 5) (.t 8))⟩]) (.seq (.seq (.reg [⟨some 6,none,.mv (.c (.int .i64 0))⟩]) (.block 0 (.loop [0,0,1,1,1,1,1,0,0,0,0,0,0,0,0,0,0,0,0,0,0,0,0,0,0,0,0,0,0,0,0,0,0,0,0,0,0,0,0,0,0,0,0,0,0,0,0,0,0,0,0,0,0,0,0,0,0,0,0,0,0,0,0] (.seq (.seq (.reg [⟨some 9,none,.mv (.t 6)⟩,⟨some 10,none,.faddr 0 (.t 2)⟩,⟨some 11,none,.load false 1 (.t 10)⟩,⟨some 12,none,.len false (.t 11)⟩,⟨some 13,none,.bin .lss false (.t 9) (.t 12)⟩]) (.cond (.t 13) .skip (.exit 0))) (.seq (.block 1 (.dreg [[],[],[1],[],[2,1,3],[4,2,1,3],[5,4,2,1,3],[],[],[8],[],[9,8,10],[11,9,8,10],[12,11,9,8,10],[7,13,12,11,9,8,10],[0,6,5,4,2,1,3,14,7,13,12,11,9,8,10],[15,0,6,5,4,2,1,3,14,7,13,12,11,9,8,10]] [⟨some 16,none,.load true 1 (.t 5)⟩,⟨some 17,none,.faddr 0 (.t 2)⟩,⟨some 18,none,.load false 1 (.t 17)⟩,⟨some 19,none,.mv (.t 6)⟩,⟨some 20,none,.iaddr 3 (.t 18) (.t 19)⟩,⟨some 21,none,.faddr 0 (.t 20)⟩,⟨some 22,none,.load false 1 (.t 21)⟩,⟨some 23,none,.load true 1 (.t 3)⟩,⟨some 24,none,.faddr 0 (.t 2)⟩,⟨some 25,none,.load false 1 (.t 24)⟩,⟨some 26,none,.mv (.t 6)⟩,⟨some 27,none,.iaddr 3 (.t 25) (.t 26)⟩,⟨some 28,none,.faddr 1 (.t 27)⟩,⟨some 29,none,.load true 2 (.t 28)⟩,⟨some 30,none,.call 111 [(.t 23),(.t 29)]⟩,⟨some 31,none,.call 116 [(.t 16),(.t 22),(.t 30)]⟩,⟨none,none,(.store 1 (.t 5) (.t 31))⟩])) (.reg [⟨some 14,none,.mv (.t 6)⟩,⟨some 15,none,.bin .add false (.t 14) (.c (.int .i64 1))⟩,⟨some 6,none,.mv (.t 15)⟩])))))) (.seq (.seq (.reg [⟨some 7,none,.mv (.c (.int .i64 0))⟩]) (.block 2 (.loop [0,0,1,1,1,1,0,1,0,0,0,0,0,0,0,0,0,0,0,0,0,0,0,0,0,0,0,0,0,0,0,0,0,0,0,0,0,0,0,0,0,0,0,0,0,0,0,0,0,0,0,0,0,0,0,0,0,0,0,0,0,0,0] (.seq (.seq (.reg [⟨some 32,none,.mv (.t 7)⟩,⟨some 33,none,.faddr 0 (.t 3)⟩,⟨some 34,none,.load false 1 (.t 33)⟩,⟨some 35,none,.len false (.t 34)⟩,⟨some 36,none,.bin .lss false (.t 32) (.t 35)⟩]) (.cond (.t 36) .skip (.exit 2))) (.seq (.block 3 (.seq (.dreg [[],[],[1],[],[2,1,3],[4,2,1,3],[5,4,2,1,3],[0,6,5,4,2,1,3],[7,0,6,5,4,2,1,3]] [⟨some 39,none,.load true 1 (.t 2)⟩,⟨some 40,none,.faddr 0 (.t 3)⟩,⟨some 41,none,.load false 1 (.t 40)⟩,⟨some 42,none,.mv (.t 7)⟩,⟨some 43,none,.iaddr 3 (.t 41) (.t 42)⟩,⟨some 44,none,.faddr 0 (.t 43)⟩,⟨some 45,none,.load false 1 (.t 44)⟩,⟨some 46,none,.call 147 [(.t 39),(.t 45)]⟩,⟨some 47,none,.bin .lss false (.t 46) (.c (.int .i64 0))⟩]) (.cond (.t 47) (.dreg [[],[],[1],[],[2,1,3],[4,2,1,3],[5,4,2,1,3],[],[7],[],[8,7,9],[10,8,7,9],[11,10,8,7,9],[0,6,5,4,2,1,3,12,11,10,8,7,9],[13,0,6,5,4,2,1,3,12,11,10,8,7,9]] [⟨some 48,none,.load true 1 (.t 5)⟩,⟨some 49,none,.faddr 0 (.t 3)⟩,⟨some 50,none,.load false 1 (.t 49)⟩,⟨some 51,none,.mv (.t 7)⟩,⟨some 52,none,.iaddr 3 (.t 50) (.t 51)⟩,⟨some 53,none,.faddr 0 (.t 52)⟩,⟨some 54,none,.load false 1 (.t 53)⟩,⟨some 55,none,.faddr 0 (.t 3)⟩,⟨some 56,none,.load false 1 (.t 55)⟩,⟨some 57,none,.mv (.t 7)⟩,⟨some 58,none,.iaddr 3 (.t 56) (.t 57)⟩,⟨some 59,none,.faddr 1 (.t 58)⟩,⟨some 60,none,.load true 2 (.t 59)⟩,⟨some 61,none,.call 116 [(.t 48),(.t 54),(.t 60)]⟩,⟨none,none,(.store 1 (.t 5) (.t 61))⟩]) .skip))) (.reg [⟨some 37,none,.mv (.t 7)⟩,⟨some 38,none,.bin .add false (.t 37) (.c (.int .i64 1))⟩,⟨some 7,none,.mv (.t 38)⟩])))))) (.seq (.reg [⟨some 62,none,.load true 1 (.t 5)⟩,⟨none,none,(.store 1 (.t 4) (.t 62))⟩]) .ret)))))
theorem O0:Am Tryz.prog 150=some ⟨63,IR,[(.cell 4 true 1)]⟩:=by kernel_rfl
theorem F8:modes 150=⟨[],.frz,none,false⟩:=by unfold modes; rfl
def Bx:SC:=(.seq (.reg [⟨some 2,none,.boxv 76 1 (.t 0)⟩,⟨some 3,none,.boxv 76 1 (.t 1)⟩,⟨some 4,none,.alloc 76 [.nil]⟩,⟨some 5,none,.mv (.c (.bool false))⟩]) (.seq (.seq (.reg [⟨some 7,none,.load true 1 (.t 2)⟩,⟨some 8,none,.call 109 [(.t 7)]⟩,⟨some 9,none,.un .not (.t 8)⟩,⟨some 10,none,.mv (.t 9)⟩,⟨(some 11),(some (10,false)),(.load true 1 (.t 3))⟩,⟨(some 12),(some (10,false)),(.call 109 [(.t 11)])⟩,⟨(some 13),(some (10,false)),(.un .not (.t 12))⟩,⟨some 14,none,.pick (.t 10) (.c (.bool true)) (.t 13)⟩]) (.cond (.t 14) (.seq (.reg [⟨some 15,none,.build [.nil] []⟩,⟨none,none,(.store 1 (.t 4) (.t 15))⟩,⟨some 5,none,.mv (.c (.bool false))⟩]) .ret) .skip)) (.seq (.reg [⟨some 16,none,.load true 1 (.t 2)⟩,⟨some 17,none,.load true 1 (.t 3)⟩,⟨some 18,none,.call 150 [(.t 16),(.t 17)]⟩,⟨some 6,none,.alloc 76 [.nil]⟩,⟨none,none,(.store 1 (.t 6) (.t 18))⟩]) (.seq (.seq (.reg [⟨some 19,none,.load true 1 (.t 6)⟩,⟨some 20,none,.call 109 [(.t 19)]⟩,⟨some 21,none,.un .not (.t 20)⟩]) (.cond (.t 21) (.seq (.reg [⟨some 22,none,.build [.nil] []⟩,⟨none,none,(.store 1 (.t 4) (.t 22))⟩,⟨some 5,none,.mv (.c (.bool false))⟩]) .ret) .skip)) (.seq (.reg [⟨some 23,none,.load true 1 (.t 6)⟩,⟨none,none,(.store 1 (.t 4) (.t 23))⟩,⟨some 5,none,.mv (.c (.bool true))⟩]) .ret)))))
theorem BK:Am Tryz.prog 115=some ⟨24,Bx,[(.cell 4 true 1),(.tmp 5)]⟩:=by kernel_rfl
theorem By:modes 115=⟨[],.frz,none,false⟩:=by unfold modes; rfl
noncomputable def Sb.put (x:Sb) (b:Bd):Sb:=bif dec (b.term.name=b.var) then x else ⟨FZ x.binds b⟩
theorem Bd.ot_take (xs:List Bd) (k:Nat):((xs.map Bd.d).take k).map (fun x=>x.map D.ot)=(xs.take k).map fun b=>b.d.map D.ot:=by
  rw [← List.map_take,List.map_map]; rfl
theorem Bd.ot_drop (xs:List Bd) (k:Nat):((xs.map Bd.d).drop k).map (fun x=>x.map D.ot)=(xs.drop k).map fun b=>b.d.map D.ot:=by
  rw [← List.map_drop,List.map_map]; rfl
theorem Bd.al3 (xs:List Bd):((xs.map fun b=>b.d.map D.ot).all fun l=>l.length == 3)=true:=by
  rw [List.all_map,List.all_eq_true]
  intro x _
  show ((x.d.map D.ot).length == 3)=true
  rw [Bd.d_eq]; rfl
theorem Bd.ald3 (xs:List Bd):((xs.map Bd.d).all fun l=>l.length == 3)=true:=by
  rw [List.all_map,List.all_eq_true]
  intro x _
  show (x.d.length == 3)=true
  rw [Bd.d_eq]; rfl
theorem Bd.dfu:∀ xs:List Bd,OT.AS (xs.map fun b=>b.d.map D.ot)=true
  | []=>rfl
  | x :: xs=>by rw [List.map_cons,Bd.d_eq]; simp [OT.AS,OT.Dm,OT.full,D.ot,Bd.dfu xs]
theorem Bd.der:∀ xs:List Bd,OT.erss (xs.map fun b=>b.d.map D.ot)=xs.map Bd.d
  | []=>rfl
  | x :: xs=>by rw [List.map_cons,List.map_cons,Bd.d_eq]; simp [OT.erss,OT.ers,OT.er,D.ot,Bd.der xs]
theorem QaB {xs:List Bd} {n:ByteArray} {k:Nat} (h:k+Bt (xs.drop k) n=Bt xs n) (hk:k < xs.length):(AD xs[k].var n=true∧k+1+Bt (xs.drop (k+1)) n=Bt xs n)∨(AD xs[k].var n=false∧k=Bt xs n):=by
  rw [List.drop_eq_getElem_cons hk,Bt] at h
  cases hq:AD xs[k].var n with
  | true=>rw [hq] at h; simp only [cond_true,if_true] at h; exact .inl ⟨rfl,by omega⟩
  | false=>rw [hq] at h; simp only [cond_false,Bool.false_eq_true,if_false] at h; exact .inr ⟨rfl,by omega⟩
theorem UN (x:Sb) (n:ByteArray) (t:Tm) (hl:x.binds.length≤1048576) (ht:t.nodes≤1099511627776):E 116 [x.sv,.str n,t.sv] []=some ((x.put ⟨n,t⟩).sv,[]):=by
  have ho:=P7 t ht
  have e1:=Bd.ot_take x.binds (Bt x.binds n)
  have e2:=Bd.ot_drop x.binds (Bt x.binds n)
  have e3:=Bd.al3 (x.binds.take (Bt x.binds n))
  have e4:=Bd.al3 (x.binds.drop (Bt x.binds n))
  have e5:=Bd.ald3 x.binds
  have l1:=U6 n x.binds
  have e6:(x.binds.map Bd.d).take x.binds.length=x.binds.map Bd.d:=List.take_of_length_le (by simp)
  have e7:(x.binds.take (Bt x.binds n)).length=Bt x.binds n:=by rw [List.length_take]; omega
  have e8:(x.binds.drop (Bt x.binds n)).length=x.binds.length - Bt x.binds n:=List.length_drop
  have hin:=W5 ⟨n,t⟩ x.binds
  have hx2:(x.binds.take (Bt x.binds n)).map (fun b=>b.d.map D.ot)++[[OT.str n,.str t.name,.sh (t.args.map Tm.d)]]++(x.binds.drop (Bt x.binds n)).map (fun b=>b.d.map D.ot)=(FZ x.binds ⟨n,t⟩).map fun b=>b.d.map D.ot:=by
    rw [hin]
    simp only [List.map_append,List.map_cons,List.append_assoc,List.cons_append,List.nil_append]
    rw [Bd.d_eq]; rfl
  have hfu:=Bd.dfu (FZ x.binds ⟨n,t⟩)
  have her:=Bd.der (FZ x.binds ⟨n,t⟩)
  have hsv:(Sb.mk (FZ x.binds ⟨n,t⟩)).sv=.agg [.arr ((FZ x.binds ⟨n,t⟩).map Bd.d)]:=rfl
  unfold Sb.put
  cases hq:dec (t.name=n) with
  | true =>
    simp only [hq,cond_true]
    refine Ah Nx C2 (of_decide_eq_true rfl) ?_
    simp (disch:=omega) only [Jx,go_sem,Aa,hq]
    try rfl
  | false =>
    simp only [hq,cond_false]
    rw [hsv]
    refine Ah Nx C2 (of_decide_eq_true rfl) ?_
    simp (disch:=omega) only [Jx,go_sem,Aa,hq]
    refine As (α:=Int) (fun a=>⟨slots 51 0 [(1,.str n),(3,.ptr 0 0),(5,.ptr 1 0),(6,.ptr 2 0),(7,.int .i64 a)],[.box 76 [.arr (x.binds.map Bd.d)],.box 71 [.str t.name,.arr (t.args.map Tm.d)],.box 76 [.nil]]⟩) (fun a=>∃ k:Nat,a=k∧k≤(x.binds).length∧k+Bt (x.binds.drop k) n=Bt x.binds n) (fun a=>(x.binds).length - (a).toNat) 0 ⟨0,rfl,Nat.zero_le _,by rw [List.drop_zero,Nat.zero_add]⟩ (by simp (disch:=omega) only [go_sem,Aa]) ?_
    rintro i ⟨k,hi,hk,hR⟩
    have hni:i.toNat=k:=by omega
    have hni1:(i+1).toNat=k+1:=by omega
    rcases Nat.lt_or_ge k (x.binds).length with hlt | hge
    · have hg:=Aq Bd.d hlt
      rw [Bd.d_eq] at hg
      rcases QaB hR hlt with ⟨q,hR'⟩ | ⟨q,hk'⟩
      · simp (disch:=omega) only [go_sem,Aa,hni,hg,q]
        exact ⟨i+1,⟨k+1,by omega,hlt,hR'⟩,by omega,by first | trivial | rfl⟩
      · subst hk'
        simp (disch:=omega) only [go_sem,Aa,hni,hg,q,ho,e1,e2,e3,e4,e5,e6,e7,e8,hx2,hfu,her,List.length_append,Int.toNat_zero,CO]
    · obtain rfl:k=x.binds.length:=by omega
      have hk':x.binds.length=Bt x.binds n:=by rw [← hR,List.drop_eq_nil_of_le (Nat.le_refl _)]; simp [Bt]
      rw [hk'] at hni
      simp (disch:=omega) only [go_sem,Aa,hni,ho,e1,e2,e3,e4,e5,e6,e7,e8,hx2,hfu,her,List.length_append,Int.toNat_zero,CO]
theorem Qcf (b:Bd) (xs:List Bd):(FZ xs b).length=xs.length+1:=by rw [(Lp b xs).length_eq]; rfl
theorem Qdn (u:Sb) (acc:List Bd) (b:Bd):(Sb.mk acc).put ⟨b.var,b.term.ap u.look⟩=⟨In acc (match CE u b with | some c=>[c] | none=>[])⟩:=by
  unfold Sb.put CE
  cases dec ((b.term.ap u.look).name=b.var) with
  | true=>rfl
  | false=>rfl
theorem Qdo {acc:List Bd} {b:Bd} (h:Hw b=true):(Sb.mk acc).put b=⟨FZ acc b⟩:=by
  unfold Hw at h
  rw [Bool.and_eq_true,Bool.and_eq_true,Bool.not_eq_true'] at h
  unfold Sb.put
  rw [h.2.2]; rfl
theorem WJ (s u:Sb) (hs:s.ok=true) (hu:u.ok=true) (hts:s.tame) (htu:u.tame):E 150 [s.sv,u.sv] []=some ((Cn s u).sv,[]):=by
  have hsl:=ok_len hs
  have hul:=ok_len hu
  have hend:In [] (Cs s u)=(Cn s u).binds:=Qa9 (Ng (Sb.J9 hs) (Sb.J9 hu))
  have h00:((0:Int)=0)=True:=eq_self _
  have hsv:(Cn s u).sv=.agg [.arr ((Cn s u).binds.map Bd.d)]:=rfl
  rw [hsv]
  refine Ah O0 F8 (of_decide_eq_true rfl) ?_
  simp (disch:=omega) only [IR,go_sem,Aa]
  refine As (α:=Int × List Bd) (fun a=>⟨slots 63 0 [(2,.ptr 0 0),(3,.ptr 1 0),(4,.ptr 2 0),(5,.ptr 3 0),(6,.int .i64 a.1)],[.box 76 [.arr (s.binds.map Bd.d)],.box 76 [.arr (u.binds.map Bd.d)],.box 76 [.nil],.box 76 [if a.1=0 then .nil else .arr (a.2.map Bd.d)]]⟩) (fun a=>∃ k:Nat,a.1=k∧k≤s.binds.length∧In a.2 ((s.binds.drop k).filterMap (CE u))=In [] (Hq s u)∧a.2.length≤k∧(k=0→a.2=[])) (fun a=>s.binds.length - a.1.toNat) (0,[]) ⟨0,rfl,Nat.zero_le _,by rw [List.drop_zero]; rfl,Nat.le_refl _,fun _=>rfl⟩ (by simp (disch:=omega) only [go_sem,Aa,h00,if_true]) ?_
  rintro ⟨i,acc⟩ ⟨k,hi,hk,hR,hal,hz⟩
  dsimp only at hi hR hal hz
  have hni:i.toNat=k:=by omega
  have hni1:(i+1).toNat=k+1:=by omega
  have hi1:(i+1=0)=False:=eq_false (by omega)
  rcases Nat.lt_or_ge k s.binds.length with hlt | hge
  · have hg:=Aq Bd.d hlt
    rw [Bd.d_eq] at hg
    have hval:=Dv (Sb.JA hs hlt)
    have hc:=Ok u hu htu s.binds[k].term (by have:=Eb hval; omega)
    have hn9:=Sb.R9 hu hval
    have hp:=UN ⟨acc⟩ s.binds[k].var (s.binds[k].term.ap u.look) (by show acc.length≤_; omega) (by omega)
    rw [Qdn] at hp
    obtain ⟨acc2,ha2⟩:∃ acc2,acc2=In acc (match CE u s.binds[k] with | some c=>[c] | none=>[]):=⟨_,rfl⟩
    rw [← ha2] at hp
    have hp:E 116 [.agg [.arr (acc.map Bd.d)],.str s.binds[k].var,(s.binds[k].term.ap u.look).sv] []=some (.agg [.arr (acc2.map Bd.d)],[]):=hp
    have hl2:acc2.length≤k+1:=by
      rw [ha2,(Ou _ acc).length_eq,List.length_append]
      cases CE u s.binds[k] with
      | none=>simp only [List.length_nil]; omega
      | some c=>simp only [List.length_cons,List.length_nil]; omega
    have hR2:In acc2 ((s.binds.drop (k+1)).filterMap (CE u))=In [] (Hq s u):=by
      rw [← hR,List.drop_eq_getElem_cons hlt,List.filterMap_cons,ha2]
      cases CE u s.binds[k] with
      | none=>rfl
      | some c=>rfl
    rcases Nat.eq_zero_or_pos k with h0 | h0
    · have hi0:(i=0)=True:=eq_true (by omega)
      obtain rfl:=hz h0
      rw [List.map_nil] at hp
      simp (disch:=omega) only [go_sem,Aa,hni,hg,hc,hp,hi0,if_true,AL,C2,BM]
      exact ⟨(i+1,acc2),⟨k+1,by dsimp only; omega,hlt,hR2,by dsimp only; omega,by intro h; omega⟩,by dsimp only; omega,by simp only [hi1,if_false,and_self]⟩
    · have hi0:(i=0)=False:=eq_false (by omega)
      simp (disch:=omega) only [go_sem,Aa,hni,hg,hc,hp,hi0,if_false,AL,C2,BM]
      exact ⟨(i+1,acc2),⟨k+1,by dsimp only; omega,hlt,hR2,by dsimp only; omega,by intro h; omega⟩,by dsimp only; omega,by simp only [hi1,if_false,and_self]⟩
  rw [List.drop_eq_nil_of_le hge,List.filterMap_nil] at hR
  have hR:acc=In [] (Hq s u):=hR
  have hor:∃ fl:Bool,(if i=0 then SV.nil else SV.arr (acc.map Bd.d))=(bif fl then SV.arr (acc.map Bd.d) else SV.nil)∧(fl=false→acc=[]):=by
    rcases Nat.eq_zero_or_pos k with h0 | h0
    · exact ⟨false,by rw [if_pos (by omega)]; rfl,fun _=>hz h0⟩
    · exact ⟨true,by rw [if_neg (by omega)]; rfl,fun h=>by cases h⟩
  obtain ⟨fl,hfl,hfz⟩:=hor
  rw [hfl]
  simp (disch:=omega) only [go_sem,Aa,hni]
  refine As (α:=Int × Bool × List Bd) (fun a=>⟨slots 63 0 [(2,.ptr 0 0),(3,.ptr 1 0),(4,.ptr 2 0),(5,.ptr 3 0),(7,.int .i64 a.1)],[.box 76 [.arr (s.binds.map Bd.d)],.box 76 [.arr (u.binds.map Bd.d)],.box 76 [.nil],.box 76 [bif a.2.1 then .arr (a.2.2.map Bd.d) else .nil]]⟩) (fun a=>∃ k:Nat,a.1=k∧k≤u.binds.length∧In a.2.2 ((u.binds.drop k).filter (fun b=>!DH s.binds b.var))=In [] (Cs s u)∧a.2.2.length≤12+k∧(a.2.1=false→a.2.2=[])) (fun a=>u.binds.length - a.1.toNat) (0,fl,acc) ⟨0,rfl,Nat.zero_le _,by rw [List.drop_zero,hR,← Qcd]; rfl,by dsimp only; omega,hfz⟩ (by cases fl <;> (simp (disch:=omega) only [go_sem,Aa])) ?_
  clear hR hfl hfz hal hz
  rintro ⟨i,fl,acc⟩ ⟨k,hi,hk,hR,hal,hfz⟩
  dsimp only at hi hR hal hfz
  have hni:i.toNat=k:=by omega
  have hni1:(i+1).toNat=k+1:=by omega
  rcases Nat.lt_or_ge k u.binds.length with hlt | hge
  · have hg:=Aq Bd.d hlt
    rw [Bd.d_eq] at hg
    have hbok:=Sb.JA hu hlt
    have hval:=Dv hbok
    have hf:=Wl s u.binds[k].var (by omega)
    rw [Rc (Sb.J9 hs)] at hf
    rw [List.drop_eq_getElem_cons hlt,List.filter_cons] at hR
    cases hh:DH s.binds u.binds[k].var with
    | true =>
      rw [hh,if_pos rfl] at hf
      rw [hh,if_neg (by simp)] at hR
      cases fl with
      | false =>
        simp (disch:=omega) only [go_sem,Aa,hni,hg,hf,AL,C2,BM]
        exact ⟨(i+1,false,acc),⟨k+1,by dsimp only; omega,hlt,hR,by dsimp only; omega,hfz⟩,by dsimp only; omega,by first | trivial | rfl⟩
      | true =>
        simp (disch:=omega) only [go_sem,Aa,hni,hg,hf,AL,C2,BM]
        exact ⟨(i+1,true,acc),⟨k+1,by dsimp only; omega,hlt,hR,by dsimp only; omega,hfz⟩,by dsimp only; omega,by first | trivial | rfl⟩
    | false =>
      rw [hh,if_neg (by simp)] at hf
      rw [hh,if_pos (by simp)] at hR
      have hp:=UN ⟨acc⟩ u.binds[k].var u.binds[k].term (by show acc.length≤_; omega) (by have:=Eb hval; omega)
      have hpt:(Sb.mk acc).put ⟨u.binds[k].var,u.binds[k].term⟩=⟨FZ acc u.binds[k]⟩:=Qdo hbok
      rw [hpt] at hp
      have hp:E 116 [.agg [.arr (acc.map Bd.d)],.str u.binds[k].var,u.binds[k].term.sv] []=some (.agg [.arr ((FZ acc u.binds[k]).map Bd.d)],[]):=hp
      have hl2:(FZ acc u.binds[k]).length≤12+(k+1):=by rw [Qcf]; omega
      cases fl with
      | false =>
        obtain rfl:=hfz rfl
        rw [List.map_nil] at hp
        simp (disch:=omega) only [go_sem,Aa,hni,hg,hf,hp,AL,C2,BM]
        exact ⟨(i+1,true,FZ [] u.binds[k]),⟨k+1,by dsimp only; omega,hlt,hR,hl2,by intro h; cases h⟩,by dsimp only; omega,by first | trivial | rfl⟩
      | true =>
        simp (disch:=omega) only [go_sem,Aa,hni,hg,hf,hp,AL,C2,BM]
        exact ⟨(i+1,true,FZ acc u.binds[k]),⟨k+1,by dsimp only; omega,hlt,hR,hl2,by intro h; cases h⟩,by dsimp only; omega,by first | trivial | rfl⟩
  · rw [List.drop_eq_nil_of_le hge,List.filter_nil] at hR
    have hR:acc=In [] (Cs s u):=hR
    rw [← hend,← hR]
    cases fl with
    | false =>
      obtain rfl:=hfz rfl
      simp (disch:=omega) only [go_sem,Aa,hni,List.map_nil]
    | true =>
      simp (disch:=omega) only [go_sem,Aa,hni,List.map_nil]
noncomputable def Sx (s u:Sb):Bool:=s.ok&&(u.ok&&Ct s u)
noncomputable def WK (s u:Sb):Sb:=bif Sx s u then Cn s u else ⟨[]⟩
theorem Sy (s u:Sb) (hts:s.tame) (htu:u.tame):E 115 [s.sv,u.sv] []=some (.tup [(WK s u).sv,.bool (Sx s u)],[]):=by
  have h1:=MY s hts
  have h2:=MY u htu
  have z1:(Sb.mk []).osv=.agg [.ref 0]:=rfl
  have z2:(Sb.mk []).obs=[.row 139 3 []]:=rfl
  have z3:(Sb.mk []).sv=.agg [.arr []]:=rfl
  cases hs:s.ok with
  | false =>
    have e:Sx s u=false:=by unfold Sx; rw [hs]; rfl
    rw [hs] at h1
    unfold WK
    rw [e]
    simp only [cond_false,z1,z2,z3]
    refine Ah BK By (of_decide_eq_true rfl) ?_
    simp (disch:=omega) only [Bx,go_sem,Aa,h1,h2,Ck]
  | true =>
    rw [hs] at h1
    cases hu:u.ok with
    | false =>
      have e:Sx s u=false:=by unfold Sx; rw [hu,Bool.false_and,Bool.and_false]
      rw [hu] at h2
      unfold WK
      rw [e]
      simp only [cond_false,z1,z2,z3]
      refine Ah BK By (of_decide_eq_true rfl) ?_
      simp (disch:=omega) only [Bx,go_sem,Aa,h1,h2,Ck]
    | true =>
      rw [hu] at h2
      have e:Sx s u=Ct s u:=by unfold Sx; rw [hs,hu]; rfl
      have h3:=WJ s u hs hu hts htu
      unfold WK
      rw [e]
      have h4:=MY (Cn s u) (TG hs hu)
      have z6:(Cn s u).sv=.agg [.arr ((Cn s u).binds.map Bd.d)]:=rfl
      have e2:Ct s u=(Cn s u).ok:=rfl
      rw [← e2] at h4
      rw [z6] at h3 h4
      cases hq:Ct s u with
      | false =>
        rw [hq] at h4
        simp only [cond_false,z3]
        refine Ah BK By (of_decide_eq_true rfl) ?_
        simp (disch:=omega) only [Bx,go_sem,Aa,h1,h2,h3,h4,Ck,F8]
      | true =>
        rw [hq] at h4
        simp only [cond_true,z6]
        refine Ah BK By (of_decide_eq_true rfl) ?_
        simp (disch:=omega) only [Bx,go_sem,Aa,h1,h2,h3,h4,Ck,F8]
noncomputable def Hx:List ByteArray→ByteArray→List ByteArray
  | [],n=>[n]
  | x :: xs,n=>bif AD x n then x :: Hx xs n else bif dec (x=n) then x :: xs else n :: x :: xs
noncomputable def Dl:List ByteArray→ByteArray→Nat
  | [],_=>0
  | x :: xs,n=>bif AD x n then Dl xs n+1 else 0
theorem WL:∀ {xs:List ByteArray} {n m:ByteArray},m∈Hx xs n ↔ m∈xs∨m=n
  | [],n,m=>by simp [Hx]
  | x :: xs,n,m=>by
    rw [Hx]
    cases AD x n with
    | true=>rw [cond_true,List.mem_cons,WL,List.mem_cons,or_assoc]
    | false =>
      rw [cond_false]
      by_cases h:x=n
      · rw [A4 h,cond_true]
        exact ⟨.inl,fun h'=>h'.elim id fun e=>by subst e; subst h; simp⟩
      · rw [AC h,cond_false,List.mem_cons]
        exact or_comm
theorem WM:∀ (xs:List ByteArray) (n:ByteArray),(Hx xs n).length≤xs.length+1
  | [],n=>by simp [Hx]
  | x :: xs,n=>by
    have h:=WM xs n
    rw [Hx]
    cases AD x n with
    | true=>simp only [cond_true,List.length_cons]; omega
    | false =>
      rw [cond_false]
      cases dec (x=n) with
      | true=>simp only [cond_true,List.length_cons]; omega
      | false=>simp only [cond_false,List.length_cons]; omega
theorem ZH:∀ (xs:List ByteArray) (n:ByteArray),Dl xs n≤xs.length
  | [],n=>by simp [Dl]
  | x :: xs,n=>by
    have h:=ZH xs n
    rw [Dl]
    cases AD x n with
    | true=>simp only [cond_true,List.length_cons]; omega
    | false=>simp only [cond_false,List.length_cons]; omega
theorem RA:∀ {xs:List ByteArray} {n:ByteArray} (h:Dl xs n < xs.length),xs[Dl xs n]=n→Hx xs n=xs
  | [],n,h,_=>by simp at h
  | x :: xs,n,h,e=>by
    rw [Hx]
    cases hq:AD x n with
    | true =>
      simp only [Dl,hq,cond_true,List.length_cons,List.getElem_cons_succ] at h e
      rw [cond_true,RA (by omega) e]
    | false =>
      simp only [Dl,hq,cond_false,List.getElem_cons_zero] at e
      rw [cond_false,A4 e]; rfl
theorem RB:∀ {xs:List ByteArray} {n:ByteArray},(∀ h:Dl xs n < xs.length,¬ xs[Dl xs n]=n)→Hx xs n=xs.take (Dl xs n)++n :: xs.drop (Dl xs n)
  | [],n,_=>by simp [Hx,Dl]
  | x :: xs,n,h=>by
    rw [Hx]
    cases hq:AD x n with
    | true =>
      simp only [Dl,hq,cond_true,List.length_cons,List.getElem_cons_succ] at h ⊢
      rw [RB fun h'=>h (by omega)]
      simp
    | false =>
      simp only [Dl,hq,cond_false,List.getElem_cons_zero] at h ⊢
      rw [AC (h (by simp))]
      simp
theorem QaC {xs:List ByteArray} {n:ByteArray} {k:Nat} (h:k+Dl (xs.drop k) n=Dl xs n) (hk:k < xs.length):(AD xs[k] n=true∧k+1+Dl (xs.drop (k+1)) n=Dl xs n)∨(AD xs[k] n=false∧k=Dl xs n):=by
  rw [List.drop_eq_getElem_cons hk,Dl] at h
  cases hq:AD xs[k] n with
  | true=>rw [hq,cond_true] at h; exact .inl ⟨rfl,by omega⟩
  | false=>rw [hq,cond_false] at h; exact .inr ⟨rfl,by omega⟩
theorem ot_take (xs:List ByteArray) (k:Nat):((xs.map fun s=>[D.str s]).take k).map (fun x=>x.map D.ot)=(xs.take k).map fun s=>[OT.str s]:=by
  rw [← List.map_take,List.map_map]; rfl
theorem ot_drop (xs:List ByteArray) (k:Nat):((xs.map fun s=>[D.str s]).drop k).map (fun x=>x.map D.ot)=(xs.drop k).map fun s=>[OT.str s]:=by
  rw [← List.map_drop,List.map_map]; rfl
theorem ZI (xs:List ByteArray):((xs.map fun s=>[OT.str s]).all fun l=>l.length == 1)=true:=by
  rw [List.all_map,List.all_eq_true]
  intro x _; rfl
theorem Qcg (xs:List ByteArray):((xs.map fun s=>[D.str s]).all fun l=>l.length == 1)=true:=by
  rw [List.all_map,List.all_eq_true]
  intro x _; rfl
def Ny:SC:=(.seq (.reg [⟨some 4,none,.mv (.c .nil)⟩]) (.seq (.reg [⟨some 5,none,.mv (.c (.int .i64 0))⟩]) (.seq (.block 0 (.loop [1,1,0,0,0,1,0,0,0,0,0,0,0,0,0,0,0,0,0,0,0,0,0,0,0,0,0,0,0,0,0,0,0,0,0,0,0,0,0,0,0,0,0,0,0] (.seq (.seq (.reg [⟨some 6,none,.mv (.t 5)⟩,⟨some 7,none,.mv (.t 0)⟩,⟨some 8,none,.len false (.t 7)⟩,⟨some 9,none,.bin .lss false (.t 6) (.t 8)⟩,⟨some 10,none,.mv (.t 9)⟩,⟨(some 11),(some (10,true)),(.mv (.t 0))⟩,⟨(some 12),(some (10,true)),(.mv (.t 5))⟩,⟨(some 13),(some (10,true)),(.iaddr 1 (.t 11) (.t 12))⟩,⟨(some 14),(some (10,true)),(.load false 1 (.t 13))⟩,⟨(some 15),(some (10,true)),(.mv (.t 1))⟩,⟨(some 16),(some (10,true)),(.bin .lss false (.t 14) (.t 15))⟩,⟨some 17,none,.pick (.t 10) (.t 16) (.c (.bool false))⟩]) (.cond (.t 17) .skip (.exit 0))) (.block 1 (.reg [⟨some 18,none,.mv (.t 5)⟩,⟨some 19,none,.bin .add false (.t 18) (.c (.int .i64 1))⟩,⟨some 5,none,.mv (.t 19)⟩]))))) (.seq (.seq (.reg [⟨some 20,none,.mv (.t 5)⟩,⟨some 21,none,.mv (.t 0)⟩,⟨some 22,none,.len false (.t 21)⟩,⟨some 23,none,.bin .lss false (.t 20) (.t 22)⟩,⟨some 24,none,.mv (.t 23)⟩,⟨(some 25),(some (24,true)),(.mv (.t 0))⟩,⟨(some 26),(some (24,true)),(.mv (.t 5))⟩,⟨(some 27),(some (24,true)),(.iaddr 1 (.t 25) (.t 26))⟩,⟨(some 28),(some (24,true)),(.load false 1 (.t 27))⟩,⟨(some 29),(some (24,true)),(.mv (.t 1))⟩,⟨(some 30),(some (24,true)),(.bin .eql false (.t 28) (.t 29))⟩,⟨some 31,none,.pick (.t 24) (.t 30) (.c (.bool false))⟩]) (.cond (.t 31) (.seq (.reg [⟨some 32,none,.mv (.t 0)⟩,⟨some 4,none,.mv (.t 32)⟩]) .ret) .skip)) (.seq (.dreg [[],[],[],[1,2],[0,3,1,2],[],[5],[4,0,3,1,2,6,5],[],[],[8,9],[7,4,0,3,1,2,6,5,10,8,9],[11,7,4,0,3,1,2,6,5,10,8,9]] [⟨(some 33),none,(.mkrow 9 1 [(.str ⟨#[]⟩)] 0 [])⟩,⟨some 34,none,.mv (.t 0)⟩,⟨some 35,none,.mv (.t 5)⟩,⟨some 36,none,.slice false 1 (.t 34) none (some (.t 35))⟩,⟨(some 37),none,(.append 9 1 16 [(.str ⟨#[]⟩)] (.t 33) (.t 36))⟩,⟨some 38,none,.mv (.t 1)⟩,⟨(some 39),none,(.mkrow 9 1 [(.str ⟨#[]⟩)] 1 [(0,(.t 38))])⟩,⟨(some 40),none,(.append 9 1 16 [(.str ⟨#[]⟩)] (.t 37) (.t 39))⟩,⟨some 41,none,.mv (.t 0)⟩,⟨some 42,none,.mv (.t 5)⟩,⟨some 43,none,.slice false 1 (.t 41) (some (.t 42)) none⟩,⟨(some 44),none,(.append 9 1 16 [(.str ⟨#[]⟩)] (.t 40) (.t 43))⟩,⟨some 4,none,.mv (.t 44)⟩]) .ret)))))
theorem UO:Am Tryz.prog 173=some ⟨45,Ny,[(.tmp 4)]⟩:=by kernel_rfl
theorem Nz:modes 173=⟨[],.frz,none,false⟩:=by unfold modes; rfl
theorem Qdp (xs:List ByteArray) (n:ByteArray) (hl:xs.length≤1048576):E 173 [.arr (xs.map fun s=>[D.str s]),.str n] []=some (.arr ((Hx xs n).map fun s=>[D.str s]),[]):=by
  have e1:=ot_take xs (Dl xs n)
  have e2:=ot_drop xs (Dl xs n)
  have e3:=ZI (xs.take (Dl xs n))
  have e4:=ZI (xs.drop (Dl xs n))
  have e5:=Qcg xs
  have l1:=ZH xs n
  have e6:(xs.map fun s=>[D.str s]).take xs.length=xs.map fun s=>[D.str s]:=List.take_of_length_le (by simp)
  have e7:(xs.take (Dl xs n)).length=Dl xs n:=by rw [List.length_take]; omega
  have e8:(xs.drop (Dl xs n)).length=xs.length - Dl xs n:=List.length_drop
  have hf:∀ ys:List ByteArray,ys=Hx xs n→(ys.map fun s=>[OT.str s])=(Hx xs n).map fun s=>[OT.str s]:=fun ys h=>by rw [h]
  refine Ah UO Nz (of_decide_eq_true rfl) ?_
  simp (disch:=omega) only [Ny,go_sem,Aa]
  refine As (α:=Int) (fun a=>⟨slots 45 0 [(0,.arr (xs.map fun s=>[D.str s])),(1,.str n),(5,.int .i64 a)],[]⟩) (fun a=>∃ k:Nat,a=k∧k≤(xs).length∧k+Dl (xs.drop k) n=Dl xs n) (fun a=>(xs).length - (a).toNat) 0 ⟨0,rfl,Nat.zero_le _,by rw [List.drop_zero,Nat.zero_add]⟩ (by simp (disch:=omega) only [go_sem,Aa]) ?_
  rintro i ⟨k,hi,hk,hR⟩
  have hni:i.toNat=k:=by omega
  have hni1:(i+1).toNat=k+1:=by omega
  rcases Nat.lt_or_ge k (xs).length with hlt | hge
  · have hg:=Aq (fun s=>[D.str s]) hlt
    rcases QaC hR hlt with ⟨q,hR'⟩ | ⟨q,hk'⟩
    · simp (disch:=omega) only [go_sem,Aa,hni,hg,q]
      exact ⟨i+1,⟨k+1,by omega,hlt,hR'⟩,by omega,by first | trivial | rfl⟩
    · subst hk'
      by_cases h0:xs[Dl xs n]=n
      · have hi0:=RA hlt h0
        rw [hi0]
        simp (disch:=omega) only [go_sem,Aa,hni,hg,q,h0,e6,Hh,D0]
      · have hi0:=RB (fun _=>h0)
        have hx:(xs.take (Dl xs n)).map (fun s=>[OT.str s])++([[OT.str n]]++(xs.drop (Dl xs n)).map (fun s=>[OT.str s]))=(Hx xs n).map fun s=>[OT.str s]:=by rw [hi0]; simp
        have hx2:(xs.take (Dl xs n)).map (fun s=>[OT.str s])++[[OT.str n]]++(xs.drop (Dl xs n)).map (fun s=>[OT.str s])=(Hx xs n).map fun s=>[OT.str s]:=by rw [hi0]; simp
        simp (disch:=omega) only [go_sem,Aa,hni,hg,q,h0,e1,e2,e3,e4,e5,e6,e7,e8,hx2,List.length_append,Int.toNat_zero]
  · obtain rfl:k=xs.length:=by omega
    have hk':xs.length=Dl xs n:=by rw [← hR,List.drop_eq_nil_of_le (Nat.le_refl _)]; simp [Dl]
    have hi0:=RB (xs:=xs) (n:=n) (fun h=>by omega)
    have hx2:(xs.take (Dl xs n)).map (fun s=>[OT.str s])++[[OT.str n]]++(xs.drop (Dl xs n)).map (fun s=>[OT.str s])=(Hx xs n).map fun s=>[OT.str s]:=by rw [hi0]; simp
    rw [hk'] at hni
    simp (disch:=omega) only [go_sem,Aa,hni,e1,e2,e3,e4,e5,e6,e7,e8,hx2,List.length_append,Int.toNat_zero]
noncomputable def JN (l ns:List ByteArray):List ByteArray:=ns.foldl Hx l
theorem RC:∀ (ns l:List ByteArray),(JN l ns).length≤l.length+ns.length
  | [],l=>by simp [JN]
  | n :: ns,l=>by
    have h:=RC ns (Hx l n)
    have h2:=WM l n
    simp only [JN,List.foldl_cons,List.length_cons] at h ⊢
    omega
theorem WN:∀ {ns l:List ByteArray} {m:ByteArray},m∈JN l ns ↔ m∈l∨m∈ns
  | [],l,m=>by simp [JN]
  | n :: ns,l,m=>by
    have h:=WN (ns:=ns) (l:=Hx l n) (m:=m)
    simp only [JN,List.foldl_cons] at h ⊢
    rw [h,WL]
    simp only [List.mem_cons]
    exact or_assoc
theorem Qch (l a b:List ByteArray):JN l (a++b)=JN (JN l a) b:=List.foldl_append
def Iq:SC:=(.seq (.reg [⟨some 3,none,.boxv 71 2 (.t 1)⟩,⟨some 4,none,.mv (.c .nil)⟩]) (.seq (.seq (.reg [⟨some 6,none,.faddr 0 (.t 3)⟩,⟨some 7,none,.load false 1 (.t 6)⟩,⟨some 8,none,.call 77 [(.t 7)]⟩]) (.cond (.t 8) (.seq (.reg [⟨some 9,none,.mv (.t 0)⟩,⟨some 10,none,.faddr 0 (.t 3)⟩,⟨some 11,none,.load false 1 (.t 10)⟩,⟨some 12,none,.call 173 [(.t 9),(.t 11)]⟩,⟨some 4,none,.mv (.t 12)⟩]) .ret) .skip)) (.seq (.seq (.reg [⟨some 5,none,.mv (.c (.int .i64 0))⟩]) (.block 0 (.loop [1,0,0,1,0,1,0,0,0,0,0,0,0,0,0,0,0,0,0,0,0,0,0,0,0,0,0,0] (.seq (.seq (.reg [⟨some 13,none,.mv (.t 5)⟩,⟨some 14,none,.faddr 1 (.t 3)⟩,⟨some 15,none,.load false 1 (.t 14)⟩,⟨some 16,none,.len false (.t 15)⟩,⟨some 17,none,.bin .lss false (.t 13) (.t 16)⟩]) (.cond (.t 17) .skip (.exit 0))) (.seq (.block 1 (.reg [⟨some 20,none,.mv (.t 0)⟩,⟨some 21,none,.faddr 1 (.t 3)⟩,⟨some 22,none,.load false 1 (.t 21)⟩,⟨some 23,none,.mv (.t 5)⟩,⟨some 24,none,.iaddr 2 (.t 22) (.t 23)⟩,⟨some 25,none,.load true 2 (.t 24)⟩,⟨some 26,none,.call 149 [(.t 20),(.t 25)]⟩,⟨some 0,none,.mv (.t 26)⟩])) (.reg [⟨some 18,none,.mv (.t 5)⟩,⟨some 19,none,.bin .add false (.t 18) (.c (.int .i64 1))⟩,⟨some 5,none,.mv (.t 19)⟩])))))) (.seq (.reg [⟨some 27,none,.mv (.t 0)⟩,⟨some 4,none,.mv (.t 27)⟩]) .ret))))
theorem LH:Am Tryz.prog 149=some ⟨28,Iq,[(.tmp 4)]⟩:=by kernel_rfl
theorem FI:modes 149=⟨[],.asis,none,false⟩:=by unfold modes; rfl
def LI:SC:=(.seq (.reg [⟨some 1,none,.boxv 71 2 (.t 0)⟩,⟨some 2,none,.mv (.c .nil)⟩]) (.seq (.reg [⟨(some 3),none,(.mkrow 9 1 [(.str ⟨#[]⟩)] 0 [])⟩,⟨some 4,none,.load true 2 (.t 1)⟩,⟨some 5,none,.call 149 [(.t 3),(.t 4)]⟩,⟨some 2,none,.mv (.t 5)⟩]) .ret))
theorem Sz:Am Tryz.prog 114=some ⟨6,LI,[(.tmp 2)]⟩:=by kernel_rfl
theorem Ir:modes 114=⟨[],.frz,none,false⟩:=by unfold modes; rfl
abbrev Qci (x:Tm):Prop:=∀ l:List ByteArray,l.length+x.nodes≤1048576→E 149 [.arr (l.map fun s=>[D.str s]),x.sv] []=some (.arr ((JN l x.vs).map fun s=>[D.str s]),[])
theorem QaD (x:Tm) (ih:∀ y∈x.args,Qci y):Qci x:=by
  intro l hn
  have hl:=Tm.AB x.args
  have hne:=Tm.Ao x
  have hvs:=Tm.Gx x
  have hp:=Qdp l x.name (by omega)
  cases hvv:At x.name with
  | true =>
    rw [hvv] at hvs
    have e:JN l x.vs=Hx l x.name:=by rw [hvs]; rfl
    rw [e]
    refine Ah LH FI (of_decide_eq_true rfl) ?_
    simp (disch:=omega) only [Iq,go_sem,Aa,hvv,hp,Af,An,Nz]
  | false =>
    rw [hvv] at hvs
    simp only [cond_false] at hvs
    rw [hvs]
    refine Ah LH FI (of_decide_eq_true rfl) ?_
    simp (disch:=omega) only [Iq,go_sem,Aa,hvv,Af,An]
    refine As (α:=Int × (List ByteArray)) (fun a=>⟨slots 28 0 [(0,.arr ((a.2).map fun s=>[D.str s])),(3,.ptr 0 0),(5,.int .i64 (a.1))],[.box 71 [.str x.name,.arr (x.args.map Tm.d)]]⟩) (fun a=>∃ k:Nat,a.1=k∧k≤(x.args).length∧JN (a.2) (Tm.vsL (x.args.drop k))=JN l (Tm.vsL x.args)∧(a.2).length+Tm.Bi (x.args.drop k)≤1048576) (fun a=>(x.args).length - (a.1).toNat) (0,l) ⟨0,rfl,Nat.zero_le _,by rw [List.drop_zero],by rw [List.drop_zero]; dsimp only; omega⟩ (by simp (disch:=omega) only [go_sem,Aa]) ?_
    rintro ⟨i,acc⟩ ⟨k,hi,hk,hR⟩
    dsimp only at hi hR
    have hni:i.toNat=k:=by omega
    have hni1:(i+1).toNat=k+1:=by omega
    rcases Nat.lt_or_ge k (x.args).length with hlt | hge
    · have hg:=Aq Tm.d hlt
      rw [Tm.d_eq] at hg
      obtain ⟨hR1,hR2⟩:=hR
      rw [List.drop_eq_getElem_cons hlt,Tm.vsL,Qch] at hR1
      rw [List.drop_eq_getElem_cons hlt,Tm.Bi] at hR2
      have hc:=ih x.args[k] (List.getElem_mem hlt) acc (by omega)
      have hlen:=RC x.args[k].vs acc
      have hvl:=Tm.vs_len x.args[k]
      simp (disch:=omega) only [go_sem,Aa,hni,hg,hc,FI]
      exact ⟨(i+1,JN acc x.args[k].vs),⟨k+1,by dsimp only; omega,hlt,hR1,by dsimp only; omega⟩,by dsimp only; omega,by first | trivial | rfl⟩
    · rw [List.drop_eq_nil_of_le hge,Tm.vsL] at hR
      obtain ⟨hR1,hR2⟩:=hR
      have hR1:acc=JN l (Tm.vsL x.args):=hR1
      rw [← hR1]
      simp (disch:=omega) only [go_sem,Aa,hni]
theorem WO (x:Tm):Qci x:=QaD x fun y hy=>WO y
termination_by SizeOf.sizeOf x
decreasing_by exact Tm.Az hy
theorem Qcj (x:Tm) (hn:x.nodes≤1048576):E 114 [x.sv] []=some (.arr ((JN [] x.vs).map fun s=>[D.str s]),[]):=by
  have h:=WO x [] (by simpa using hn)
  rw [List.map_nil] at h
  refine Ah Sz Ir (of_decide_eq_true rfl) ?_
  simp (disch:=omega) only [LI,go_sem,Aa,h,FI]
theorem Sb.WP {s:Sb} {n:ByteArray} {t:Tm} (h:s.look n=some t):(⟨n,t⟩:Bd)∈s.binds:=by
  cases hh:DH s.binds n with
  | false=>rw [Sb.PA hh] at h; cases h
  | true =>
    have hlt:=H9 hh
    rw [Sb.K2 hh hlt] at h
    obtain rfl:=Option.some.inj h
    have e:=U9 hh hlt
    have h1:=List.getElem_mem hlt
    have h2:∀ c:Bd,c.var=n→(⟨n,c.term⟩:Bd)=c:=fun c e=>by rw [← e]
    rw [h2 _ e]; exact h1
theorem Sb.IS {s:Sb} (hs:MZ s.binds) {n:ByteArray}:s.look n=none ↔ ∀ b∈s.binds,b.var≠n:=by
  cases hh:DH s.binds n with
  | false =>
    rw [Sb.PA hh]
    refine ⟨fun _ b hb e=>?_,fun _=>rfl⟩
    rw [W6 hs] at hh
    exact List.any_eq_false.1 hh b hb (A4 e)
  | true =>
    have hlt:=H9 hh
    rw [Sb.K2 hh hlt]
    exact ⟨fun h=>(by cases h),fun h=>absurd (U9 hh hlt) (h _ (List.getElem_mem hlt))⟩
theorem Sb.KM {s:Sb} (hs:MZ s.binds) {b:Bd} (h:b∈s.binds):s.look b.var=some b.term:=by
  cases hq:s.look b.var with
  | none=>exact absurd rfl ((Sb.IS hs).1 hq b h)
  | some t =>
    have h2:=Sb.WP hq
    obtain ⟨i,hi,e1⟩:=List.getElem_of_mem h
    obtain ⟨j,hj,e2⟩:=List.getElem_of_mem h2
    have hij:i=j:=(List.getElem_inj (h₀:=by simpa using hi) (h₁:=by simpa using hj) (Ml hs)).1 (by simp only [List.getElem_map,e1,e2])
    subst hij
    rw [e1] at e2
    rw [e2]
theorem Tm.Qck {f:ByteArray→Option Tm} (x:Tm) {v:ByteArray} (h:v∈(x.ap f).vs):(v∈x.vs∧f v=none)∨∃ w∈x.vs,∃ t,f w=some t∧v∈t.vs:=by
  rw [Tm.HD] at h
  by_cases hv:At x.name=true
  · rw [if_pos hv] at h
    have hx:x.vs=[x.name]:=by rw [Tm.Gx,hv]; rfl
    cases hq:f x.name with
    | none =>
      rw [hq,Option.getD_none,Tm.Gx] at h
      have h:v∈(bif At x.name then [x.name] else _):=h
      rw [hv,cond_true] at h
      have e:v=x.name:=by simpa using h
      subst e
      exact .inl ⟨by rw [hx]; simp,hq⟩
    | some t =>
      rw [hq,Option.getD_some] at h
      exact .inr ⟨x.name,by rw [hx]; simp,t,hq,h⟩
  · rw [if_neg hv] at h
    have hv0:At x.name=false:=by simpa using hv
    have hx:x.vs=Tm.vsL x.args:=by rw [Tm.Gx,hv0]; rfl
    rw [Tm.Gx] at h
    have h:v∈(bif At x.name then [x.name] else Tm.vsL (Tm.apL f x.args)):=h
    rw [hv0,cond_false,Tm.Na,Tm.vsL_mem] at h
    obtain ⟨z,hz,hvz⟩:=h
    obtain ⟨y,hy,rfl⟩:=List.mem_map.1 hz
    rw [hx]
    rcases Tm.Qck y hvz with ⟨h1,h2⟩ | ⟨w,h1,t,h2,h3⟩
    · exact .inl ⟨Tm.vsL_mem.2 ⟨y,hy,h1⟩,h2⟩
    · exact .inr ⟨w,Tm.vsL_mem.2 ⟨y,hy,h1⟩,t,h2,h3⟩
termination_by SizeOf.sizeOf x
decreasing_by exact Tm.Az hy
theorem WQ {α:Type} {g:α→α}:∀ {xs:List α},(∀ x∈xs,g x=x)→xs.map g=xs
  | [],_=>rfl
  | x :: xs,h=>by rw [List.map_cons,h x (by simp),WQ fun y hy=>h y (by simp [hy])]
theorem Tm.Qcl (x:Tm):Tm.mk x.name x.args=x:=by obtain ⟨n,a⟩:=x; rfl
theorem Tm.ZJ {f:ByteArray→Option Tm} (x:Tm) (hx:x.names=true) (h:∀ v∈x.vs,f v=none):x.ap f=x:=by
  rw [Tm.HD]
  by_cases hv:At x.name=true
  · have hx0:=Tm.F4 hx hv
    rw [if_pos hv,h x.name (by rw [Tm.Gx,hv]; simp),Option.getD_none]
    conv=>rhs; rw [← Tm.Qcl x,hx0]
  · have hv0:At x.name=false:=by simpa using hv
    rw [if_neg hv,Tm.Na,WQ fun y hy=>Tm.ZJ y (Tm.EM hx hy) fun v hvv=>h v (by
      rw [Tm.Gx,hv0,cond_false]
      exact Tm.vsL_mem.2 ⟨y,hy,hvv⟩),Tm.Qcl]
termination_by SizeOf.sizeOf x
decreasing_by exact Tm.Az hy
def Sb.idem (s:Sb):Prop:=∀ w t,s.look w=some t→∀ v∈t.vs,s.look v=none
theorem Sb.UP {s:Sb} (hi:s.idem) {x:Tm} {v:ByteArray} (h:v∈(x.ap s.look).vs):s.look v=none:=by
  rcases Tm.Qck x h with ⟨_,h2⟩ | ⟨w,_,t,h2,h3⟩
  · exact h2
  · exact hi w t h2 v h3
theorem Tm.WR {x y:Tm} (hx:x.expr=true) (hy:y∈x.args):y.expr=true:=by
  have h1:=Tm.Re hx
  have h2:=Tm.IF hx hy
  unfold Tm.small at h1
  rw [Bool.and_eq_true,decide_eq_true_eq,decide_eq_true_eq] at h1
  have n1:=Tm.AZ hy
  have n2:=Tm.Ao x
  have d2:=Tm.Lk x
  have d1:y.deep≤Tm.En x.args:=by
    have key:∀ xs:List Tm,y∈xs→y.deep≤Tm.En xs:=by
      intro xs
      induction xs with
      | nil=>intro h; cases h
      | cons z zs ih =>
        intro h
        rw [Tm.En]
        rcases List.mem_cons.1 h with rfl | h
        · exact Nat.le_max_left _ _
        · exact Nat.le_trans (ih h) (Nat.le_max_right _ _)
    exact key _ hy
  unfold Tm.expr Tm.valid Tm.small
  rw [h2,decide_eq_true (by omega),decide_eq_true (by omega)]; rfl
noncomputable def A5 (x y:Tm):Bd:=bif At x.name&&!(At y.name&&AD x.name y.name) then ⟨x.name,y⟩ else ⟨y.name,x⟩
noncomputable def BS (b:Bd):Bool:=!dec (b.var∈b.term.vs)&&(Sb.mk [b]).ok
noncomputable def BI:Nat→Sb→List (Tm × Tm)→Option (Option Sb)
  | 0,_,_=>none
  | n + 1,s,l=>match l with
    | []=>some (some s)
    | p :: l=>bif BV s p.1&&BV s p.2 then
        (bif dec (AP s p.1=AP s p.2) then BI n s l
        else bif At (AP s p.1).name || At (AP s p.2).name then
          (bif BS (A5 (AP s p.1) (AP s p.2))&&Ct s ⟨[A5 (AP s p.1) (AP s p.2)]⟩ then BI n (Cn s ⟨[A5 (AP s p.1) (AP s p.2)]⟩) l else some none)
        else bif dec ((AP s p.1).name=(AP s p.2).name)&&dec ((AP s p.1).args.length=(AP s p.2).args.length) then BI n s ((AP s p.1).args.zip (AP s p.2).args++l)
        else some none)
      else some none
def Hy:List (Tm × Tm)→Nat
  | []=>0
  | p :: l=>p.1.nodes+Hy l
structure uInv (s:Sb) (l:List (Tm × Tm)):Prop where
  ok:s.ok=true
  idem:s.idem
  ex:∀ p∈l,p.1.expr=true∧p.2.expr=true
  pq:∃ P Q,l=P++Q∧(∀ p∈P,p.1.ap s.look=p.1)∧Hy P≤30∧Q.length≤1+30 * s.binds.length
theorem RD:∀ P:List (Tm × Tm),P.length≤Hy P
  | []=>Nat.le_refl _
  | p :: P=>by
    have h1:=RD P
    have h2:=Tm.Lj p.1
    rw [Hy,List.length_cons]; omega
theorem uInv.len {s:Sb} {l:List (Tm × Tm)} (h:uInv s l):l.length≤391:=by
  obtain ⟨P,Q,rfl,_,h2,h3⟩:=h.pq
  have h1:=RD P
  have h4:=ok_len h.ok
  rw [List.length_append]; omega
theorem uInv.pop {s:Sb} {p:Tm × Tm} {l:List (Tm × Tm)} (h:uInv s (p :: l)):uInv s l:=by
  refine ⟨h.ok,h.idem,fun q hq=>h.ex q (by simp [hq]),?_⟩
  obtain ⟨P,Q,e,h1,h2,h3⟩:=h.pq
  cases P with
  | nil =>
    cases Q with
    | nil=>cases e
    | cons q Q =>
      simp only [List.nil_append,List.cons.injEq] at e
      exact ⟨[],Q,e.2,fun _ h=>by simp at h,by rw [Hy]; omega,by simp only [List.length_cons] at h3; omega⟩
  | cons q P =>
    simp only [List.cons_append,List.cons.injEq] at e
    rw [Hy] at h2
    exact ⟨P,Q,e.2,fun z hz=>h1 z (by simp [hz]),by omega,h3⟩
theorem RE:∀ (xs ys:List Tm),Hy (xs.zip ys)≤Tm.Bi xs
  | [],ys=>by simp [Hy]
  | x :: xs,[]=>by simp [Hy]
  | x :: xs,y :: ys=>by
    have h:=RE xs ys
    rw [List.zip_cons_cons,Hy,Tm.Bi]
    show x.nodes+_≤_
    omega
theorem WS:∀ (a b:List (Tm × Tm)),Hy (a++b)=Hy a+Hy b
  | [],b=>by simp [Hy]
  | p :: a,b=>by rw [List.cons_append,Hy,Hy,WS a b]; omega
theorem C3 {s:Sb} {x:Tm} (h:BV s x=true):(AP s x).expr=true:=by
  rw [DY h]
  unfold BV at h
  rw [Bool.and_eq_true,Bool.and_eq_true] at h
  have h2:(x.ap s.look).expr=(x.ap s.look).small:=Tm.QbO (Sb.Fa h.1) x h.2.1
  rw [h2]; exact h.2.2
theorem PB {α β:Type} {a:α} {b:β}:∀ {xs:List α} {ys:List β},(a,b)∈xs.zip ys→a∈xs∧b∈ys
  | [],ys,h=>by simp at h
  | x :: xs,[],h=>by simp at h
  | x :: xs,y :: ys,h=>by
    rw [List.zip_cons_cons] at h
    rcases List.mem_cons.1 h with h | h
    · simp only [Prod.mk.injEq] at h; exact ⟨by rw [h.1]; simp,by rw [h.2]; simp⟩
    · obtain ⟨h1,h2⟩:=PB h; exact ⟨by simp [h1],by simp [h2]⟩
theorem TH {s:Sb} (hi:s.idem) {x:Tm} (hx:BV s x=true) (hv:At (AP s x).name=false) {y:Tm} (hy:y∈(AP s x).args):y.ap s.look=y:=by
  have he:=C3 hx
  refine Tm.ZJ y (Tm.IF he hy) fun v hvv=>?_
  have h1:v∈(AP s x).vs:=by
    rw [Tm.Gx,hv,cond_false]
    exact Tm.vsL_mem.2 ⟨y,hy,hvv⟩
  rw [DY hx] at h1
  exact Sb.UP hi h1
theorem uInv.dec {s:Sb} {p:Tm × Tm} {l:List (Tm × Tm)} (h:uInv s (p :: l)) (h1:BV s p.1=true) (h2:BV s p.2=true) (hv:At (AP s p.1).name=false):uInv s ((AP s p.1).args.zip (AP s p.2).args++l):=by
  have e1:=C3 h1
  have e2:=C3 h2
  have hn:=Tm.Au e1
  have hn2:=Tm.Ao (AP s p.1)
  have hz:=RE (AP s p.1).args (AP s p.2).args
  refine ⟨h.ok,h.idem,fun q hq=>?_,?_⟩
  · rcases List.mem_append.1 hq with hq | hq
    · obtain ⟨a,b⟩:=q
      obtain ⟨k1,k2⟩:=PB hq
      exact ⟨Tm.WR e1 k1,Tm.WR e2 k2⟩
    · exact h.ex q (by simp [hq])
  · obtain ⟨P,Q,e,g1,g2,g3⟩:=h.pq
    have hfix:∀ q∈(AP s p.1).args.zip (AP s p.2).args,q.1.ap s.look=q.1:=fun q hq=>by
      obtain ⟨a,b⟩:=q
      exact TH h.idem h1 hv (PB hq).1
    cases P with
    | nil =>
      cases Q with
      | nil=>cases e
      | cons q Q =>
        simp only [List.nil_append,List.cons.injEq] at e
        rw [← e.2] at g3
        exact ⟨_,l,rfl,hfix,by omega,by simp only [List.length_cons,e.2] at g3 ⊢; omega⟩
    | cons q P =>
      simp only [List.cons_append,List.cons.injEq] at e
      obtain ⟨rfl,rfl⟩:=e
      rw [Hy] at g2
      have hself:AP s p.1=p.1:=by rw [DY h1]; exact g1 p (by simp)
      refine ⟨(AP s p.1).args.zip (AP s p.2).args++P,Q,by rw [List.append_assoc],fun q hq=>?_,?_,g3⟩
      · rcases List.mem_append.1 hq with hq | hq
        · exact hfix q hq
        · exact g1 q (by simp [hq])
      · rw [WS]
        rw [hself] at hn2 hz ⊢
        omega
theorem Ga (x y:Tm) (h:(At x.name || At y.name)=true):(A5 x y=⟨x.name,y⟩∧At x.name=true)∨(A5 x y=⟨y.name,x⟩∧At y.name=true):=by
  unfold A5
  cases h1:At x.name with
  | true =>
    cases h2:At y.name with
    | true =>
      cases AD x.name y.name with
      | true=>exact .inr ⟨rfl,rfl⟩
      | false=>exact .inl ⟨rfl,rfl⟩
    | false=>exact .inl ⟨rfl,rfl⟩
  | false =>
    rw [h1,Bool.false_or] at h
    rw [h]
    exact .inr ⟨rfl,rfl⟩
theorem RF {b:Bd} (hb:(Sb.mk [b]).ok=true) (n:ByteArray):(Sb.mk [b]).look n=if b.var=n then some b.term else none:=by
  have hup:=Sb.J9 hb
  by_cases h:b.var=n
  · rw [if_pos h,← h]
    exact Sb.KM hup (by simp)
  · rw [if_neg h]
    exact (Sb.IS hup).2 fun c hc=>by
      have:c=b:=by simpa using hc
      rw [this]; exact h
theorem Qdq {s:Sb} {b:Bd} (hs:s.ok=true) (hi:s.idem) (hb:(Sb.mk [b]).ok=true) (hv:s.look b.var=none) (ht:∀ v∈b.term.vs,s.look v=none) (ho:b.var ∉ b.term.vs) (hc:Ct s ⟨[b]⟩=true) :
    (Cn s ⟨[b]⟩).binds.length=s.binds.length+1∧(Cn s ⟨[b]⟩).idem:=by
  have hup:=Sb.J9 hs
  have hcok:(Cn s ⟨[b]⟩).ok=true:=hc
  have hcup:=Sb.J9 hcok
  have hbok:Hw b=true:=Sb.JA (x:=⟨[b]⟩) hb (k:=0) (by simp)
  have hone:∀ c∈s.binds,CE ⟨[b]⟩ c=some ⟨c.var,c.term.ap (Sb.mk [b]).look⟩:=fun c hcm=>by
    have hcb:Hw c=true:=by
      obtain ⟨k,hk,rfl⟩:=List.getElem_of_mem hcm
      exact Sb.JA hs hk
    have hcl:=Sb.KM hup hcm
    have hcv:=Wo hcb
    unfold CE
    rw [AC,cond_false]
    intro e
    have hne:c.term.name≠c.var:=by
      unfold Hw at hcb
      rw [Bool.and_eq_true,Bool.and_eq_true,Bool.not_eq_true'] at hcb
      exact CF.1 hcb.2.2
    rw [Tm.HD] at e
    by_cases hv':At c.term.name=true
    · rw [if_pos hv',RF hb] at e
      by_cases hbn:b.var=c.term.name
      · rw [if_pos hbn,Option.getD_some] at e
        have:c.var∈b.term.vs:=by
          rw [Tm.Gx,e,hcv]; simp
        rw [ht _ this] at hcl; cases hcl
      · rw [if_neg hbn,Option.getD_none] at e
        exact hne e
    · rw [if_neg hv'] at e
      exact hne e
  have hl1:Hq s ⟨[b]⟩=s.binds.map fun c=>⟨c.var,c.term.ap (Sb.mk [b]).look⟩:=by
    unfold Hq
    have key:∀ xs:List Bd,(∀ c∈xs,CE ⟨[b]⟩ c=some ⟨c.var,c.term.ap (Sb.mk [b]).look⟩)→xs.filterMap (CE ⟨[b]⟩)=xs.map fun c=>⟨c.var,c.term.ap (Sb.mk [b]).look⟩:=by
      intro xs
      induction xs with
      | nil=>intro _; rfl
      | cons x xs ih=>intro h; rw [List.filterMap_cons,h x (by simp),List.map_cons,ih fun c hc=>h c (by simp [hc])]
    exact key _ hone
  have hl2:ZG s ⟨[b]⟩=[b]:=by
    unfold ZG
    have hh:DH s.binds b.var=false:=by
      cases hh:DH s.binds b.var with
      | false=>rfl
      | true=>rw [Sb.K2 hh (H9 hh)] at hv; cases hv
    simp [hh]
  have hmem:∀ c,c∈(Cn s ⟨[b]⟩).binds ↔ (∃ d∈s.binds,c=⟨d.var,d.term.ap (Sb.mk [b]).look⟩)∨c=b:=fun c=>by
    unfold Cn
    show c∈(Cs s ⟨[b]⟩).mergeSort bdLe ↔ _
    rw [(List.mergeSort_perm _ _).mem_iff]
    unfold Cs
    rw [hl1,hl2,List.mem_append,List.mem_map]
    simp only [List.mem_singleton]
    constructor
    · rintro (⟨d,h1,h2⟩ | h)
      · exact .inl ⟨d,h1,h2.symm⟩
      · exact .inr h
    · rintro (⟨d,h1,h2⟩ | h)
      · exact .inl ⟨d,h1,h2.symm⟩
      · exact .inr h
  refine ⟨?_,fun w t hw v hvt=>?_⟩
  · unfold Cn
    show ((Cs s ⟨[b]⟩).mergeSort bdLe).length=_
    rw [(List.mergeSort_perm _ _).length_eq]
    unfold Cs
    rw [hl1,hl2,List.length_append,List.length_map]; rfl
  · have key:v≠b.var∧s.look v=none:=by
      have hterm:∀ z∈b.term.vs,z≠b.var∧s.look z=none:=fun z hz=>⟨fun e=>ho (e ▸ hz),ht z hz⟩
      rcases (hmem _).1 (Sb.WP hw) with ⟨d,hd,e⟩ | e
      · simp only [Bd.mk.injEq] at e
        obtain ⟨rfl,rfl⟩:=e
        rcases Tm.Qck d.term hvt with ⟨k1,k2⟩ | ⟨w',k1,t',k2,k3⟩
        · rw [RF hb] at k2
          have hne:b.var≠v:=fun e=>by rw [if_pos e] at k2; cases k2
          exact ⟨fun e=>hne e.symm,hi _ _ (Sb.KM hup hd) v k1⟩
        · rw [RF hb] at k2
          split at k2
          · obtain rfl:=Option.some.inj k2
            exact hterm v k3
          · cases k2
      · have e2:t=b.term:=by rw [← e]
        rw [e2] at hvt
        exact hterm v hvt
    refine (Sb.IS hcup).2 fun c hcm e=>?_
    rcases (hmem c).1 hcm with ⟨d,hd,e2⟩ | e2
    · have e3:c.var=d.var:=by rw [e2]
      exact (Sb.IS hup).1 key.2 d hd (e3.symm.trans e)
    · rw [e2] at e
      exact key.1 e.symm
theorem QaE {s:Sb} (hi:s.idem) {a c:Tm} (h1:BV s a=true) (h2:BV s c=true) (hv:(At (AP s a).name || At (AP s c).name)=true) :
    s.look (A5 (AP s a) (AP s c)).var=none∧∀ v∈(A5 (AP s a) (AP s c)).term.vs,s.look v=none:=by
  have ha:∀ v∈(AP s a).vs,s.look v=none:=fun v h=>by rw [DY h1] at h; exact Sb.UP hi h
  have hc:∀ v∈(AP s c).vs,s.look v=none:=fun v h=>by rw [DY h2] at h; exact Sb.UP hi h
  rcases Ga _ _ hv with ⟨e,k⟩ | ⟨e,k⟩
  · rw [e]
    exact ⟨ha _ (by rw [Tm.Gx,k]; simp),hc⟩
  · rw [e]
    exact ⟨hc _ (by rw [Tm.Gx,k]; simp),ha⟩
theorem uInv.bind {s:Sb} {p:Tm × Tm} {l:List (Tm × Tm)} (h:uInv s (p :: l)) (h1:BV s p.1=true) (h2:BV s p.2=true) (hv:(At (AP s p.1).name || At (AP s p.2).name)=true)
    (hb:BS (A5 (AP s p.1) (AP s p.2))=true) (hc:Ct s ⟨[A5 (AP s p.1) (AP s p.2)]⟩=true):uInv (Cn s ⟨[A5 (AP s p.1) (AP s p.2)]⟩) l∧(Cn s ⟨[A5 (AP s p.1) (AP s p.2)]⟩).binds.length=s.binds.length+1:=by
  obtain ⟨f1,f2⟩:=QaE h.idem h1 h2 hv
  unfold BS at hb
  rw [Bool.and_eq_true,Bool.not_eq_true'] at hb
  obtain ⟨g1,g2⟩:=Qdq h.ok h.idem hb.2 f1 f2 (CF.1 hb.1) hc
  refine ⟨⟨hc,g2,fun q hq=>h.ex q (by simp [hq]),[],l,rfl,fun q hq=>by simp at hq,by rw [Hy]; omega,?_⟩,g1⟩
  obtain ⟨P,Q,e,k1,k2,k3⟩:=h.pq
  have hl:(p :: l).length=P.length+Q.length:=by rw [e,List.length_append]
  have hP:=RD P
  simp only [List.length_cons] at hl
  rw [g1]
  omega
noncomputable def apN (s:Sb):List (Tm × Tm)→Nat
  | []=>0
  | p :: l=>(p.1.ap s.look).nodes+apN s l
theorem ZK (s:Sb):∀ a b:List (Tm × Tm),apN s (a++b)=apN s a+apN s b
  | [],b=>by simp [apN]
  | p :: a,b=>by rw [List.cons_append,apN,apN,ZK s a b]; omega
theorem WT (s:Sb):∀ l:List (Tm × Tm),(∀ p∈l,p.1.ap s.look=p.1)→apN s l=Hy l
  | [],_=>by rw [apN,Hy]
  | p :: l,h=>by rw [apN,Hy,h p (by simp),WT s l fun q hq=>h q (by simp [hq])]
theorem Qcm:∀ (k m:Nat) (s:Sb) (l:List (Tm × Tm)),uInv s l→12≤s.binds.length+k→apN s l≤m→∃ n r,BI n s l=some r:=by
  intro k
  induction k with
  | zero=>exact fun m=>uEnd 0 (fun h=>absurd h (by omega)) m
  | succ k ih=>exact fun m=>uEnd (k+1) (fun _ m s l=>ih m s l) m
where
  uEnd (k : Nat) (ih:0 < k→∀ (m:Nat) (s:Sb) (l:List (Tm × Tm)),uInv s l→12≤s.binds.length+(k - 1)→apN s l≤m→∃ n r,BI n s l=some r):∀ (m:Nat) (s:Sb) (l:List (Tm × Tm)),uInv s l→12≤s.binds.length+k→apN s l≤m→∃ n r,BI n s l=some r
    | m,s,[],h,hk,hm=>⟨1,some s,by rw [BI]⟩
    | m, s, p :: l,h,hk,hm=>by
      have hp:=Tm.Lj (p.1.ap s.look)
      rw [apN] at hm
      obtain ⟨m,rfl⟩:∃ m',m=m'+1:=⟨m - 1,by omega⟩
      cases h1:BV s p.1 with
      | false=>exact ⟨1,none,by rw [BI]; simp only [h1,Bool.false_and,cond_false]⟩
      | true =>
        cases h2:BV s p.2 with
        | false=>exact ⟨1,none,by rw [BI]; simp only [h2,Bool.and_false,cond_false]⟩
        | true =>
          cases h3:dec (AP s p.1=AP s p.2) with
          | true =>
            obtain ⟨n,r,hr⟩:=uEnd k ih m s l h.pop hk (by omega)
            exact ⟨n+1,r,by rw [BI]; simp only [h1,h2,h3,Bool.and_self,cond_true]; exact hr⟩
          | false =>
            cases h4:At (AP s p.1).name || At (AP s p.2).name with
            | true =>
              cases h5:BS (A5 (AP s p.1) (AP s p.2))&&Ct s ⟨[A5 (AP s p.1) (AP s p.2)]⟩ with
              | false=>exact ⟨1,none,by rw [BI]; simp only [h1,h2,h3,h4,h5,Bool.and_self,cond_true,cond_false]⟩
              | true =>
                have h5':=h5
                rw [Bool.and_eq_true] at h5'
                obtain ⟨g1,g2⟩:=h.bind h1 h2 h4 h5'.1 h5'.2
                have g3:=ok_len g1.ok
                obtain ⟨n,r,hr⟩:=ih (by omega) _ _ l g1 (by omega) (Nat.le_refl _)
                exact ⟨n+1,r,by rw [BI]; simp only [h1,h2,h3,h4,h5,Bool.and_self,cond_true,cond_false]; exact hr⟩
            | false =>
              have h4':=h4
              rw [Bool.or_eq_false_iff] at h4'
              cases h5:dec ((AP s p.1).name=(AP s p.2).name)&&dec ((AP s p.1).args.length=(AP s p.2).args.length) with
              | false=>exact ⟨1,none,by rw [BI]; simp only [h1,h2,h3,h4,h5,Bool.and_self,cond_true,cond_false]⟩
              | true =>
                have hz:=RE (AP s p.1).args (AP s p.2).args
                have hs:=WT s ((AP s p.1).args.zip (AP s p.2).args) fun q hq=>by
                  obtain ⟨a,b⟩:=q
                  exact TH h.idem h1 h4'.1 (PB hq).1
                have hn:=Tm.Ao (AP s p.1)
                rw [DY h1] at hn
                rw [DY h1] at hs hz
                obtain ⟨n,r,hr⟩:=uEnd k ih m s _ (h.dec h1 h2 h4'.1) hk (by rw [ZK,DY h1,hs]; omega)
                exact ⟨n+1,r,by rw [BI]; simp only [h1,h2,h3,h4,h5,Bool.and_self,cond_true,cond_false]; exact hr⟩
theorem uInv.start {a b:Tm} (ha:a.expr=true) (hb:b.expr=true):uInv ⟨[]⟩ [(a,b)]:=by
  have hok:(Sb.mk []).ok=true:=by unfold Sb.ok; simp [IC]
  have hl:∀ n,(Sb.mk []).look n=none:=fun n=>(Sb.IS (Sb.J9 hok)).2 fun c hc=>by simp at hc
  exact ⟨hok,(fun w t h=>by rw [hl] at h; cases h),(fun p hp=>by
    have:p=(a,b):=by simpa using hp
    rw [this]; exact ⟨ha,hb⟩),[],[(a,b)],rfl,fun q hq=>absurd hq (by simp),by rw [Hy]; omega,by simp⟩
theorem Y8 {a b:Tm} (ha:a.expr=true) (hb:b.expr=true):∃ n r,BI n ⟨[]⟩ [(a,b)]=some r:=Qcm 12 _ _ _ (uInv.start ha hb) (by omega) (Nat.le_refl _)
def IT:SC:=(.seq (.reg [⟨some 2,none,.boxv 71 2 (.t 0)⟩,⟨some 4,none,.mv (.c (.int .i64 0))⟩]) (.seq (.reg [⟨some 5,none,.mv (.c (.int .i64 0))⟩]) (.seq (.seq (.reg [⟨some 8,none,.faddr 0 (.t 2)⟩,⟨some 9,none,.load false 1 (.t 8)⟩,⟨some 10,none,.mv (.t 1)⟩,⟨some 11,none,.bin .eql false (.t 9) (.t 10)⟩]) (.cond (.t 11) (.reg [⟨some 5,none,.mv (.c (.int .i64 1))⟩]) .skip)) (.seq (.seq (.reg [⟨some 12,none,.faddr 1 (.t 2)⟩,⟨some 13,none,.load false 1 (.t 12)⟩,⟨some 14,none,.len false (.t 13)⟩,⟨some 15,none,.mv (.c (.int .i64 0))⟩]) (.block 0 (.loop [0,1,0,0,0,1,0,0,0,0,0,0,0,1,1,1,0,0,0,0,0,0,0,0,0,0] (.seq (.reg [⟨some 16,none,.bin .lss false (.t 15) (.t 14)⟩]) (.seq (.cond (.t 16) .skip (.exit 0)) (.seq (.block 1 (.seq (.reg [⟨some 17,none,.iaddr 2 (.t 13) (.t 15)⟩,⟨some 18,none,.load true 2 (.t 17)⟩,⟨(some 7),none,(.alloc 71 [(.str ⟨#[]⟩),.nil])⟩,⟨none,none,(.store 2 (.t 7) (.t 18))⟩]) (.reg [⟨some 19,none,.mv (.t 5)⟩,⟨some 20,none,.load true 2 (.t 7)⟩,⟨some 21,none,.mv (.t 1)⟩,⟨some 22,none,.call 161 [(.t 20),(.t 21)]⟩,⟨some 23,none,.bin .add false (.t 19) (.t 22)⟩,⟨some 5,none,.mv (.t 23)⟩]))) (.reg [⟨some 24,none,.bin .add false (.t 15) (.c (.int .i64 1))⟩,⟨some 15,none,.mv (.t 24)⟩]))))))) (.seq (.reg [⟨some 25,none,.mv (.t 5)⟩,⟨some 4,none,.mv (.t 25)⟩]) .ret)))))
theorem O1:Am Tryz.prog 161=some ⟨26,IT,[(.tmp 4)]⟩:=by kernel_rfl
theorem F9:modes 161=⟨[],.asis,none,false⟩:=by unfold modes; rfl
mutual
noncomputable def Tm.cnt (n:ByteArray):Tm→Nat
  | .mk name args=>(bif dec (name=n) then 1 else 0)+Tm.O2 n args
noncomputable def Tm.O2 (n:ByteArray):List Tm→Nat
  | []=>0
  | x :: xs=>Tm.cnt n x+Tm.O2 n xs
end
theorem Tm.Y9 (n:ByteArray) (x:Tm):x.cnt n=(bif dec (x.name=n) then 1 else 0)+Tm.O2 n x.args:=by
  obtain ⟨a,b⟩:=x
  rw [Tm.cnt]; rfl
theorem Tm.ZL (n:ByteArray):∀ xs:List Tm,(∀ x∈xs,x.cnt n≤x.nodes)→Tm.O2 n xs≤Tm.Bi xs
  | [],_=>by rw [Tm.O2]; omega
  | x :: xs,h=>by
    have h1:=h x (by simp)
    have h2:=Tm.ZL n xs fun y hy=>h y (by simp [hy])
    rw [Tm.O2,Tm.Bi]; omega
theorem Tm.Qcn (n:ByteArray) (x:Tm):x.cnt n≤x.nodes:=by
  have h:=Tm.ZL n x.args fun y hy=>Tm.Qcn n y
  rw [Tm.Y9,Tm.Ao]
  cases dec (x.name=n) with
  | true=>simp only [cond_true]; omega
  | false=>simp only [cond_false]; omega
termination_by SizeOf.sizeOf x
decreasing_by exact Tm.Az hy
theorem Tm.WU {n:ByteArray}:∀ {xs:List Tm},0 < Tm.O2 n xs ↔ ∃ x∈xs,0 < x.cnt n
  | []=>by rw [Tm.O2]; simp
  | x :: xs=>by
    have h:=Tm.WU (n:=n) (xs:=xs)
    rw [Tm.O2]
    constructor
    · intro hp
      rcases Nat.eq_zero_or_pos (x.cnt n) with h0 | h0
      · obtain ⟨y,h1,h2⟩:=h.1 (by omega)
        exact ⟨y,by simp [h1],h2⟩
      · exact ⟨x,by simp,h0⟩
    · rintro ⟨y,h1,h2⟩
      rcases List.mem_cons.1 h1 with rfl | h1
      · omega
      · have:=h.2 ⟨y,h1,h2⟩; omega
theorem UQ (x:Tm) (n:ByteArray) (hn:x.nodes≤1099511627776) (ih:∀ y∈x.args,E 161 [y.sv,.str n] []=some (.int .i64 (y.cnt n:Nat),[])):E 161 [x.sv,.str n] []=some (.int .i64 (x.cnt n:Nat),[]):=by
  have hx:=Tm.Ao x
  have hl:=Tm.AB x.args
  have hle:=Tm.Qcn n x
  have hc0:=Tm.Y9 n x
  have hsv:x.sv=.agg [.str x.name,.arr (x.args.map Tm.d)]:=rfl
  rw [hsv]
  obtain ⟨c0,hc0'⟩:∃ c0:Nat,c0=bif dec (x.name=n) then 1 else 0:=⟨_,rfl⟩
  rw [← hc0'] at hc0
  by_cases he:x.name=n
  all_goals
    have hq:=he
    first
      | rw [A4 he,cond_true] at hc0'
      | rw [AC he,cond_false] at hc0'
    first
      | have hq:=eq_true he
      | have hq:=eq_false he
    refine Ah O1 F9 (of_decide_eq_true rfl) ?_
    simp (disch:=omega) only [IT,go_sem,Aa,hq]
    refine As (α:=Int × (Nat)) (fun a=>⟨slots 26 0 [(1,.str n),(5,.int .i64 (((a.2):Nat):Int)),(13,.arr (x.args.map Tm.d)),(14,.int .i64 x.args.length),(15,.int .i64 (a.1))],[]⟩) (fun a=>∃ k:Nat,a.1=k∧k≤(x.args).length∧(a.2)+Tm.O2 n (x.args.drop k)=x.cnt n) (fun a=>(x.args).length - (a.1).toNat) (0,c0) ⟨0,rfl,Nat.zero_le _,by rw [List.drop_zero]; exact hc0.symm⟩ (by simp (disch:=omega) only [go_sem,Aa,hc0',Int.natCast_zero,Int.natCast_one]) ?_
    rintro ⟨i,acc⟩ ⟨k,hi,hk,hR⟩
    dsimp only at hi hR
    have hni:i.toNat=k:=by omega
    have hni1:(i+1).toNat=k+1:=by omega
    rcases Nat.lt_or_ge k (x.args).length with hlt | hge
    · have hg:=Aq Tm.d hlt
      rw [Tm.d_eq] at hg
      have hc:=ih x.args[k] (List.getElem_mem hlt)
      rw [List.drop_eq_getElem_cons hlt,Tm.O2] at hR
      simp (disch:=omega) only [go_sem,Aa,hni,hg,hc,F9]
      exact ⟨(i+1,acc+x.args[k].cnt n),⟨k+1,by dsimp only; omega,hlt,by omega⟩,by dsimp only; omega,by simp⟩
    · rw [List.drop_eq_nil_of_le hge,Tm.O2] at hR
      simp (disch:=omega) only [go_sem,Aa,hni]
      try omega
theorem OY (x:Tm) (n:ByteArray) (hn:x.nodes≤1099511627776):E 161 [x.sv,.str n] []=some (.int .i64 (x.cnt n:Nat),[]) :=
  UQ x n hn fun y hy=>OY y n (by have:=Tm.AZ hy; have:=Tm.Ao x; omega)
termination_by SizeOf.sizeOf x
decreasing_by exact Tm.Az hy
def OZ:SC:=(.seq (.reg [⟨some 4,none,.mv (.c (.bool false))⟩]) (.seq (.seq (.reg [⟨some 5,none,.mv (.c (.int .i64 0))⟩]) (.block 0 (.loop [1,1,0,0,0,1,0,0,0,0,0,0,0,0,0,0,0,0] (.seq (.seq (.reg [⟨some 6,none,.mv (.t 5)⟩,⟨some 7,none,.mv (.t 0)⟩,⟨some 8,none,.len false (.t 7)⟩,⟨some 9,none,.bin .lss false (.t 6) (.t 8)⟩]) (.cond (.t 9) .skip (.exit 0))) (.seq (.block 1 (.seq (.reg [⟨some 12,none,.mv (.t 0)⟩,⟨some 13,none,.mv (.t 5)⟩,⟨some 14,none,.iaddr 1 (.t 12) (.t 13)⟩,⟨some 15,none,.load false 1 (.t 14)⟩,⟨some 16,none,.mv (.t 1)⟩,⟨some 17,none,.bin .eql false (.t 15) (.t 16)⟩]) (.cond (.t 17) (.seq (.reg [⟨some 4,none,.mv (.c (.bool true))⟩]) .ret) .skip))) (.reg [⟨some 10,none,.mv (.t 5)⟩,⟨some 11,none,.bin .add false (.t 10) (.c (.int .i64 1))⟩,⟨some 5,none,.mv (.t 11)⟩])))))) (.seq (.reg [⟨some 4,none,.mv (.c (.bool false))⟩]) .ret)))
theorem WV:Am Tryz.prog 113=some ⟨18,OZ,[(.tmp 4)]⟩:=by kernel_rfl
theorem Gb:modes 113=⟨[],.asis,none,false⟩:=by unfold modes; rfl
theorem Qco (xs:List ByteArray) (n:ByteArray) (hl:xs.length≤1099511627776):E 113 [.arr (xs.map fun s=>[D.str s]),.str n] []=some (.bool (dec (n∈xs)),[]):=by
  refine Ah WV Gb (of_decide_eq_true rfl) ?_
  simp (disch:=omega) only [OZ,go_sem,Aa]
  refine As (α:=Int) (fun a=>⟨slots 18 0 [(0,.arr (xs.map fun s=>[D.str s])),(1,.str n),(5,.int .i64 a)],[]⟩) (fun a=>∃ k:Nat,a=k∧k≤(xs).length∧dec (n∈xs.drop k)=dec (n∈xs)) (fun a=>(xs).length - (a).toNat) 0 ⟨0,rfl,Nat.zero_le _,by rw [List.drop_zero]⟩ (by simp (disch:=omega) only [go_sem,Aa]) ?_
  rintro i ⟨k,hi,hk,hR⟩
  have hni:i.toNat=k:=by omega
  have hni1:(i+1).toNat=k+1:=by omega
  rcases Nat.lt_or_ge k (xs).length with hlt | hge
  · have hg:=Aq (fun s=>[D.str s]) hlt
    rw [List.drop_eq_getElem_cons hlt] at hR
    by_cases hp:xs[k]=n
    · have hq:=eq_true hp
      have ht:dec (n∈xs)=true:=A4 (hp ▸ List.getElem_mem hlt)
      simp (disch:=omega) only [go_sem,Aa,hni,hg,hq]
      exact ht.symm
    · have hq:=eq_false hp
      have hR:dec (n∈xs.drop (k+1))=dec (n∈xs):=by
        rw [← hR]
        exact ES (by simp only [List.mem_cons]; exact ⟨.inr,fun h=>h.elim (fun e=>absurd e.symm hp) id⟩)
      simp (disch:=omega) only [go_sem,Aa,hni,hg,hq]
      exact ⟨i+1,⟨k+1,by omega,hlt,hR⟩,by omega,by first | trivial | rfl⟩
  · rw [List.drop_eq_nil_of_le hge,AC (by simp)] at hR
    simp (disch:=omega) only [go_sem,Aa,hni]
    exact hR
def LJ:SC:=(.seq (.reg [⟨some 3,none,.boxv 71 2 (.t 1)⟩,⟨some 4,none,.mv (.c (.bool false))⟩]) (.seq (.reg [⟨some 5,none,.load true 2 (.t 3)⟩,⟨some 6,none,.mv (.t 0)⟩,⟨some 7,none,.call 161 [(.t 5),(.t 6)]⟩,⟨some 8,none,.bin .gtr false (.t 7) (.c (.int .i64 0))⟩,⟨some 4,none,.mv (.t 8)⟩]) .ret))
theorem S1:Am Tryz.prog 130=some ⟨9,LJ,[(.tmp 4)]⟩:=by kernel_rfl
theorem Co:modes 130=⟨[],.asis,none,false⟩:=by unfold modes; rfl
theorem Tm.ZM {n:ByteArray} (hn:At n=true) (x:Tm) (hx:At x.name=true→x.args=[]) (ih:∀ y∈x.args,(0 < y.cnt n ↔ n∈y.vs)):0 < x.cnt n ↔ n∈x.vs:=by
  rw [Tm.Y9,Tm.Gx]
  cases hv:At x.name with
  | true =>
    rw [hx hv,Tm.O2,cond_true]
    by_cases h:x.name=n
    · rw [A4 h,h]; simp
    · rw [AC h]
      simp only [cond_false,List.mem_singleton]
      exact ⟨fun k=>absurd k (by omega),fun k=>absurd k.symm h⟩
  | false =>
    have h:¬ x.name=n:=fun e=>by rw [e,hn] at hv; cases hv
    rw [AC h,cond_false,cond_false,Nat.zero_add,Tm.WU,Tm.vsL_mem]
    constructor
    · rintro ⟨y,h1,h2⟩; exact ⟨y,h1,(ih y h1).1 h2⟩
    · rintro ⟨y,h1,h2⟩; exact ⟨y,h1,(ih y h1).2 h2⟩
theorem Tm.Qcp {n:ByteArray} (hn:At n=true) (x:Tm) (hx:x.names=true):0 < x.cnt n ↔ n∈x.vs :=
  Tm.ZM hn x (Tm.F4 hx) fun y hy=>Tm.Qcp hn y (Tm.EM hx hy)
termination_by SizeOf.sizeOf x
decreasing_by exact Tm.Az hy
theorem Tm.QdS {n:ByteArray} (hn:At n=true) (x:Tm) (hx:x.expr=true):dec ((0:Int) < (x.cnt n:Nat))=dec (n∈x.vs):=by
  have h:=Tm.ZM hn x (Tm.Wq hx) fun y hy=>Tm.Qcp hn y (Tm.IF hx hy)
  refine ES ?_
  rw [← h]; omega
theorem Tm.Ey {x:Tm} (h:x.expr=true):x.cok=true:=by
  rcases Tm.Jt h with hn | ⟨he,ha⟩
  · exact Tm.I9 x hn
  · have hname:x.name=⟨#[61]⟩:=by unfold Tm.eqn at he; exact Ax.1 he
    have hc:Kj ⟨#[61]⟩=true:=by kernel_rfl
    rw [Tm.Kk,hname,hc,Bool.true_and]
    have key:∀ xs:List Tm,(∀ y∈xs,y.names=true)→Tm.Sd xs=true:=by
      intro xs
      induction xs with
      | nil=>intro _; rw [Tm.Sd]
      | cons y ys ih=>intro hh; rw [Tm.Sd,Tm.I9 y (hh y (by simp)),ih fun z hz=>hh z (by simp [hz])]; rfl
    exact key _ fun y hy=>Tm.IF h hy
theorem WW (n:ByteArray) (hn:At n=true) (x:Tm) (hx:x.expr=true):E 130 [.str n,x.sv] []=some (.bool (dec (n∈x.vs)),[]):=by
  have h:=OY x n (by have:=Tm.Au hx; omega)
  rw [← Tm.QdS hn x hx]
  refine Ah S1 Co (of_decide_eq_true rfl) ?_
  simp (disch:=omega) only [LJ,go_sem,Aa,h,F9]
def B6:SC:=(.seq (.reg [⟨some 1,none,.boxv 107 4 (.t 0)⟩,⟨some 2,none,.alloc 76 [.nil]⟩,⟨some 3,none,.mv (.c (.bool false))⟩]) (.seq (.dreg [[],[0],[],[2],[],[],[4,1,0,5],[5,3,2,6,4,1,0]] [⟨some 7,none,.faddr 0 (.t 1)⟩,⟨some 8,none,.load true 2 (.t 7)⟩,⟨some 9,none,.faddr 2 (.t 1)⟩,⟨some 10,none,.load true 2 (.t 9)⟩,⟨(some 4),none,(.alloc 71 [(.str ⟨#[]⟩),.nil])⟩,⟨(some 5),none,(.alloc 71 [(.str ⟨#[]⟩),.nil])⟩,⟨none,none,(.store 2 (.t 4) (.t 8))⟩,⟨none,none,(.store 2 (.t 5) (.t 10))⟩]) (.seq (.seq (.reg [⟨some 11,none,.load true 2 (.t 4)⟩,⟨some 12,none,.call 89 [(.t 11)]⟩,⟨some 13,none,.un .not (.t 12)⟩,⟨some 14,none,.mv (.t 13)⟩,⟨(some 15),(some (14,false)),(.load true 2 (.t 5))⟩,⟨(some 16),(some (14,false)),(.call 89 [(.t 15)])⟩,⟨(some 17),(some (14,false)),(.mv (.t 16))⟩,⟨(some 18),(some (17,true)),(.faddr 0 (.t 5))⟩,⟨(some 19),(some (17,true)),(.load false 1 (.t 18))⟩,⟨(some 20),(some (17,true)),(.faddr 0 (.t 4))⟩,⟨(some 21),(some (17,true)),(.load false 1 (.t 20))⟩,⟨(some 22),(some (17,true)),(.bin .gtr false (.t 19) (.t 21))⟩,⟨(some 23),(some (14,false)),(.pick (.t 17) (.t 22) (.c (.bool false)))⟩,⟨some 24,none,.pick (.t 14) (.c (.bool true)) (.t 23)⟩]) (.cond (.t 24) (.reg [⟨some 25,none,.load true 2 (.t 5)⟩,⟨some 26,none,.load true 2 (.t 4)⟩,⟨none,none,(.store 2 (.t 4) (.t 25))⟩,⟨none,none,(.store 2 (.t 5) (.t 26))⟩]) .skip)) (.seq (.reg [⟨some 27,none,.faddr 0 (.t 4)⟩,⟨some 28,none,.load false 1 (.t 27)⟩,⟨some 29,none,.load true 2 (.t 5)⟩,⟨(some 30),none,(.build [(.str ⟨#[]⟩),(.str ⟨#[]⟩),.nil] [(0,(1,(.t 28))),(1,(2,(.t 29)))])⟩,⟨(some 31),none,(.mkrow 139 3 [(.str ⟨#[]⟩),(.str ⟨#[]⟩),.nil] 1 [(0,(.t 30))])⟩,⟨some 32,none,.build [.nil] [(0,(1,(.t 31)))]⟩,⟨some 6,none,.alloc 76 [.nil]⟩,⟨none,none,(.store 1 (.t 6) (.t 32))⟩]) (.seq (.dreg [[],[],[1],[],[2,1,3],[4,2,1,3],[5,4,2,1,3],[6,5,4,2,1,3],[7,6,5,4,2,1,3],[6,5,4,2,1,3,8,7],[0,8,7,6,5,4,2,1,3],[9,6,5,4,2,1,3,8,7,10,0]] [⟨some 33,none,.load true 1 (.t 6)⟩,⟨some 34,none,.faddr 0 (.t 4)⟩,⟨some 35,none,.load false 1 (.t 34)⟩,⟨some 36,none,.load true 2 (.t 5)⟩,⟨some 37,none,.call 130 [(.t 35),(.t 36)]⟩,⟨some 38,none,.un .not (.t 37)⟩,⟨some 39,none,.mv (.t 38)⟩,⟨(some 40),(some (39,true)),(.load true 1 (.t 6))⟩,⟨(some 41),(some (39,true)),(.call 131 [(.t 40)])⟩,⟨some 42,none,.pick (.t 39) (.t 41) (.c (.bool false))⟩,⟨none,none,(.store 1 (.t 2) (.t 33))⟩,⟨some 3,none,.mv (.t 42)⟩]) .ret)))))
theorem BJ:Am Tryz.prog 90=some ⟨43,B6,[(.cell 2 true 1),(.tmp 3)]⟩:=by kernel_rfl
theorem Ae:modes 90=⟨[],.frz,none,false⟩:=by unfold modes; rfl
def Is:SC:=(.seq (.reg [⟨some 3,none,.boxv 76 1 (.t 0)⟩,⟨some 5,none,.boxv 71 2 (.t 2)⟩,⟨some 6,none,.alloc 76 [.nil]⟩,⟨some 7,none,.mv (.c (.bool false))⟩]) (.seq (.seq (.reg [⟨some 8,none,.load true 2 (.t 5)⟩,⟨some 9,none,.call 114 [(.t 8)]⟩,⟨some 10,none,.mv (.t 1)⟩,⟨some 11,none,.call 113 [(.t 9),(.t 10)]⟩]) (.cond (.t 11) (.seq (.reg [⟨some 12,none,.load true 1 (.t 3)⟩,⟨none,none,(.store 1 (.t 6) (.t 12))⟩,⟨some 7,none,.mv (.c (.bool false))⟩]) .ret) .skip)) (.seq (.dreg [[],[],[],[],[1,2,3],[0,4,1,2,3],[5,0,4,1,2,3],[5,0,4,1,2,3],[6,5,0,4,1,2,3,7],[7,5,0,4,1,2,3,8,6]] [⟨some 13,none,.load true 1 (.t 3)⟩,⟨some 14,none,.build [.nil] []⟩,⟨some 15,none,.mv (.t 1)⟩,⟨some 16,none,.load true 2 (.t 5)⟩,⟨some 17,none,.call 116 [(.t 14),(.t 15),(.t 16)]⟩,⟨some 18,none,.call 115 [(.t 13),(.t 17)]⟩,⟨some 19,none,.ext (.t 18) 0⟩,⟨some 20,none,.ext (.t 18) 1⟩,⟨none,none,(.store 1 (.t 6) (.t 19))⟩,⟨some 7,none,.mv (.t 20)⟩]) .ret)))
theorem LK:Am Tryz.prog 78=some ⟨21,Is,[(.cell 6 true 1),(.tmp 7)]⟩:=by kernel_rfl
theorem Al:modes 78=⟨[],.frz,none,false⟩:=by unfold modes; rfl
theorem Hs {b:Bd} (h:b.term.nodes≤1099511627776):(Sb.mk [b]).tame:=⟨by simp,fun y hy=>by
  have:y=b:=by simpa using hy
  rw [this]; exact h⟩
theorem HS (x y:Tm) (hx:x.expr=true) (hy:y.expr=true) (hv:(At x.name || At y.name)=true):E 90 [.agg [.str x.name,.arr (x.args.map Tm.d),.str y.name,.arr (y.args.map Tm.d)]] []=some (.tup [(Sb.mk [A5 x y]).sv,.bool (BS (A5 x y))],[]):=by
  have h1:=Dd x (Tm.Ey hx)
  have h2:=Dd y (Tm.Ey hy)
  have n1:=Tm.Au hx
  have n2:=Tm.Au hy
  have hor:(A5 x y=⟨x.name,y⟩∧At x.name=true∧(At y.name&&AD x.name y.name)=false)∨(A5 x y=⟨y.name,x⟩∧At y.name=true∧(At x.name=false∨(At y.name&&AD x.name y.name)=true)):=by
    unfold A5
    cases h1:At x.name with
    | true =>
      cases h3:At y.name&&AD x.name y.name with
      | true=>rw [Bool.and_eq_true] at h3; exact .inr ⟨rfl,h3.1,.inr (by rfl)⟩
      | false=>exact .inl ⟨rfl,rfl,rfl⟩
    | false =>
      rw [h1,Bool.false_or] at hv
      exact .inr ⟨rfl,hv,.inl (by rfl)⟩
  rcases hor with ⟨e,k1,k2⟩ | ⟨e,k1,k2⟩
  · rw [e]
    have ho:=WW x.name k1 y hy
    have hi:=DG ⟨[⟨x.name,y⟩]⟩ (Hs (by show y.nodes≤_; omega))
    have hsv:(Sb.mk [⟨x.name,y⟩]).sv=.agg [.arr [[.str x.name,.str y.name,.arr (y.args.map Tm.d)]]]:=rfl
    rw [hsv] at hi ⊢
    unfold BS
    rw [k1] at h1
    cases hv2:At y.name with
    | false =>
      rw [hv2] at h2
      cases hb:dec (x.name∈y.vs) with
      | true =>
        rw [hb] at ho
        refine Ah BJ Ae (of_decide_eq_true rfl) ?_
        simp (disch:=omega) only [B6,go_sem,Aa,h1,h2,ho,hi,hb,Ak,Co,A3]
      | false =>
        rw [hb] at ho
        refine Ah BJ Ae (of_decide_eq_true rfl) ?_
        simp (disch:=omega) only [B6,go_sem,Aa,h1,h2,ho,hi,hb,Ak,Co,A3]
    | true =>
      rw [hv2] at h2 k2
      rw [Bool.true_and] at k2
      cases hb:dec (x.name∈y.vs) with
      | true =>
        rw [hb] at ho
        refine Ah BJ Ae (of_decide_eq_true rfl) ?_
        simp (disch:=omega) only [B6,go_sem,Aa,h1,h2,ho,hi,hb,k2,IB,Bool.not_not,Ak,Co,A3]
      | false =>
        rw [hb] at ho
        refine Ah BJ Ae (of_decide_eq_true rfl) ?_
        simp (disch:=omega) only [B6,go_sem,Aa,h1,h2,ho,hi,hb,k2,IB,Bool.not_not,Ak,Co,A3]
  · rw [e]
    have ho:=WW y.name k1 x hx
    have hi:=DG ⟨[⟨y.name,x⟩]⟩ (Hs (by show x.nodes≤_; omega))
    have hsv:(Sb.mk [⟨y.name,x⟩]).sv=.agg [.arr [[.str y.name,.str x.name,.arr (x.args.map Tm.d)]]]:=rfl
    rw [hsv] at hi ⊢
    unfold BS
    rw [k1] at h2 k2
    rw [Bool.true_and] at k2
    cases hv1:At x.name with
    | false =>
      rw [hv1] at h1
      cases hb:dec (y.name∈x.vs) with
      | true =>
        rw [hb] at ho
        refine Ah BJ Ae (of_decide_eq_true rfl) ?_
        simp (disch:=omega) only [B6,go_sem,Aa,h1,h2,ho,hi,hb,Ak,Co,A3]
      | false =>
        rw [hb] at ho
        refine Ah BJ Ae (of_decide_eq_true rfl) ?_
        simp (disch:=omega) only [B6,go_sem,Aa,h1,h2,ho,hi,hb,Ak,Co,A3]
    | true =>
      rw [hv1] at h1 k2
      have k2:AD x.name y.name=true:=k2.elim (fun h=>by cases h) id
      cases hb:dec (y.name∈x.vs) with
      | true =>
        rw [hb] at ho
        refine Ah BJ Ae (of_decide_eq_true rfl) ?_
        simp (disch:=omega) only [B6,go_sem,Aa,h1,h2,ho,hi,hb,k2,IB,Bool.not_not,Ak,Co,A3]
      | false =>
        rw [hb] at ho
        refine Ah BJ Ae (of_decide_eq_true rfl) ?_
        simp (disch:=omega) only [B6,go_sem,Aa,h1,h2,ho,hi,hb,k2,IB,Bool.not_not,Ak,Co,A3]
theorem Cx (s:Sb) (hs:s.ok=true) (n:ByteArray) (t:Tm) (ht:t.expr=true) (hne:t.name=n→n∈t.vs):∃ r:Sb,E 78 [s.sv,.str n,t.sv] []=some (.tup [r.sv,.bool (BS ⟨n,t⟩&&Ct s ⟨[⟨n,t⟩]⟩)],[])∧((BS ⟨n,t⟩&&Ct s ⟨[⟨n,t⟩]⟩)=true→r=Cn s ⟨[⟨n,t⟩]⟩):=by
  have n1:=Tm.Au ht
  have h1:=Qcj t (by omega)
  have hl:=RC t.vs []
  have hvl:=Tm.vs_len t
  have h2:=Qco (JN [] t.vs) n (by simp only [List.length_nil] at hl; omega)
  have e1:dec (n∈JN [] t.vs)=dec (n∈t.vs):=ES (by rw [WN]; simp)
  rw [e1] at h2
  have hss:s.sv=.agg [.arr (s.binds.map Bd.d)]:=rfl
  cases hb:dec (n∈t.vs) with
  | true =>
    rw [hb] at h2
    refine ⟨s,?_,fun h=>?_⟩
    · have e2:BS ⟨n,t⟩=false:=by
        unfold BS
        show (!dec (n∈t.vs)&&_)=false
        rw [hb]; rfl
      rw [e2,Bool.false_and,hss]
      refine Ah LK Al (of_decide_eq_true rfl) ?_
      simp (disch:=omega) only [Is,go_sem,Aa,h1,h2,Ir,Gb]
    · unfold BS at h
      have h:((!dec (n∈t.vs)&&_)&&_)=true:=h
      rw [hb] at h; cases h
  | false =>
    rw [hb] at h2
    have hnn:¬ t.name=n:=fun e=>CF.1 hb (hne e)
    have h3:=UN ⟨[]⟩ n t (by show 0≤_; omega) (by omega)
    have hput:(Sb.mk []).put ⟨n,t⟩=⟨[⟨n,t⟩]⟩:=by
      unfold Sb.put
      rw [AC hnn]; rfl
    rw [hput] at h3
    have hpsv:(Sb.mk [⟨n,t⟩]).sv=.agg [.arr [[.str n,.str t.name,.arr (t.args.map Tm.d)]]]:=rfl
    have htame:s.tame:=⟨by have:=ok_len hs; omega,fun c hc=>by
      obtain ⟨k,hk,rfl⟩:=List.getElem_of_mem hc
      have:=Eb (Dv (Sb.JA hs hk)); omega⟩
    have h4:=Sy s ⟨[⟨n,t⟩]⟩ htame (Hs (by show t.nodes≤_; omega))
    have e0:(Sb.mk []).sv=.agg [.arr []]:=rfl
    rw [e0,hpsv] at h3
    rw [hpsv] at h4
    have e2:Sx s ⟨[⟨n,t⟩]⟩=(BS ⟨n,t⟩&&Ct s ⟨[⟨n,t⟩]⟩):=by
      unfold Sx BS
      show _=((!dec (n∈t.vs)&&_)&&_)
      rw [hs,hb]; rfl
    rw [e2] at h4
    refine ⟨WK s ⟨[⟨n,t⟩]⟩,?_,fun h=>?_⟩
    · have hrs:(WK s ⟨[⟨n,t⟩]⟩).sv=.agg [.arr ((WK s ⟨[⟨n,t⟩]⟩).binds.map Bd.d)]:=rfl
      rw [hss] at h4 ⊢
      rw [hrs] at h4 ⊢
      refine Ah LK Al (of_decide_eq_true rfl) ?_
      simp (disch:=omega) only [Is,go_sem,Aa,h1,h2,h3,h4,Ir,Gb,C2,By]
    · unfold WK
      rw [e2,h]; rfl
def eqD (p:Tm × Tm):List D:=[.str p.1.name,.arr (p.1.args.map Tm.d),.str p.2.name,.arr (p.2.args.map Tm.d)]
def eqO (p:Tm × Tm):List OT:=[.str p.1.name,.sh (p.1.args.map Tm.d),.str p.2.name,.sh (p.2.args.map Tm.d)]
theorem RG:∀ l:List (Tm × Tm),OT.erss (l.map eqO)=l.map eqD
  | []=>rfl
  | p :: l=>by rw [List.map_cons,List.map_cons,OT.erss,RG l]; rfl
theorem RH:∀ l:List (Tm × Tm),OT.AS (l.map eqO)=true
  | []=>rfl
  | p :: l=>by rw [List.map_cons,OT.AS,RH l]; rfl
theorem KN (l:List (Tm × Tm)):(l.map eqD).map (fun x=>x.map D.ot)=l.map eqO:=by rw [List.map_map]; rfl
theorem HT (l:List (Tm × Tm)):((l.map eqO).all fun x=>x.length == 4)=true:=by
  rw [List.all_map,List.all_eq_true]; intro x _; rfl
theorem PC (l:List (Tm × Tm)):((l.map eqD).all fun x=>x.length == 4)=true:=by
  rw [List.all_map,List.all_eq_true]; intro x _; rfl
noncomputable def uTo (t:Option Sb):Sb:=t.getD ⟨[]⟩
def uOk (t:Option Sb):Bool:=t.isSome
theorem E8 {s:Sb} (hs:s.ok=true):s.tame:=⟨by have:=ok_len hs; omega,fun c hc=>by
  obtain ⟨k,hk,rfl⟩:=List.getElem_of_mem hc
  have:=Eb (Dv (Sb.JA hs hk)); omega⟩
theorem Gc {α β:Type} {xs:List α} {ys:List β} {k:Nat} (h:k < xs.length) (h':k < ys.length):(xs.zip ys).take k++[(xs[k],ys[k])]=(xs.zip ys).take (k+1):=by
  have hz:k < (xs.zip ys).length:=by rw [List.length_zip]; omega
  rw [List.take_succ_eq_append_getElem hz,List.getElem_zip]
theorem PD:∀ (n:Nat) (s:Sb) (l:List (Tm × Tm)) (r:Sb),uInv s l→BI n s l=some (some r)→r.ok=true
  | 0,s,l,r,h,e=>by rw [BI] at e; cases e
  | n+1,s,[],r,h,e=>by
    rw [BI] at e
    simp only [Option.some.injEq] at e
    rw [← e]; exact h.ok
  | n + 1, s, p :: l,r,h,e=>by
    rw [BI] at e
    cases h1:BV s p.1 with
    | false=>simp only [h1,Bool.false_and,cond_false] at e; cases e
    | true =>
      cases h2:BV s p.2 with
      | false=>simp only [h2,Bool.and_false,cond_false] at e; cases e
      | true =>
        cases h3:dec (AP s p.1=AP s p.2) with
        | true =>
          simp only [h1,h2,h3,Bool.and_self,cond_true] at e
          exact PD n s l r h.pop e
        | false =>
          cases h4:At (AP s p.1).name || At (AP s p.2).name with
          | true =>
            cases h5:BS (A5 (AP s p.1) (AP s p.2))&&Ct s ⟨[A5 (AP s p.1) (AP s p.2)]⟩ with
            | false=>simp only [h1,h2,h3,h4,h5,Bool.and_self,cond_true,cond_false] at e; cases e
            | true =>
              simp only [h1,h2,h3,h4,h5,Bool.and_self,cond_true,cond_false] at e
              rw [Bool.and_eq_true] at h5
              exact PD n _ l r (h.bind h1 h2 h4 h5.1 h5.2).1 e
          | false =>
            have h4':=h4
            rw [Bool.or_eq_false_iff] at h4'
            cases h5:dec ((AP s p.1).name=(AP s p.2).name)&&dec ((AP s p.1).args.length=(AP s p.2).args.length) with
            | false=>simp only [h1,h2,h3,h4,h5,Bool.and_self,cond_true,cond_false] at e; cases e
            | true =>
              simp only [h1,h2,h3,h4,h5,Bool.and_self,cond_true,cond_false] at e
              exact PD n s _ r (h.dec h1 h2 h4'.1) e
open Classical in
noncomputable def unR (a b:Tm):Option Sb:=if h:∃ r,∃ n,BI n ⟨[]⟩ [(a,b)]=some r then h.choose else none
theorem RI {a b:Tm} (ha:a.expr=true) (hb:b.expr=true):∃ n,BI n ⟨[]⟩ [(a,b)]=some (unR a b):=by
  obtain ⟨n,r,h⟩:=Y8 ha hb
  have he:∃ r,∃ n,BI n ⟨[]⟩ [(a,b)]=some r:=⟨r,n,h⟩
  unfold unR
  rw [dif_pos he]
  exact he.choose_spec
theorem Qcq {a b:Tm} (ha:a.expr=true) (hb:b.expr=true) {s:Sb} (h:unR a b=some s):s.ok=true:=by
  obtain ⟨n,hn⟩:=RI ha hb
  rw [h] at hn
  exact PD n _ _ s (uInv.start ha hb) hn
theorem Qex {p:Prop} (h:dec p=false):¬ p:=fun hp=>by rw [A4 hp] at h; cases h
noncomputable def Gd (s:Sb) (l:List Lt):Bool:=Eo s l&&(nz 10 (apC s l)).norm
noncomputable def S2 (s:Sb) (l:List Lt):Cl:=if Gd s l then nz 10 (apC s l) else ⟨[]⟩
theorem N0 {s:Sb} {l:List Lt} (h:Gd s l=false):S2 s l=⟨[]⟩:=by unfold S2; rw [if_neg (by rw [h]; simp)]
theorem RJ {s:Sb} {l:List Lt} (h:Gd s l=true):S2 s l=nz 10 (apC s l):=by unfold S2; rw [if_pos h]
theorem YA {s:Sb} {l:List Lt} (h:Eo s l=true):(apC s l).ok=true:=by
  rw [UF h]
  unfold Eo at h
  rw [Bool.and_eq_true] at h
  exact h.2
theorem Qcr {c:Cl} (h:c.ok=true):c.tame:=⟨by have:=Cl.ok_len h; omega,fun y hy=>by have:=Tm.CD (Cl.Dj h y hy); omega⟩
noncomputable def Mn (c:Cl) (i:Int):Bool:=dec (0≤i)&&dec (i≤(c.lits.length:Int) - 1)
theorem N1 {c:Cl} {i:Int} (h:Mn c i=true):∃ p:Nat,i=p∧p < c.lits.length:=by
  unfold Mn at h
  rw [Bool.and_eq_true] at h
  have h1:=Ax.1 h.1
  have h2:=Ax.1 h.2
  exact ⟨i.toNat,by omega,by omega⟩
noncomputable def S3 (c:Cl) (i:Int):Lt:=(c.lits[i.toNat]?).getD ⟨false,.mk ⟨#[]⟩ []⟩
theorem PE {c:Cl} {p:Nat} (h:p < c.lits.length):S3 c (p:Int)=c.lits[p]:=by
  unfold S3
  rw [Int.toNat_natCast,List.getElem?_eq_getElem h]; rfl
noncomputable def IU (c:Cl) (i k:Int):Bool:=Mn c i&&(Mn c k&&(dec (i < k)&&((S3 c i).pos == (S3 c k).pos)))
noncomputable def UR (c:Cl) (i k:Int):Option Sb:=bif IU c i k then unR (S3 c i).atom (S3 c k).atom else none
noncomputable def Pa (c:Cl) (i k:Int):Bool:=match UR c i k with
  | none=>false
  | some s=>Gd s (c.lits.eraseIdx k.toNat)
noncomputable def RK (c:Cl) (i k:Int):Cl:=match UR c i k with
  | none=>⟨[]⟩
  | some s=>S2 s (c.lits.eraseIdx k.toNat)
theorem Jy {c:Cl} {i k:Int} (h:UR c i k=none):Pa c i k=false∧RK c i k=⟨[]⟩:=by
  unfold Pa RK
  rw [h]
  exact ⟨rfl,rfl⟩
theorem WX {c:Cl} {i k:Int} {s:Sb} (h:UR c i k=some s):Pa c i k=Gd s (c.lits.eraseIdx k.toNat)∧RK c i k=S2 s (c.lits.eraseIdx k.toNat):=by
  unfold Pa RK
  rw [h]
  exact ⟨rfl,rfl⟩
theorem Jz {c:Cl} {i k:Int} (h:IU c i k=false):UR c i k=none:=by unfold UR; rw [h]; rfl
theorem WY {c:Cl} {i k:Int} (h:IU c i k=true):UR c i k=unR (S3 c i).atom (S3 c k).atom:=by unfold UR; rw [h]; rfl
theorem Pb {c:Cl} (hc:c.ok=true) (k:Nat):∀ x∈c.lits.eraseIdx k,x.atom.atom=true:=fun x hx=>Cl.Dj hc x (List.mem_of_mem_eraseIdx hx)
theorem TI {c:Cl} (hc:c.ok=true) (k:Nat):(c.lits.eraseIdx k).length≤8:=by
  have h1:=List.length_eraseIdx_le c.lits k
  have h2:=Cl.ok_len hc
  omega
noncomputable def YB (c:Cl) (i k:Int):Bool:=(c.ok&&c.norm)&&Pa c i k
noncomputable def S4 (c:Cl) (i k:Int):Cl:=bif c.ok&&c.norm then RK c i k else ⟨[]⟩
theorem Qd2 {c:Cl} {i k:Int} (h:(c.ok&&c.norm)=false):YB c i k=false∧S4 c i k=⟨[]⟩:=by
  unfold YB S4
  rw [h]
  exact ⟨rfl,rfl⟩
theorem Qcs {c:Cl} {i k:Int} (h:(c.ok&&c.norm)=true):YB c i k=Pa c i k∧S4 c i k=RK c i k:=by
  unfold YB S4
  rw [h]
  exact ⟨rfl,rfl⟩
def N2:SC:=(.seq (.reg [⟨some 2,none,.boxv 71 2 (.t 0)⟩,⟨some 3,none,.boxv 71 2 (.t 1)⟩,⟨some 4,none,.alloc 76 [.nil]⟩,⟨some 5,none,.mv (.c (.bool false))⟩]) (.seq (.reg [⟨some 17,none,.build [.nil] []⟩,⟨some 6,none,.alloc 76 [.nil]⟩,⟨none,none,(.store 1 (.t 6) (.t 17))⟩]) (.seq (.reg [⟨some 18,none,.load true 2 (.t 2)⟩,⟨some 19,none,.load true 2 (.t 3)⟩,⟨(some 20),none,(.build [(.str ⟨#[]⟩),.nil,(.str ⟨#[]⟩),.nil] [(0,(2,(.t 18))),(2,(2,(.t 19)))])⟩,⟨(some 21),none,(.mkrow 107 4 [(.str ⟨#[]⟩),.nil,(.str ⟨#[]⟩),.nil] 1 [(0,(.t 20))])⟩,⟨some 7,none,.mv (.t 21)⟩]) (.seq (.block 0 (.loop [0,0,0,0,1,0,1,1,0,0,0,0,0,0,0,0,0,0,0,0,0,0,0,0,0,0,0,0,0,0,0,0,0,0,0,0,0,0,0,0,0,0,0,0,0,0,0,0,0,0,0,0,0,0,0,0,0,0,0,0,0,0,0,0,0,0,0,0,0,0,0,0,0,0,0,0,0,0,0,0,0,0,0,0,0,0,0,0,0,0,0,0,0,0,0,0,0,0,0,0,0,0,0,0,0,0,0,0,0,0,0,0,0,0,0,0,0,0,0,0,0,0,0] (.seq (.seq (.reg [⟨some 22,none,.mv (.t 7)⟩,⟨some 23,none,.len false (.t 22)⟩,⟨some 24,none,.bin .gtr false (.t 23) (.c (.int .i64 0))⟩]) (.cond (.t 24) .skip (.exit 0))) (.block 1 (.seq (.dreg [[],[],[1],[2,1],[3,2,1],[0,4,3,2,1],[5,0,4,3,2,1],[6,5,0,4,3,2,1],[6,5,0,4,3,2,1],[],[9,7,6,5,0,4,3,2,1],[8,6,5,0,4,3,2,1,10,9,7]] [⟨some 26,none,.load true 1 (.t 6)⟩,⟨some 27,none,.mv (.t 7)⟩,⟨some 28,none,.iaddr 4 (.t 27) (.c (.int .i64 0))⟩,⟨some 29,none,.faddr 0 (.t 28)⟩,⟨some 30,none,.load true 2 (.t 29)⟩,⟨some 31,none,.call 87 [(.t 26),(.t 30)]⟩,⟨some 25,none,.mv (.t 31)⟩,⟨some 32,none,.ext (.t 25) 0⟩,⟨some 33,none,.ext (.t 25) 1⟩,⟨(some 8),none,(.alloc 71 [(.str ⟨#[]⟩),.nil])⟩,⟨none,none,(.store 2 (.t 8) (.t 32))⟩,⟨some 9,none,.mv (.t 33)⟩]) (.seq (.dreg [[],[],[1],[2,1],[3,2,1],[0,4,3,2,1],[5,0,4,3,2,1],[6,5,0,4,3,2,1],[6,5,0,4,3,2,1],[],[9,7,6,5,0,4,3,2,1],[8,6,5,0,4,3,2,1,10,9,7]] [⟨some 35,none,.load true 1 (.t 6)⟩,⟨some 36,none,.mv (.t 7)⟩,⟨some 37,none,.iaddr 4 (.t 36) (.c (.int .i64 0))⟩,⟨some 38,none,.faddr 2 (.t 37)⟩,⟨some 39,none,.load true 2 (.t 38)⟩,⟨some 40,none,.call 87 [(.t 35),(.t 39)]⟩,⟨some 34,none,.mv (.t 40)⟩,⟨some 41,none,.ext (.t 34) 0⟩,⟨some 42,none,.ext (.t 34) 1⟩,⟨(some 10),none,(.alloc 71 [(.str ⟨#[]⟩),.nil])⟩,⟨none,none,(.store 2 (.t 10) (.t 41))⟩,⟨some 11,none,.mv (.t 42)⟩]) (.seq (.reg [⟨some 43,none,.mv (.t 7)⟩,⟨some 44,none,.slice false 4 (.t 43) (some (.c (.int .i64 1))) none⟩,⟨some 7,none,.mv (.t 44)⟩]) (.block 2 (.seq (.reg [⟨some 69,none,.mv (.t 9)⟩,⟨some 70,none,.un .not (.t 69)⟩,⟨some 71,none,.mv (.t 70)⟩,⟨(some 72),(some (71,false)),(.mv (.t 11))⟩,⟨(some 73),(some (71,false)),(.un .not (.t 72))⟩,⟨some 74,none,.pick (.t 71) (.c (.bool true)) (.t 73)⟩,⟨some 68,none,.mv (.t 74)⟩]) (.cond (.t 68) (.seq (.reg [⟨some 75,none,.build [.nil] []⟩,⟨none,none,(.store 1 (.t 4) (.t 75))⟩,⟨some 5,none,.mv (.c (.bool false))⟩]) .ret) (.seq (.reg [⟨some 77,none,.load true 2 (.t 8)⟩,⟨some 78,none,.load true 2 (.t 10)⟩,⟨some 79,none,.call 88 [(.t 77),(.t 78)]⟩,⟨some 76,none,.mv (.t 79)⟩]) (.cond (.t 76) .skip (.seq (.reg [⟨some 81,none,.load true 2 (.t 8)⟩,⟨some 82,none,.call 89 [(.t 81)]⟩,⟨some 83,none,.mv (.t 82)⟩,⟨(some 84),(some (83,false)),(.load true 2 (.t 10))⟩,⟨(some 85),(some (83,false)),(.call 89 [(.t 84)])⟩,⟨some 86,none,.pick (.t 83) (.c (.bool true)) (.t 85)⟩,⟨some 80,none,.mv (.t 86)⟩]) (.cond (.t 80) (.seq (.reg [⟨some 88,none,.load true 2 (.t 8)⟩,⟨some 89,none,.load true 2 (.t 10)⟩,⟨(some 90),none,(.build [(.str ⟨#[]⟩),.nil,(.str ⟨#[]⟩),.nil] [(0,(2,(.t 88))),(2,(2,(.t 89)))])⟩,⟨some 91,none,.call 90 [(.t 90)]⟩,⟨some 87,none,.mv (.t 91)⟩,⟨some 92,none,.ext (.t 87) 0⟩,⟨some 93,none,.ext (.t 87) 1⟩,⟨some 12,none,.alloc 76 [.nil]⟩,⟨none,none,(.store 1 (.t 12) (.t 92))⟩,⟨some 13,none,.mv (.t 93)⟩]) (.seq (.seq (.reg [⟨some 94,none,.mv (.t 13)⟩,⟨some 95,none,.un .not (.t 94)⟩]) (.cond (.t 95) (.seq (.reg [⟨some 96,none,.build [.nil] []⟩,⟨none,none,(.store 1 (.t 4) (.t 96))⟩,⟨some 5,none,.mv (.c (.bool false))⟩]) .ret) .skip)) (.seq (.reg [⟨some 98,none,.load true 1 (.t 6)⟩,⟨some 99,none,.load true 1 (.t 12)⟩,⟨some 100,none,.call 91 [(.t 98),(.t 99)]⟩,⟨some 97,none,.mv (.t 100)⟩,⟨some 101,none,.ext (.t 97) 0⟩,⟨some 102,none,.ext (.t 97) 1⟩,⟨none,none,(.store 1 (.t 6) (.t 101))⟩,⟨some 13,none,.mv (.t 102)⟩]) (.seq (.reg [⟨some 103,none,.mv (.t 13)⟩,⟨some 104,none,.un .not (.t 103)⟩]) (.cond (.t 104) (.seq (.reg [⟨some 105,none,.build [.nil] []⟩,⟨none,none,(.store 1 (.t 4) (.t 105))⟩,⟨some 5,none,.mv (.c (.bool false))⟩]) .ret) .skip))))) (.seq (.reg [⟨some 107,none,.faddr 0 (.t 8)⟩,⟨some 108,none,.load false 1 (.t 107)⟩,⟨some 109,none,.faddr 0 (.t 10)⟩,⟨some 110,none,.load false 1 (.t 109)⟩,⟨some 111,none,.bin .neq false (.t 108) (.t 110)⟩,⟨some 112,none,.mv (.t 111)⟩,⟨(some 113),(some (112,false)),(.faddr 1 (.t 8))⟩,⟨(some 114),(some (112,false)),(.load false 1 (.t 113))⟩,⟨(some 115),(some (112,false)),(.len false (.t 114))⟩,⟨(some 116),(some (112,false)),(.faddr 1 (.t 10))⟩,⟨(some 117),(some (112,false)),(.load false 1 (.t 116))⟩,⟨(some 118),(some (112,false)),(.len false (.t 117))⟩,⟨(some 119),(some (112,false)),(.bin .neq false (.t 115) (.t 118))⟩,⟨some 120,none,.pick (.t 112) (.c (.bool true)) (.t 119)⟩,⟨some 106,none,.mv (.t 120)⟩]) (.cond (.t 106) (.seq (.reg [⟨some 121,none,.build [.nil] []⟩,⟨none,none,(.store 1 (.t 4) (.t 121))⟩,⟨some 5,none,.mv (.c (.bool false))⟩]) .ret) (.seq (.reg [⟨(some 45),none,(.mkrow 107 4 [(.str ⟨#[]⟩),.nil,(.str ⟨#[]⟩),.nil] 0 [])⟩,⟨some 14,none,.mv (.t 45)⟩]) (.seq (.seq (.reg [⟨some 46,none,.faddr 1 (.t 8)⟩,⟨some 47,none,.load false 1 (.t 46)⟩,⟨some 48,none,.len false (.t 47)⟩,⟨some 49,none,.mv (.c (.int .i64 0))⟩]) (.block 3 (.loop [0,0,0,0,1,0,1,1,0,0,1,0,0,0,1,0,0,0,0,0,0,0,0,0,0,0,0,0,0,0,0,0,0,0,0,0,0,0,0,0,0,0,0,0,0,0,0,1,1,1,0,0,0,0,0,0,0,0,0,0,0,0,0,0,0,0,0,0,0,0,0,0,0,0,0,0,0,0,0,0,0,0,0,0,0,0,0,0,0,0,0,0,0,0,0,0,0,0,0,0,0,0,0,0,0,0,0,0,0,0,0,0,0,0,0,0,0,0,0,0,0,0,0] (.seq (.reg [⟨some 50,none,.bin .lss false (.t 49) (.t 48)⟩]) (.seq (.cond (.t 50) .skip (.exit 3)) (.seq (.block 4 (.seq (.reg [⟨some 51,none,.mv (.t 49)⟩,⟨some 52,none,.iaddr 2 (.t 47) (.t 49)⟩,⟨some 53,none,.load true 2 (.t 52)⟩,⟨(some 16),none,(.alloc 71 [(.str ⟨#[]⟩),.nil])⟩,⟨some 15,none,.mv (.t 51)⟩,⟨none,none,(.store 2 (.t 16) (.t 53))⟩]) (.dreg [[],[],[],[2],[],[3,2,4],[5,3,2,4],[1,6,5,3,2,4],[7,1,6,5,3,2,4],[0,8,7,1,6,5,3,2,4],[9,0,8,7,1,6,5,3,2,4]] [⟨some 54,none,.mv (.t 14)⟩,⟨some 55,none,.load true 2 (.t 16)⟩,⟨some 56,none,.faddr 1 (.t 10)⟩,⟨some 57,none,.load false 1 (.t 56)⟩,⟨some 58,none,.mv (.t 15)⟩,⟨some 59,none,.iaddr 2 (.t 57) (.t 58)⟩,⟨some 60,none,.load true 2 (.t 59)⟩,⟨(some 61),none,(.build [(.str ⟨#[]⟩),.nil,(.str ⟨#[]⟩),.nil] [(0,(2,(.t 55))),(2,(2,(.t 60)))])⟩,⟨(some 62),none,(.mkrow 107 4 [(.str ⟨#[]⟩),.nil,(.str ⟨#[]⟩),.nil] 1 [(0,(.t 61))])⟩,⟨(some 63),none,(.append 107 4 80 [(.str ⟨#[]⟩),.nil,(.str ⟨#[]⟩),.nil] (.t 54) (.t 62))⟩,⟨some 14,none,.mv (.t 63)⟩]))) (.reg [⟨some 64,none,.bin .add false (.t 49) (.c (.int .i64 1))⟩,⟨some 49,none,.mv (.t 64)⟩]))))))) (.reg [⟨some 65,none,.mv (.t 14)⟩,⟨some 66,none,.mv (.t 7)⟩,⟨(some 67),none,(.append 107 4 80 [(.str ⟨#[]⟩),.nil,(.str ⟨#[]⟩),.nil] (.t 65) (.t 66))⟩,⟨some 7,none,.mv (.t 67)⟩]))))))))))))))))))) (.seq (.reg [⟨some 122,none,.load true 1 (.t 6)⟩,⟨none,none,(.store 1 (.t 4) (.t 122))⟩,⟨some 5,none,.mv (.c (.bool true))⟩]) .ret)))))
theorem US:Am Tryz.prog 57=some ⟨123,N2,[(.cell 4 true 1),(.tmp 5)]⟩:=by kernel_rfl
theorem J0:modes 57=⟨[],.own [some (139,3),none],none,false⟩:=by unfold modes; rfl
abbrev u2b:SC:=(.seq (.seq (.reg [⟨(some 22),none,(.mv (.t 7))⟩,⟨(some 23),none,(.len false (.t 22))⟩,⟨(some 24),none,(.bin .gtr false (.t 23) (.c (.int .i64 0)))⟩]) (.cond (.t 24) .skip (.exit 0))) (.block 1 (.seq (.dreg [[],[],[1],[2,1],[3,2,1],[0,4,3,2,1],[5,0,4,3,2,1],[6,5,0,4,3,2,1],[6,5,0,4,3,2,1],[],[9,7,6,5,0,4,3,2,1],[8,6,5,0,4,3,2,1,10,9,7]] [⟨(some 26),none,(.load true 1 (.t 6))⟩,⟨(some 27),none,(.mv (.t 7))⟩,⟨(some 28),none,(.iaddr 4 (.t 27) (.c (.int .i64 0)))⟩,⟨(some 29),none,(.faddr 0 (.t 28))⟩,⟨(some 30),none,(.load true 2 (.t 29))⟩,⟨(some 31),none,(.call 87 [(.t 26),(.t 30)])⟩,⟨(some 25),none,(.mv (.t 31))⟩,⟨(some 32),none,(.ext (.t 25) 0)⟩,⟨(some 33),none,(.ext (.t 25) 1)⟩,⟨(some 8),none,(.alloc 71 [(.str ⟨#[]⟩),.nil])⟩,⟨none,none,(.store 2 (.t 8) (.t 32))⟩,⟨(some 9),none,(.mv (.t 33))⟩]) (.seq (.dreg [[],[],[1],[2,1],[3,2,1],[0,4,3,2,1],[5,0,4,3,2,1],[6,5,0,4,3,2,1],[6,5,0,4,3,2,1],[],[9,7,6,5,0,4,3,2,1],[8,6,5,0,4,3,2,1,10,9,7]] [⟨(some 35),none,(.load true 1 (.t 6))⟩,⟨(some 36),none,(.mv (.t 7))⟩,⟨(some 37),none,(.iaddr 4 (.t 36) (.c (.int .i64 0)))⟩,⟨(some 38),none,(.faddr 2 (.t 37))⟩,⟨(some 39),none,(.load true 2 (.t 38))⟩,⟨(some 40),none,(.call 87 [(.t 35),(.t 39)])⟩,⟨(some 34),none,(.mv (.t 40))⟩,⟨(some 41),none,(.ext (.t 34) 0)⟩,⟨(some 42),none,(.ext (.t 34) 1)⟩,⟨(some 10),none,(.alloc 71 [(.str ⟨#[]⟩),.nil])⟩,⟨none,none,(.store 2 (.t 10) (.t 41))⟩,⟨(some 11),none,(.mv (.t 42))⟩]) (.seq (.reg [⟨(some 43),none,(.mv (.t 7))⟩,⟨(some 44),none,(.slice false 4 (.t 43) (some (.c (.int .i64 1))) none)⟩,⟨(some 7),none,(.mv (.t 44))⟩]) (.block 2 (.seq (.reg [⟨(some 69),none,(.mv (.t 9))⟩,⟨(some 70),none,(.un .not (.t 69))⟩,⟨(some 71),none,(.mv (.t 70))⟩,⟨(some 72),(some (71,false)),(.mv (.t 11))⟩,⟨(some 73),(some (71,false)),(.un .not (.t 72))⟩,⟨(some 74),none,(.pick (.t 71) (.c (.bool true)) (.t 73))⟩,⟨(some 68),none,(.mv (.t 74))⟩]) (.cond (.t 68) (.seq (.reg [⟨(some 75),none,(.build [.nil] [])⟩,⟨none,none,(.store 1 (.t 4) (.t 75))⟩,⟨(some 5),none,(.mv (.c (.bool false)))⟩]) .ret) (.seq (.reg [⟨(some 77),none,(.load true 2 (.t 8))⟩,⟨(some 78),none,(.load true 2 (.t 10))⟩,⟨(some 79),none,(.call 88 [(.t 77),(.t 78)])⟩,⟨(some 76),none,(.mv (.t 79))⟩]) (.cond (.t 76) .skip (.seq (.reg [⟨(some 81),none,(.load true 2 (.t 8))⟩,⟨(some 82),none,(.call 89 [(.t 81)])⟩,⟨(some 83),none,(.mv (.t 82))⟩,⟨(some 84),(some (83,false)),(.load true 2 (.t 10))⟩,⟨(some 85),(some (83,false)),(.call 89 [(.t 84)])⟩,⟨(some 86),none,(.pick (.t 83) (.c (.bool true)) (.t 85))⟩,⟨(some 80),none,(.mv (.t 86))⟩]) (.cond (.t 80) (.seq (.reg [⟨(some 88),none,(.load true 2 (.t 8))⟩,⟨(some 89),none,(.load true 2 (.t 10))⟩,⟨(some 90),none,(.build [(.str ⟨#[]⟩),.nil,(.str ⟨#[]⟩),.nil] [(0,(2,(.t 88))),(2,(2,(.t 89)))])⟩,⟨(some 91),none,(.call 90 [(.t 90)])⟩,⟨(some 87),none,(.mv (.t 91))⟩,⟨(some 92),none,(.ext (.t 87) 0)⟩,⟨(some 93),none,(.ext (.t 87) 1)⟩,⟨(some 12),none,(.alloc 76 [.nil])⟩,⟨none,none,(.store 1 (.t 12) (.t 92))⟩,⟨(some 13),none,(.mv (.t 93))⟩]) (.seq (.seq (.reg [⟨(some 94),none,(.mv (.t 13))⟩,⟨(some 95),none,(.un .not (.t 94))⟩]) (.cond (.t 95) (.seq (.reg [⟨(some 96),none,(.build [.nil] [])⟩,⟨none,none,(.store 1 (.t 4) (.t 96))⟩,⟨(some 5),none,(.mv (.c (.bool false)))⟩]) .ret) .skip)) (.seq (.reg [⟨(some 98),none,(.load true 1 (.t 6))⟩,⟨(some 99),none,(.load true 1 (.t 12))⟩,⟨(some 100),none,(.call 91 [(.t 98),(.t 99)])⟩,⟨(some 97),none,(.mv (.t 100))⟩,⟨(some 101),none,(.ext (.t 97) 0)⟩,⟨(some 102),none,(.ext (.t 97) 1)⟩,⟨none,none,(.store 1 (.t 6) (.t 101))⟩,⟨(some 13),none,(.mv (.t 102))⟩]) (.seq (.reg [⟨(some 103),none,(.mv (.t 13))⟩,⟨(some 104),none,(.un .not (.t 103))⟩]) (.cond (.t 104) (.seq (.reg [⟨(some 105),none,(.build [.nil] [])⟩,⟨none,none,(.store 1 (.t 4) (.t 105))⟩,⟨(some 5),none,(.mv (.c (.bool false)))⟩]) .ret) .skip))))) (.seq (.reg [⟨(some 107),none,(.faddr 0 (.t 8))⟩,⟨(some 108),none,(.load false 1 (.t 107))⟩,⟨(some 109),none,(.faddr 0 (.t 10))⟩,⟨(some 110),none,(.load false 1 (.t 109))⟩,⟨(some 111),none,(.bin .neq false (.t 108) (.t 110))⟩,⟨(some 112),none,(.mv (.t 111))⟩,⟨(some 113),(some (112,false)),(.faddr 1 (.t 8))⟩,⟨(some 114),(some (112,false)),(.load false 1 (.t 113))⟩,⟨(some 115),(some (112,false)),(.len false (.t 114))⟩,⟨(some 116),(some (112,false)),(.faddr 1 (.t 10))⟩,⟨(some 117),(some (112,false)),(.load false 1 (.t 116))⟩,⟨(some 118),(some (112,false)),(.len false (.t 117))⟩,⟨(some 119),(some (112,false)),(.bin .neq false (.t 115) (.t 118))⟩,⟨(some 120),none,(.pick (.t 112) (.c (.bool true)) (.t 119))⟩,⟨(some 106),none,(.mv (.t 120))⟩]) (.cond (.t 106) (.seq (.reg [⟨(some 121),none,(.build [.nil] [])⟩,⟨none,none,(.store 1 (.t 4) (.t 121))⟩,⟨(some 5),none,(.mv (.c (.bool false)))⟩]) .ret) (.seq (.reg [⟨(some 45),none,(.mkrow 107 4 [(.str ⟨#[]⟩),.nil,(.str ⟨#[]⟩),.nil] 0 [])⟩,⟨(some 14),none,(.mv (.t 45))⟩]) (.seq (.seq (.reg [⟨(some 46),none,(.faddr 1 (.t 8))⟩,⟨(some 47),none,(.load false 1 (.t 46))⟩,⟨(some 48),none,(.len false (.t 47))⟩,⟨(some 49),none,(.mv (.c (.int .i64 0)))⟩]) (.block 3 (.loop [0,0,0,0,1,0,1,1,0,0,1,0,0,0,1,0,0,0,0,0,0,0,0,0,0,0,0,0,0,0,0,0,0,0,0,0,0,0,0,0,0,0,0,0,0,0,0,1,1,1,0,0,0,0,0,0,0,0,0,0,0,0,0,0,0,0,0,0,0,0,0,0,0,0,0,0,0,0,0,0,0,0,0,0,0,0,0,0,0,0,0,0,0,0,0,0,0,0,0,0,0,0,0,0,0,0,0,0,0,0,0,0,0,0,0,0,0,0,0,0,0,0,0] (.seq (.reg [⟨(some 50),none,(.bin .lss false (.t 49) (.t 48))⟩]) (.seq (.cond (.t 50) .skip (.exit 3)) (.seq (.block 4 (.seq (.reg [⟨(some 51),none,(.mv (.t 49))⟩,⟨(some 52),none,(.iaddr 2 (.t 47) (.t 49))⟩,⟨(some 53),none,(.load true 2 (.t 52))⟩,⟨(some 16),none,(.alloc 71 [(.str ⟨#[]⟩),.nil])⟩,⟨(some 15),none,(.mv (.t 51))⟩,⟨none,none,(.store 2 (.t 16) (.t 53))⟩]) (.dreg [[],[],[],[2],[],[3,2,4],[5,3,2,4],[1,6,5,3,2,4],[7,1,6,5,3,2,4],[0,8,7,1,6,5,3,2,4],[9,0,8,7,1,6,5,3,2,4]] [⟨(some 54),none,(.mv (.t 14))⟩,⟨(some 55),none,(.load true 2 (.t 16))⟩,⟨(some 56),none,(.faddr 1 (.t 10))⟩,⟨(some 57),none,(.load false 1 (.t 56))⟩,⟨(some 58),none,(.mv (.t 15))⟩,⟨(some 59),none,(.iaddr 2 (.t 57) (.t 58))⟩,⟨(some 60),none,(.load true 2 (.t 59))⟩,⟨(some 61),none,(.build [(.str ⟨#[]⟩),.nil,(.str ⟨#[]⟩),.nil] [(0,(2,(.t 55))),(2,(2,(.t 60)))])⟩,⟨(some 62),none,(.mkrow 107 4 [(.str ⟨#[]⟩),.nil,(.str ⟨#[]⟩),.nil] 1 [(0,(.t 61))])⟩,⟨(some 63),none,(.append 107 4 80 [(.str ⟨#[]⟩),.nil,(.str ⟨#[]⟩),.nil] (.t 54) (.t 62))⟩,⟨(some 14),none,(.mv (.t 63))⟩]))) (.reg [⟨(some 64),none,(.bin .add false (.t 49) (.c (.int .i64 1)))⟩,⟨(some 49),none,(.mv (.t 64))⟩]))))))) (.reg [⟨(some 65),none,(.mv (.t 14))⟩,⟨(some 66),none,(.mv (.t 7))⟩,⟨(some 67),none,(.append 107 4 80 [(.str ⟨#[]⟩),.nil,(.str ⟨#[]⟩),.nil] (.t 65) (.t 66))⟩,⟨(some 7),none,(.mv (.t 67))⟩])))))))))))))))))
abbrev u2H:Nat × Bool × Bool × Sb × List (Tm × Tm)→St:=fun a=>⟨slots 123 0 [(4,.ptr 0 0),(6,.ptr 1 0),(7,(bif a.2.2.1 then .ref 2 else .arr (a.2.2.2.2.map eqD)))],([.box 76 [.nil],.box 76 [bif a.2.1 then .nil else .ref (bif a.2.2.1 then 3 else 2)]]++((bif a.2.2.1 then [.row 107 4 (a.2.2.2.2.map eqO)] else [])++(bif a.2.1 then [] else [.row 139 3 (a.2.2.2.1.binds.map Bd.o)])))⟩
abbrev u2R (total:Option Sb):Nat × Bool × Bool × Sb × List (Tm × Tm)→Prop:=fun a=>uInv a.2.2.2.1 a.2.2.2.2∧BI a.1 a.2.2.2.1 a.2.2.2.2=some total∧(a.2.1=true→a.2.2.2.1.binds=[])
abbrev u2K (total:Option Sb):X→St→Prop:=blk 0 (Q9 0 (.seq (.reg [⟨(some 122),none,(.load true 1 (.t 6))⟩,⟨none,none,(.store 1 (.t 4) (.t 122))⟩,⟨(some 5),none,(.mv (.c (.bool true)))⟩]) .ret) (Se (.own [some (139,3),none]) 0 [(.cell 4 true 1),(.tmp 5)] (.tup [(uTo total).osv,.bool (uOk total)],(uTo total).obs)))
abbrev KO:List Nat:=[0,0,0,0,1,0,1,1,0,0,0,0,0,0,0,0,0,0,0,0,0,0,0,0,0,0,0,0,0,0,0,0,0,0,0,0,0,0,0,0,0,0,0,0,0,0,0,0,0,0,0,0,0,0,0,0,0,0,0,0,0,0,0,0,0,0,0,0,0,0,0,0,0,0,0,0,0,0,0,0,0,0,0,0,0,0,0,0,0,0,0,0,0,0,0,0,0,0,0,0,0,0,0,0,0,0,0,0,0,0,0,0,0,0,0,0,0,0,0,0,0,0,0]
theorem QdT (total:Option Sb) (n:Nat) (s:Sb) (p:Tm × Tm) (l:List (Tm × Tm)) (hinv:uInv s (p :: l)) (hrun:BI (n+1) s (p :: l)=some total) (hsn:true=true→s.binds=[]):go 0 u2b (u2H (n+1,true,true,s,p :: l)) (DO 0 KO u2H (u2R total) (fun a=>a.1) (n+1,true,true,s,p :: l) (u2K total)):=by
  have hs:=hinv.ok
  have hst:=E8 hs
  have hp:=hinv.ex p (by simp)
  have hpn1:=Tm.Au hp.1
  have hpn2:=Tm.Au hp.2
  have hni:(0:Int).toNat=0:=rfl
  unfold u2b u2H u2R u2K KO
  dsimp only
  obtain rfl:s=⟨[]⟩:=by obtain ⟨bs⟩:=s; have:=hsn rfl; rw [show bs=[] from this]
  have hss:(Sb.sv ⟨[]⟩)=.agg [.arr []]:=rfl
  obtain ⟨L,hL⟩:∃ L,L=(p :: l).map eqO:=⟨_,rfl⟩
  have h0:L[(0:Nat)]?=some [.str p.1.name,.sh (p.1.args.map Tm.d),.str p.2.name,.sh (p.2.args.map Tm.d)]:=by rw [hL]; rfl
  have h00:0 < L.length:=by rw [hL]; simp
  have hlen:L.length=l.length+1:=by rw [hL]; simp
  have hfu:OT.AS L=true:=by rw [hL]; exact RH _
  obtain ⟨Ld,hLd⟩:∃ Ld,Ld=(p :: l).map eqD:=⟨_,rfl⟩
  have her:OT.erss L=Ld:=by rw [hL,hLd]; exact RG _
  have hdr:(Ld.take (l.length+1)).drop 1=l.map eqD:=by rw [hLd,List.take_of_length_le (by simp)]; rfl
  simp only [cond_true,cond_false,← hL]
  cases o1:BV ⟨[]⟩ p.1 with
  | false =>
    have hA:=Ch ⟨[]⟩ hs hst p.1 hp.1 o1
    rw [hss] at hA
    rw [BI] at hrun
    simp only [o1,Bool.false_and,cond_false,Option.some.injEq] at hrun
    subst hrun
    cases o2:BV ⟨[]⟩ p.2 with
    | false =>
      have hB:=Ch ⟨[]⟩ hs hst p.2 hp.2 o2
      rw [hss] at hB
      simp (disch:=omega) only [go_sem,Aa,Tm.osv,Tm.obs,hni,h0,h00,hlen,hfu,her,hdr,hA,hB,Ab,Ad,Ak,Ae,Aj]
      first | rfl | exact ⟨rfl,rfl⟩
    | true =>
      have hB:=BH ⟨[]⟩ hs hst p.2 hp.2 o2
      rw [hss] at hB
      simp (disch:=omega) only [go_sem,Aa,Tm.osv,Tm.obs,hni,h0,h00,hlen,hfu,her,hdr,hA,hB,Ab,Ad,Ak,Ae,Aj]
      first | rfl | exact ⟨rfl,rfl⟩
  | true =>
    have hA:=BH ⟨[]⟩ hs hst p.1 hp.1 o1
    rw [hss] at hA
    have e1:=C3 o1
    cases o2:BV ⟨[]⟩ p.2 with
    | false =>
      have hB:=Ch ⟨[]⟩ hs hst p.2 hp.2 o2
      rw [hss] at hB
      rw [BI] at hrun
      simp only [o2,Bool.and_false,cond_false,Option.some.injEq] at hrun
      subst hrun
      simp (disch:=omega) only [go_sem,Aa,Tm.osv,Tm.obs,hni,h0,h00,hlen,hfu,her,hdr,hA,hB,Ab,Ad,Ak,Ae,Aj]
      first | rfl | exact ⟨rfl,rfl⟩
    | true =>
      have hB:=BH ⟨[]⟩ hs hst p.2 hp.2 o2
      rw [hss] at hB
      have e2:=C3 o2
      have n1:=Tm.Au e1
      have n2:=Tm.Au e2
      have hdec:=hinv.dec o1 o2
      have hbind:=hinv.bind o1 o2
      rw [BI] at hrun
      simp only [o1,o2,Bool.and_self,cond_true] at hrun
      obtain ⟨x,hx⟩:∃ x,x=AP ⟨[]⟩ p.1:=⟨_,rfl⟩
      obtain ⟨y,hy⟩:∃ y,y=AP ⟨[]⟩ p.2:=⟨_,rfl⟩
      rw [← hx] at hA e1 n1 hrun hdec hbind
      rw [← hy] at hB e2 n2 hrun hdec hbind
      have hE:=Ei x y (by omega) (by omega)
      have hV:=Dd x (Tm.Ey e1)
      have hW:=Dd y (Tm.Ey e2)
      have hxv:x.sv=.agg [.str x.name,.arr (x.args.map Tm.d)]:=rfl
      have hyv:y.sv=.agg [.str y.name,.arr (y.args.map Tm.d)]:=rfl
      cases o3:dec (x=y) with
      | true =>
        rw [o3] at hE
        simp only [o3,cond_true] at hrun
        simp (disch:=omega) only [go_sem,Aa,Tm.osv,Tm.obs,hni,h0,h00,hlen,hfu,her,hdr,hA,hB,hE,Ab,Ad,Ak,Ae,Aj]
        exact ⟨(n,true,false,⟨[]⟩,l),⟨hinv.pop,hrun,hsn⟩,by dsimp only; omega,by first | trivial | rfl | (simp only [cond_true,cond_false,List.cons_append,List.nil_append,and_self])⟩
      | false =>
        rw [o3] at hE
        simp only [o3,cond_false] at hrun
        cases o4:At x.name || At y.name with
        | true =>
          have hO:=HS x y e1 e2 o4
          have hbsv:(Sb.mk [A5 x y]).sv=.agg [.arr [[.str (A5 x y).var,.str (A5 x y).term.name,.arr ((A5 x y).term.args.map Tm.d)]]]:=rfl
          rw [hbsv] at hO
          simp only [o4,cond_true] at hrun
          have hvv:(At x.name=true)∨(At x.name=false∧At y.name=true):=by
            cases h:At x.name with
            | true=>exact .inl rfl
            | false=>rw [h,Bool.false_or] at o4; exact .inr ⟨rfl,o4⟩
          cases o5:BS (A5 x y) with
          | false =>
            rw [o5] at hO
            simp only [o5,Bool.false_and,cond_false,Option.some.injEq] at hrun
            subst hrun
            rcases hvv with v1 | ⟨v1,v2⟩
            · rw [v1] at hV
              simp (disch:=omega) only [go_sem,Aa,Tm.osv,Tm.obs,hni,h0,h00,hlen,hfu,her,hdr,hA,hB,hE,hV,hW,hO,Ab,Ad,Ak,Ae,Aj]
              first | rfl | exact ⟨rfl,rfl⟩
            · rw [v1] at hV
              rw [v2] at hW
              simp (disch:=omega) only [go_sem,Aa,Tm.osv,Tm.obs,hni,h0,h00,hlen,hfu,her,hdr,hA,hB,hE,hV,hW,hO,Ab,Ad,Ak,Ae,Aj]
              first | rfl | exact ⟨rfl,rfl⟩
          | true =>
            rw [o5] at hO
            have o5':=o5
            unfold BS at o5'
            rw [Bool.and_eq_true] at o5'
            have hbt:(A5 x y).term.nodes≤1099511627776:=by
              rcases Ga x y o4 with ⟨e,_⟩ | ⟨e,_⟩
              · rw [e]; show y.nodes≤_; omega
              · rw [e]; show x.nodes≤_; omega
            have hC:=Jw ⟨[]⟩ ⟨[A5 x y]⟩ hs o5'.2 hst (Hs hbt)
            rw [hss,hbsv] at hC
            cases o6:Ct ⟨[]⟩ ⟨[A5 x y]⟩ with
            | false =>
              have e6:Fh ⟨[]⟩ ⟨[A5 x y]⟩=⟨[]⟩:=by unfold Fh; rw [o6]; rfl
              rw [e6,o6] at hC
              simp only [o5,o6,Bool.and_false,cond_false,Option.some.injEq] at hrun
              subst hrun
              rcases hvv with v1 | ⟨v1,v2⟩
              · rw [v1] at hV
                simp (disch:=omega) only [go_sem,Aa,Tm.osv,Tm.obs,hni,h0,h00,hlen,hfu,her,hdr,hA,hB,hE,hV,hW,hO,hC,Sb.osv,Sb.obs,Ab,Ad,Ak,Ae,Aj]
                first | rfl | exact ⟨rfl,rfl⟩
              · rw [v1] at hV
                rw [v2] at hW
                simp (disch:=omega) only [go_sem,Aa,Tm.osv,Tm.obs,hni,h0,h00,hlen,hfu,her,hdr,hA,hB,hE,hV,hW,hO,hC,Sb.osv,Sb.obs,Ab,Ad,Ak,Ae,Aj]
                first | rfl | exact ⟨rfl,rfl⟩
            | true =>
              have e6:Fh ⟨[]⟩ ⟨[A5 x y]⟩=Cn ⟨[]⟩ ⟨[A5 x y]⟩:=by unfold Fh; rw [o6]; rfl
              rw [e6,o6] at hC
              simp only [o5,o6,Bool.and_self,cond_true] at hrun
              obtain ⟨i1,_⟩:=hbind o4 o5 o6
              obtain ⟨s2,hs2⟩:∃ s2,s2=Cn ⟨[]⟩ ⟨[A5 x y]⟩:=⟨_,rfl⟩
              rw [← hs2] at hC hrun i1
              rcases hvv with v1 | ⟨v1,v2⟩
              · rw [v1] at hV
                simp (disch:=omega) only [go_sem,Aa,Tm.osv,Tm.obs,hni,h0,h00,hlen,hfu,her,hdr,hA,hB,hE,hV,hW,hO,hC,Sb.osv,Sb.obs,Ab,Ad,Ak,Ae,Aj]
                exact ⟨(n,false,false,s2,l),⟨i1,hrun,fun h=>by cases h⟩,by dsimp only; omega,by first | trivial | rfl | (simp only [cond_true,cond_false,List.cons_append,List.nil_append,and_self])⟩
              · rw [v1] at hV
                rw [v2] at hW
                simp (disch:=omega) only [go_sem,Aa,Tm.osv,Tm.obs,hni,h0,h00,hlen,hfu,her,hdr,hA,hB,hE,hV,hW,hO,hC,Sb.osv,Sb.obs,Ab,Ad,Ak,Ae,Aj]
                exact ⟨(n,false,false,s2,l),⟨i1,hrun,fun h=>by cases h⟩,by dsimp only; omega,by first | trivial | rfl | (simp only [cond_true,cond_false,List.cons_append,List.nil_append,and_self])⟩
        | false =>
          simp only [o4,cond_false] at hrun
          have o4':=o4
          rw [Bool.or_eq_false_iff] at o4'
          rw [o4'.1] at hV
          rw [o4'.2] at hW
          by_cases o7:x.name=y.name
          · have q7:=eq_true o7
            by_cases o8:x.args.length=y.args.length
            · have q8:((x.args.length:Int)=(y.args.length:Int))=True:=eq_true (by omega)
              simp only [A4 o7,A4 o8,Bool.and_self,cond_true] at hrun
              have i2:=hdec o4'.1
              have hx1:=Tm.AB x.args
              have hx2:=Tm.Ao x
              have ll:=hinv.pop.len
              have hzl:(x.args.zip y.args).length=x.args.length:=by rw [List.length_zip]; omega
              simp (disch:=omega) only [go_sem,Aa,Tm.osv,Tm.obs,hni,h0,h00,hlen,hfu,her,hdr,hA,hB,hE,hV,hW,q7,q8,Ab,Ad,Ak,Ae,Aj]
              refine As (α:=Nat) (fun a=>⟨slots 123 0 [(4,.ptr 0 0),(6,.ptr 1 0),(7,.arr (l.map eqD)),(10,.ptr 2 0),(14,.ref 3),(47,.arr (x.args.map Tm.d)),(48,.int .i64 x.args.length),(49,.int .i64 (a:Int))],[.box 76 [.nil],.box 76 [.nil],.box 71 [.str y.name,.arr (y.args.map Tm.d)],.row 107 4 (((x.args.zip y.args).take a).map eqO)]⟩) (fun a=>a≤x.args.length) (fun a=>x.args.length - a) 0 (Nat.zero_le _) (by simp (disch:=omega) only [go_sem,Aa,List.take_zero,List.map_nil,Ab,Ad,Ak,Ae,Aj]; rfl) ?_
              intro k hk
              have hni2:((k:Nat):Int).toNat=k:=Int.toNat_natCast k
              have htl:((x.args.zip y.args).take k).length=k:=by rw [List.length_take]; omega
              rcases Nat.lt_or_ge k x.args.length with hlt | hge
              · have hg1:=Aq Tm.d hlt
                have hlt2:k < y.args.length:=by omega
                have hg2:=Aq Tm.d hlt2
                rw [Tm.d_eq] at hg1 hg2
                have hz:=Gc hlt hlt2
                have hrow:((x.args.zip y.args).take k).map eqO++[[OT.str x.args[k].name,.sh (x.args[k].args.map Tm.d),.str y.args[k].name,.sh (y.args[k].args.map Tm.d)]]=((x.args.zip y.args).take (k+1)).map eqO:=by
                  rw [← hz,List.map_append]; rfl
                simp (disch:=omega) only [go_sem,Aa,hni2,hg1,hg2,hrow,htl,List.length_map,Ab,Ad,Ak,Ae,Aj]
                refine ⟨k+1,hlt,by omega,?_⟩
                simp only [Int.natCast_add,Int.natCast_one,and_self]
              · obtain rfl:k=x.args.length:=by omega
                have hfull:(x.args.zip y.args).take x.args.length=x.args.zip y.args:=List.take_of_length_le (by omega)
                have hao:=HT l
                have hot:=KN l
                have happ:(x.args.zip y.args).map eqO++l.map eqO=(x.args.zip y.args++l).map eqO:=by rw [List.map_append]
                rw [hfull] at htl
                simp only [hfull]
                simp (disch:=omega) only [go_sem,Aa,hni2,hao,hot,htl,happ,List.length_map,Ab,Ad,Ak,Ae,Aj]
                refine ⟨(n,true,true,⟨[]⟩,x.args.zip y.args++l),⟨i2,hrun,hsn⟩,by dsimp only; omega,?_⟩
                first | trivial | rfl | simp only [cond_true,cond_false,List.cons_append,List.nil_append,and_self]
            · have q8:((x.args.length:Int)=(y.args.length:Int))=False:=eq_false (by omega)
              simp only [A4 o7,AC o8,Bool.and_false,cond_false,Option.some.injEq] at hrun
              subst hrun
              simp (disch:=omega) only [go_sem,Aa,Tm.osv,Tm.obs,hni,h0,h00,hlen,hfu,her,hdr,hA,hB,hE,hV,hW,q7,q8,Ab,Ad,Ak,Ae,Aj]
              first | rfl | exact ⟨rfl,rfl⟩
          · have q7:=eq_false o7
            simp only [AC o7,Bool.false_and,cond_false,Option.some.injEq] at hrun
            subst hrun
            simp (disch:=omega) only [go_sem,Aa,Tm.osv,Tm.obs,hni,h0,h00,hlen,hfu,her,hdr,hA,hB,hE,hV,hW,q7,Ab,Ad,Ak,Ae,Aj]
            first | rfl | exact ⟨rfl,rfl⟩
theorem QdU (total:Option Sb) (n:Nat) (s:Sb) (p:Tm × Tm) (l:List (Tm × Tm)) (hinv:uInv s (p :: l)) (hrun:BI (n+1) s (p :: l)=some total) (hsn:true=true→s.binds=[]):go 0 u2b (u2H (n+1,true,false,s,p :: l)) (DO 0 KO u2H (u2R total) (fun a=>a.1) (n+1,true,false,s,p :: l) (u2K total)):=by
  have hs:=hinv.ok
  have hst:=E8 hs
  have hp:=hinv.ex p (by simp)
  have hpn1:=Tm.Au hp.1
  have hpn2:=Tm.Au hp.2
  have hni:(0:Int).toNat=0:=rfl
  unfold u2b u2H u2R u2K KO
  dsimp only
  obtain rfl:s=⟨[]⟩:=by obtain ⟨bs⟩:=s; have:=hsn rfl; rw [show bs=[] from this]
  have hss:(Sb.sv ⟨[]⟩)=.agg [.arr []]:=rfl
  obtain ⟨L,hL⟩:∃ L,L=(p :: l).map eqD:=⟨_,rfl⟩
  have h0:L[(0:Nat)]?=some [.str p.1.name,.arr (p.1.args.map Tm.d),.str p.2.name,.arr (p.2.args.map Tm.d)]:=by rw [hL]; rfl
  have hlen:L.length=l.length+1:=by rw [hL]; simp
  have hal:(L.all fun x=>x.length == 4)=true:=by rw [hL]; exact PC _
  have hdr:(L.take (l.length+1)).drop 1=l.map eqD:=by rw [hL,List.take_of_length_le (by simp)]; rfl
  simp only [cond_true,cond_false,← hL]
  cases o1:BV ⟨[]⟩ p.1 with
  | false =>
    have hA:=Ch ⟨[]⟩ hs hst p.1 hp.1 o1
    rw [hss] at hA
    rw [BI] at hrun
    simp only [o1,Bool.false_and,cond_false,Option.some.injEq] at hrun
    subst hrun
    cases o2:BV ⟨[]⟩ p.2 with
    | false =>
      have hB:=Ch ⟨[]⟩ hs hst p.2 hp.2 o2
      rw [hss] at hB
      simp (disch:=omega) only [go_sem,Aa,Tm.osv,Tm.obs,hni,h0,hlen,hal,hdr,hA,hB,Ab,Ad,Ak,Ae,Aj]
      first | rfl | exact ⟨rfl,rfl⟩
    | true =>
      have hB:=BH ⟨[]⟩ hs hst p.2 hp.2 o2
      rw [hss] at hB
      simp (disch:=omega) only [go_sem,Aa,Tm.osv,Tm.obs,hni,h0,hlen,hal,hdr,hA,hB,Ab,Ad,Ak,Ae,Aj]
      first | rfl | exact ⟨rfl,rfl⟩
  | true =>
    have hA:=BH ⟨[]⟩ hs hst p.1 hp.1 o1
    rw [hss] at hA
    have e1:=C3 o1
    cases o2:BV ⟨[]⟩ p.2 with
    | false =>
      have hB:=Ch ⟨[]⟩ hs hst p.2 hp.2 o2
      rw [hss] at hB
      rw [BI] at hrun
      simp only [o2,Bool.and_false,cond_false,Option.some.injEq] at hrun
      subst hrun
      simp (disch:=omega) only [go_sem,Aa,Tm.osv,Tm.obs,hni,h0,hlen,hal,hdr,hA,hB,Ab,Ad,Ak,Ae,Aj]
      first | rfl | exact ⟨rfl,rfl⟩
    | true =>
      have hB:=BH ⟨[]⟩ hs hst p.2 hp.2 o2
      rw [hss] at hB
      have e2:=C3 o2
      have n1:=Tm.Au e1
      have n2:=Tm.Au e2
      have hdec:=hinv.dec o1 o2
      have hbind:=hinv.bind o1 o2
      rw [BI] at hrun
      simp only [o1,o2,Bool.and_self,cond_true] at hrun
      obtain ⟨x,hx⟩:∃ x,x=AP ⟨[]⟩ p.1:=⟨_,rfl⟩
      obtain ⟨y,hy⟩:∃ y,y=AP ⟨[]⟩ p.2:=⟨_,rfl⟩
      rw [← hx] at hA e1 n1 hrun hdec hbind
      rw [← hy] at hB e2 n2 hrun hdec hbind
      have hE:=Ei x y (by omega) (by omega)
      have hV:=Dd x (Tm.Ey e1)
      have hW:=Dd y (Tm.Ey e2)
      have hxv:x.sv=.agg [.str x.name,.arr (x.args.map Tm.d)]:=rfl
      have hyv:y.sv=.agg [.str y.name,.arr (y.args.map Tm.d)]:=rfl
      cases o3:dec (x=y) with
      | true =>
        rw [o3] at hE
        simp only [o3,cond_true] at hrun
        simp (disch:=omega) only [go_sem,Aa,Tm.osv,Tm.obs,hni,h0,hlen,hal,hdr,hA,hB,hE,Ab,Ad,Ak,Ae,Aj]
        exact ⟨(n,true,false,⟨[]⟩,l),⟨hinv.pop,hrun,hsn⟩,by dsimp only; omega,by first | trivial | rfl | (simp only [cond_true,cond_false,List.cons_append,List.nil_append,and_self])⟩
      | false =>
        rw [o3] at hE
        simp only [o3,cond_false] at hrun
        cases o4:At x.name || At y.name with
        | true =>
          have hO:=HS x y e1 e2 o4
          have hbsv:(Sb.mk [A5 x y]).sv=.agg [.arr [[.str (A5 x y).var,.str (A5 x y).term.name,.arr ((A5 x y).term.args.map Tm.d)]]]:=rfl
          rw [hbsv] at hO
          simp only [o4,cond_true] at hrun
          have hvv:(At x.name=true)∨(At x.name=false∧At y.name=true):=by
            cases h:At x.name with
            | true=>exact .inl rfl
            | false=>rw [h,Bool.false_or] at o4; exact .inr ⟨rfl,o4⟩
          cases o5:BS (A5 x y) with
          | false =>
            rw [o5] at hO
            simp only [o5,Bool.false_and,cond_false,Option.some.injEq] at hrun
            subst hrun
            rcases hvv with v1 | ⟨v1,v2⟩
            · rw [v1] at hV
              simp (disch:=omega) only [go_sem,Aa,Tm.osv,Tm.obs,hni,h0,hlen,hal,hdr,hA,hB,hE,hV,hW,hO,Ab,Ad,Ak,Ae,Aj]
              first | rfl | exact ⟨rfl,rfl⟩
            · rw [v1] at hV
              rw [v2] at hW
              simp (disch:=omega) only [go_sem,Aa,Tm.osv,Tm.obs,hni,h0,hlen,hal,hdr,hA,hB,hE,hV,hW,hO,Ab,Ad,Ak,Ae,Aj]
              first | rfl | exact ⟨rfl,rfl⟩
          | true =>
            rw [o5] at hO
            have o5':=o5
            unfold BS at o5'
            rw [Bool.and_eq_true] at o5'
            have hbt:(A5 x y).term.nodes≤1099511627776:=by
              rcases Ga x y o4 with ⟨e,_⟩ | ⟨e,_⟩
              · rw [e]; show y.nodes≤_; omega
              · rw [e]; show x.nodes≤_; omega
            have hC:=Jw ⟨[]⟩ ⟨[A5 x y]⟩ hs o5'.2 hst (Hs hbt)
            rw [hss,hbsv] at hC
            cases o6:Ct ⟨[]⟩ ⟨[A5 x y]⟩ with
            | false =>
              have e6:Fh ⟨[]⟩ ⟨[A5 x y]⟩=⟨[]⟩:=by unfold Fh; rw [o6]; rfl
              rw [e6,o6] at hC
              simp only [o5,o6,Bool.and_false,cond_false,Option.some.injEq] at hrun
              subst hrun
              rcases hvv with v1 | ⟨v1,v2⟩
              · rw [v1] at hV
                simp (disch:=omega) only [go_sem,Aa,Tm.osv,Tm.obs,hni,h0,hlen,hal,hdr,hA,hB,hE,hV,hW,hO,hC,Sb.osv,Sb.obs,Ab,Ad,Ak,Ae,Aj]
                first | rfl | exact ⟨rfl,rfl⟩
              · rw [v1] at hV
                rw [v2] at hW
                simp (disch:=omega) only [go_sem,Aa,Tm.osv,Tm.obs,hni,h0,hlen,hal,hdr,hA,hB,hE,hV,hW,hO,hC,Sb.osv,Sb.obs,Ab,Ad,Ak,Ae,Aj]
                first | rfl | exact ⟨rfl,rfl⟩
            | true =>
              have e6:Fh ⟨[]⟩ ⟨[A5 x y]⟩=Cn ⟨[]⟩ ⟨[A5 x y]⟩:=by unfold Fh; rw [o6]; rfl
              rw [e6,o6] at hC
              simp only [o5,o6,Bool.and_self,cond_true] at hrun
              obtain ⟨i1,_⟩:=hbind o4 o5 o6
              obtain ⟨s2,hs2⟩:∃ s2,s2=Cn ⟨[]⟩ ⟨[A5 x y]⟩:=⟨_,rfl⟩
              rw [← hs2] at hC hrun i1
              rcases hvv with v1 | ⟨v1,v2⟩
              · rw [v1] at hV
                simp (disch:=omega) only [go_sem,Aa,Tm.osv,Tm.obs,hni,h0,hlen,hal,hdr,hA,hB,hE,hV,hW,hO,hC,Sb.osv,Sb.obs,Ab,Ad,Ak,Ae,Aj]
                exact ⟨(n,false,false,s2,l),⟨i1,hrun,fun h=>by cases h⟩,by dsimp only; omega,by first | trivial | rfl | (simp only [cond_true,cond_false,List.cons_append,List.nil_append,and_self])⟩
              · rw [v1] at hV
                rw [v2] at hW
                simp (disch:=omega) only [go_sem,Aa,Tm.osv,Tm.obs,hni,h0,hlen,hal,hdr,hA,hB,hE,hV,hW,hO,hC,Sb.osv,Sb.obs,Ab,Ad,Ak,Ae,Aj]
                exact ⟨(n,false,false,s2,l),⟨i1,hrun,fun h=>by cases h⟩,by dsimp only; omega,by first | trivial | rfl | (simp only [cond_true,cond_false,List.cons_append,List.nil_append,and_self])⟩
        | false =>
          simp only [o4,cond_false] at hrun
          have o4':=o4
          rw [Bool.or_eq_false_iff] at o4'
          rw [o4'.1] at hV
          rw [o4'.2] at hW
          by_cases o7:x.name=y.name
          · have q7:=eq_true o7
            by_cases o8:x.args.length=y.args.length
            · have q8:((x.args.length:Int)=(y.args.length:Int))=True:=eq_true (by omega)
              simp only [A4 o7,A4 o8,Bool.and_self,cond_true] at hrun
              have i2:=hdec o4'.1
              have hx1:=Tm.AB x.args
              have hx2:=Tm.Ao x
              have ll:=hinv.pop.len
              have hzl:(x.args.zip y.args).length=x.args.length:=by rw [List.length_zip]; omega
              simp (disch:=omega) only [go_sem,Aa,Tm.osv,Tm.obs,hni,h0,hlen,hal,hdr,hA,hB,hE,hV,hW,q7,q8,Ab,Ad,Ak,Ae,Aj]
              refine As (α:=Nat) (fun a=>⟨slots 123 0 [(4,.ptr 0 0),(6,.ptr 1 0),(7,.arr (l.map eqD)),(10,.ptr 2 0),(14,.ref 3),(47,.arr (x.args.map Tm.d)),(48,.int .i64 x.args.length),(49,.int .i64 (a:Int))],[.box 76 [.nil],.box 76 [.nil],.box 71 [.str y.name,.arr (y.args.map Tm.d)],.row 107 4 (((x.args.zip y.args).take a).map eqO)]⟩) (fun a=>a≤x.args.length) (fun a=>x.args.length - a) 0 (Nat.zero_le _) (by simp (disch:=omega) only [go_sem,Aa,List.take_zero,List.map_nil,Ab,Ad,Ak,Ae,Aj]; rfl) ?_
              intro k hk
              have hni2:((k:Nat):Int).toNat=k:=Int.toNat_natCast k
              have htl:((x.args.zip y.args).take k).length=k:=by rw [List.length_take]; omega
              rcases Nat.lt_or_ge k x.args.length with hlt | hge
              · have hg1:=Aq Tm.d hlt
                have hlt2:k < y.args.length:=by omega
                have hg2:=Aq Tm.d hlt2
                rw [Tm.d_eq] at hg1 hg2
                have hz:=Gc hlt hlt2
                have hrow:((x.args.zip y.args).take k).map eqO++[[OT.str x.args[k].name,.sh (x.args[k].args.map Tm.d),.str y.args[k].name,.sh (y.args[k].args.map Tm.d)]]=((x.args.zip y.args).take (k+1)).map eqO:=by
                  rw [← hz,List.map_append]; rfl
                simp (disch:=omega) only [go_sem,Aa,hni2,hg1,hg2,hrow,htl,List.length_map,Ab,Ad,Ak,Ae,Aj]
                refine ⟨k+1,hlt,by omega,?_⟩
                simp only [Int.natCast_add,Int.natCast_one,and_self]
              · obtain rfl:k=x.args.length:=by omega
                have hfull:(x.args.zip y.args).take x.args.length=x.args.zip y.args:=List.take_of_length_le (by omega)
                have hao:=HT l
                have hot:=KN l
                have happ:(x.args.zip y.args).map eqO++l.map eqO=(x.args.zip y.args++l).map eqO:=by rw [List.map_append]
                rw [hfull] at htl
                simp only [hfull]
                simp (disch:=omega) only [go_sem,Aa,hni2,hao,hot,htl,happ,List.length_map,Ab,Ad,Ak,Ae,Aj]
                refine ⟨(n,true,true,⟨[]⟩,x.args.zip y.args++l),⟨i2,hrun,hsn⟩,by dsimp only; omega,?_⟩
                first | trivial | rfl | simp only [cond_true,cond_false,List.cons_append,List.nil_append,and_self]
            · have q8:((x.args.length:Int)=(y.args.length:Int))=False:=eq_false (by omega)
              simp only [A4 o7,AC o8,Bool.and_false,cond_false,Option.some.injEq] at hrun
              subst hrun
              simp (disch:=omega) only [go_sem,Aa,Tm.osv,Tm.obs,hni,h0,hlen,hal,hdr,hA,hB,hE,hV,hW,q7,q8,Ab,Ad,Ak,Ae,Aj]
              first | rfl | exact ⟨rfl,rfl⟩
          · have q7:=eq_false o7
            simp only [AC o7,Bool.false_and,cond_false,Option.some.injEq] at hrun
            subst hrun
            simp (disch:=omega) only [go_sem,Aa,Tm.osv,Tm.obs,hni,h0,hlen,hal,hdr,hA,hB,hE,hV,hW,q7,Ab,Ad,Ak,Ae,Aj]
            first | rfl | exact ⟨rfl,rfl⟩
theorem QdV (total:Option Sb) (n:Nat) (s:Sb) (p:Tm × Tm) (l:List (Tm × Tm)) (hinv:uInv s (p :: l)) (hrun:BI (n+1) s (p :: l)=some total) (hsn:false=true→s.binds=[]):go 0 u2b (u2H (n+1,false,true,s,p :: l)) (DO 0 KO u2H (u2R total) (fun a=>a.1) (n+1,false,true,s,p :: l) (u2K total)):=by
  have hs:=hinv.ok
  have hst:=E8 hs
  have hp:=hinv.ex p (by simp)
  have hpn1:=Tm.Au hp.1
  have hpn2:=Tm.Au hp.2
  have hni:(0:Int).toNat=0:=rfl
  unfold u2b u2H u2R u2K KO
  dsimp only
  have hss:(Sb.sv s)=.agg [.arr (s.binds.map Bd.d)]:=rfl
  obtain ⟨L,hL⟩:∃ L,L=(p :: l).map eqO:=⟨_,rfl⟩
  have h0:L[(0:Nat)]?=some [.str p.1.name,.sh (p.1.args.map Tm.d),.str p.2.name,.sh (p.2.args.map Tm.d)]:=by rw [hL]; rfl
  have h00:0 < L.length:=by rw [hL]; simp
  have hlen:L.length=l.length+1:=by rw [hL]; simp
  have hfu:OT.AS L=true:=by rw [hL]; exact RH _
  obtain ⟨Ld,hLd⟩:∃ Ld,Ld=(p :: l).map eqD:=⟨_,rfl⟩
  have her:OT.erss L=Ld:=by rw [hL,hLd]; exact RG _
  have hdr:(Ld.take (l.length+1)).drop 1=l.map eqD:=by rw [hLd,List.take_of_length_le (by simp)]; rfl
  simp only [cond_true,cond_false,← hL]
  cases o1:BV s p.1 with
  | false =>
    have hA:=Ch s hs hst p.1 hp.1 o1
    rw [hss] at hA
    rw [BI] at hrun
    simp only [o1,Bool.false_and,cond_false,Option.some.injEq] at hrun
    subst hrun
    cases o2:BV s p.2 with
    | false =>
      have hB:=Ch s hs hst p.2 hp.2 o2
      rw [hss] at hB
      simp (disch:=omega) only [go_sem,Aa,Tm.osv,Tm.obs,hni,Bd.erss,Bd.fus,h0,h00,hlen,hfu,her,hdr,hA,hB,Ab,Ad,Ak,Ae,Aj]
      first | rfl | exact ⟨rfl,rfl⟩
    | true =>
      have hB:=BH s hs hst p.2 hp.2 o2
      rw [hss] at hB
      simp (disch:=omega) only [go_sem,Aa,Tm.osv,Tm.obs,hni,Bd.erss,Bd.fus,h0,h00,hlen,hfu,her,hdr,hA,hB,Ab,Ad,Ak,Ae,Aj]
      first | rfl | exact ⟨rfl,rfl⟩
  | true =>
    have hA:=BH s hs hst p.1 hp.1 o1
    rw [hss] at hA
    have e1:=C3 o1
    cases o2:BV s p.2 with
    | false =>
      have hB:=Ch s hs hst p.2 hp.2 o2
      rw [hss] at hB
      rw [BI] at hrun
      simp only [o2,Bool.and_false,cond_false,Option.some.injEq] at hrun
      subst hrun
      simp (disch:=omega) only [go_sem,Aa,Tm.osv,Tm.obs,hni,Bd.erss,Bd.fus,h0,h00,hlen,hfu,her,hdr,hA,hB,Ab,Ad,Ak,Ae,Aj]
      first | rfl | exact ⟨rfl,rfl⟩
    | true =>
      have hB:=BH s hs hst p.2 hp.2 o2
      rw [hss] at hB
      have e2:=C3 o2
      have n1:=Tm.Au e1
      have n2:=Tm.Au e2
      have hdec:=hinv.dec o1 o2
      have hbind:=hinv.bind o1 o2
      rw [BI] at hrun
      simp only [o1,o2,Bool.and_self,cond_true] at hrun
      obtain ⟨x,hx⟩:∃ x,x=AP s p.1:=⟨_,rfl⟩
      obtain ⟨y,hy⟩:∃ y,y=AP s p.2:=⟨_,rfl⟩
      rw [← hx] at hA e1 n1 hrun hdec hbind
      rw [← hy] at hB e2 n2 hrun hdec hbind
      have hE:=Ei x y (by omega) (by omega)
      have hV:=Dd x (Tm.Ey e1)
      have hW:=Dd y (Tm.Ey e2)
      have hxv:x.sv=.agg [.str x.name,.arr (x.args.map Tm.d)]:=rfl
      have hyv:y.sv=.agg [.str y.name,.arr (y.args.map Tm.d)]:=rfl
      cases o3:dec (x=y) with
      | true =>
        rw [o3] at hE
        simp only [o3,cond_true] at hrun
        simp (disch:=omega) only [go_sem,Aa,Tm.osv,Tm.obs,hni,Bd.erss,Bd.fus,h0,h00,hlen,hfu,her,hdr,hA,hB,hE,Ab,Ad,Ak,Ae,Aj]
        exact ⟨(n,false,false,s,l),⟨hinv.pop,hrun,hsn⟩,by dsimp only; omega,by first | trivial | rfl | (simp only [cond_true,cond_false,List.cons_append,List.nil_append,and_self])⟩
      | false =>
        rw [o3] at hE
        simp only [o3,cond_false] at hrun
        cases o4:At x.name || At y.name with
        | true =>
          have hO:=HS x y e1 e2 o4
          have hbsv:(Sb.mk [A5 x y]).sv=.agg [.arr [[.str (A5 x y).var,.str (A5 x y).term.name,.arr ((A5 x y).term.args.map Tm.d)]]]:=rfl
          rw [hbsv] at hO
          simp only [o4,cond_true] at hrun
          have hvv:(At x.name=true)∨(At x.name=false∧At y.name=true):=by
            cases h:At x.name with
            | true=>exact .inl rfl
            | false=>rw [h,Bool.false_or] at o4; exact .inr ⟨rfl,o4⟩
          cases o5:BS (A5 x y) with
          | false =>
            rw [o5] at hO
            simp only [o5,Bool.false_and,cond_false,Option.some.injEq] at hrun
            subst hrun
            rcases hvv with v1 | ⟨v1,v2⟩
            · rw [v1] at hV
              simp (disch:=omega) only [go_sem,Aa,Tm.osv,Tm.obs,hni,Bd.erss,Bd.fus,h0,h00,hlen,hfu,her,hdr,hA,hB,hE,hV,hW,hO,Ab,Ad,Ak,Ae,Aj]
              first | rfl | exact ⟨rfl,rfl⟩
            · rw [v1] at hV
              rw [v2] at hW
              simp (disch:=omega) only [go_sem,Aa,Tm.osv,Tm.obs,hni,Bd.erss,Bd.fus,h0,h00,hlen,hfu,her,hdr,hA,hB,hE,hV,hW,hO,Ab,Ad,Ak,Ae,Aj]
              first | rfl | exact ⟨rfl,rfl⟩
          | true =>
            rw [o5] at hO
            have o5':=o5
            unfold BS at o5'
            rw [Bool.and_eq_true] at o5'
            have hbt:(A5 x y).term.nodes≤1099511627776:=by
              rcases Ga x y o4 with ⟨e,_⟩ | ⟨e,_⟩
              · rw [e]; show y.nodes≤_; omega
              · rw [e]; show x.nodes≤_; omega
            have hC:=Jw s ⟨[A5 x y]⟩ hs o5'.2 hst (Hs hbt)
            rw [hss,hbsv] at hC
            cases o6:Ct s ⟨[A5 x y]⟩ with
            | false =>
              have e6:Fh s ⟨[A5 x y]⟩=⟨[]⟩:=by unfold Fh; rw [o6]; rfl
              rw [e6,o6] at hC
              simp only [o5,o6,Bool.and_false,cond_false,Option.some.injEq] at hrun
              subst hrun
              rcases hvv with v1 | ⟨v1,v2⟩
              · rw [v1] at hV
                simp (disch:=omega) only [go_sem,Aa,Tm.osv,Tm.obs,hni,Bd.erss,Bd.fus,h0,h00,hlen,hfu,her,hdr,hA,hB,hE,hV,hW,hO,hC,Sb.osv,Sb.obs,Ab,Ad,Ak,Ae,Aj]
                first | rfl | exact ⟨rfl,rfl⟩
              · rw [v1] at hV
                rw [v2] at hW
                simp (disch:=omega) only [go_sem,Aa,Tm.osv,Tm.obs,hni,Bd.erss,Bd.fus,h0,h00,hlen,hfu,her,hdr,hA,hB,hE,hV,hW,hO,hC,Sb.osv,Sb.obs,Ab,Ad,Ak,Ae,Aj]
                first | rfl | exact ⟨rfl,rfl⟩
            | true =>
              have e6:Fh s ⟨[A5 x y]⟩=Cn s ⟨[A5 x y]⟩:=by unfold Fh; rw [o6]; rfl
              rw [e6,o6] at hC
              simp only [o5,o6,Bool.and_self,cond_true] at hrun
              obtain ⟨i1,_⟩:=hbind o4 o5 o6
              obtain ⟨s2,hs2⟩:∃ s2,s2=Cn s ⟨[A5 x y]⟩:=⟨_,rfl⟩
              rw [← hs2] at hC hrun i1
              rcases hvv with v1 | ⟨v1,v2⟩
              · rw [v1] at hV
                simp (disch:=omega) only [go_sem,Aa,Tm.osv,Tm.obs,hni,Bd.erss,Bd.fus,h0,h00,hlen,hfu,her,hdr,hA,hB,hE,hV,hW,hO,hC,Sb.osv,Sb.obs,Ab,Ad,Ak,Ae,Aj]
                exact ⟨(n,false,false,s2,l),⟨i1,hrun,fun h=>by cases h⟩,by dsimp only; omega,by first | trivial | rfl | (simp only [cond_true,cond_false,List.cons_append,List.nil_append,and_self])⟩
              · rw [v1] at hV
                rw [v2] at hW
                simp (disch:=omega) only [go_sem,Aa,Tm.osv,Tm.obs,hni,Bd.erss,Bd.fus,h0,h00,hlen,hfu,her,hdr,hA,hB,hE,hV,hW,hO,hC,Sb.osv,Sb.obs,Ab,Ad,Ak,Ae,Aj]
                exact ⟨(n,false,false,s2,l),⟨i1,hrun,fun h=>by cases h⟩,by dsimp only; omega,by first | trivial | rfl | (simp only [cond_true,cond_false,List.cons_append,List.nil_append,and_self])⟩
        | false =>
          simp only [o4,cond_false] at hrun
          have o4':=o4
          rw [Bool.or_eq_false_iff] at o4'
          rw [o4'.1] at hV
          rw [o4'.2] at hW
          by_cases o7:x.name=y.name
          · have q7:=eq_true o7
            by_cases o8:x.args.length=y.args.length
            · have q8:((x.args.length:Int)=(y.args.length:Int))=True:=eq_true (by omega)
              simp only [A4 o7,A4 o8,Bool.and_self,cond_true] at hrun
              have i2:=hdec o4'.1
              have hx1:=Tm.AB x.args
              have hx2:=Tm.Ao x
              have ll:=hinv.pop.len
              have hzl:(x.args.zip y.args).length=x.args.length:=by rw [List.length_zip]; omega
              simp (disch:=omega) only [go_sem,Aa,Tm.osv,Tm.obs,hni,Bd.erss,Bd.fus,h0,h00,hlen,hfu,her,hdr,hA,hB,hE,hV,hW,q7,q8,Ab,Ad,Ak,Ae,Aj]
              refine As (α:=Nat) (fun a=>⟨slots 123 0 [(4,.ptr 0 0),(6,.ptr 1 0),(7,.arr (l.map eqD)),(10,.ptr 2 0),(14,.ref 3),(47,.arr (x.args.map Tm.d)),(48,.int .i64 x.args.length),(49,.int .i64 (a:Int))],[.box 76 [.nil],.box 76 [.ref 4],.box 71 [.str y.name,.arr (y.args.map Tm.d)],.row 107 4 (((x.args.zip y.args).take a).map eqO),.row 139 3 (s.binds.map Bd.o)]⟩) (fun a=>a≤x.args.length) (fun a=>x.args.length - a) 0 (Nat.zero_le _) (by simp (disch:=omega) only [go_sem,Aa,List.take_zero,List.map_nil,Ab,Ad,Ak,Ae,Aj]; rfl) ?_
              intro k hk
              have hni2:((k:Nat):Int).toNat=k:=Int.toNat_natCast k
              have htl:((x.args.zip y.args).take k).length=k:=by rw [List.length_take]; omega
              rcases Nat.lt_or_ge k x.args.length with hlt | hge
              · have hg1:=Aq Tm.d hlt
                have hlt2:k < y.args.length:=by omega
                have hg2:=Aq Tm.d hlt2
                rw [Tm.d_eq] at hg1 hg2
                have hz:=Gc hlt hlt2
                have hrow:((x.args.zip y.args).take k).map eqO++[[OT.str x.args[k].name,.sh (x.args[k].args.map Tm.d),.str y.args[k].name,.sh (y.args[k].args.map Tm.d)]]=((x.args.zip y.args).take (k+1)).map eqO:=by
                  rw [← hz,List.map_append]; rfl
                simp (disch:=omega) only [go_sem,Aa,hni2,hg1,hg2,hrow,htl,List.length_map,Ab,Ad,Ak,Ae,Aj]
                refine ⟨k+1,hlt,by omega,?_⟩
                simp only [Int.natCast_add,Int.natCast_one,and_self]
              · obtain rfl:k=x.args.length:=by omega
                have hfull:(x.args.zip y.args).take x.args.length=x.args.zip y.args:=List.take_of_length_le (by omega)
                have hao:=HT l
                have hot:=KN l
                have happ:(x.args.zip y.args).map eqO++l.map eqO=(x.args.zip y.args++l).map eqO:=by rw [List.map_append]
                rw [hfull] at htl
                simp only [hfull]
                simp (disch:=omega) only [go_sem,Aa,hni2,hao,hot,htl,happ,List.length_map,Ab,Ad,Ak,Ae,Aj]
                refine ⟨(n,false,true,s,x.args.zip y.args++l),⟨i2,hrun,hsn⟩,by dsimp only; omega,?_⟩
                first | trivial | rfl | simp only [cond_true,cond_false,List.cons_append,List.nil_append,and_self]
            · have q8:((x.args.length:Int)=(y.args.length:Int))=False:=eq_false (by omega)
              simp only [A4 o7,AC o8,Bool.and_false,cond_false,Option.some.injEq] at hrun
              subst hrun
              simp (disch:=omega) only [go_sem,Aa,Tm.osv,Tm.obs,hni,Bd.erss,Bd.fus,h0,h00,hlen,hfu,her,hdr,hA,hB,hE,hV,hW,q7,q8,Ab,Ad,Ak,Ae,Aj]
              first | rfl | exact ⟨rfl,rfl⟩
          · have q7:=eq_false o7
            simp only [AC o7,Bool.false_and,cond_false,Option.some.injEq] at hrun
            subst hrun
            simp (disch:=omega) only [go_sem,Aa,Tm.osv,Tm.obs,hni,Bd.erss,Bd.fus,h0,h00,hlen,hfu,her,hdr,hA,hB,hE,hV,hW,q7,Ab,Ad,Ak,Ae,Aj]
            first | rfl | exact ⟨rfl,rfl⟩
theorem QdW (total:Option Sb) (n:Nat) (s:Sb) (p:Tm × Tm) (l:List (Tm × Tm)) (hinv:uInv s (p :: l)) (hrun:BI (n+1) s (p :: l)=some total) (hsn:false=true→s.binds=[]):go 0 u2b (u2H (n+1,false,false,s,p :: l)) (DO 0 KO u2H (u2R total) (fun a=>a.1) (n+1,false,false,s,p :: l) (u2K total)):=by
  have hs:=hinv.ok
  have hst:=E8 hs
  have hp:=hinv.ex p (by simp)
  have hpn1:=Tm.Au hp.1
  have hpn2:=Tm.Au hp.2
  have hni:(0:Int).toNat=0:=rfl
  unfold u2b u2H u2R u2K KO
  dsimp only
  have hss:(Sb.sv s)=.agg [.arr (s.binds.map Bd.d)]:=rfl
  obtain ⟨L,hL⟩:∃ L,L=(p :: l).map eqD:=⟨_,rfl⟩
  have h0:L[(0:Nat)]?=some [.str p.1.name,.arr (p.1.args.map Tm.d),.str p.2.name,.arr (p.2.args.map Tm.d)]:=by rw [hL]; rfl
  have hlen:L.length=l.length+1:=by rw [hL]; simp
  have hal:(L.all fun x=>x.length == 4)=true:=by rw [hL]; exact PC _
  have hdr:(L.take (l.length+1)).drop 1=l.map eqD:=by rw [hL,List.take_of_length_le (by simp)]; rfl
  simp only [cond_true,cond_false,← hL]
  cases o1:BV s p.1 with
  | false =>
    have hA:=Ch s hs hst p.1 hp.1 o1
    rw [hss] at hA
    rw [BI] at hrun
    simp only [o1,Bool.false_and,cond_false,Option.some.injEq] at hrun
    subst hrun
    cases o2:BV s p.2 with
    | false =>
      have hB:=Ch s hs hst p.2 hp.2 o2
      rw [hss] at hB
      simp (disch:=omega) only [go_sem,Aa,Tm.osv,Tm.obs,hni,Bd.erss,Bd.fus,h0,hlen,hal,hdr,hA,hB,Ab,Ad,Ak,Ae,Aj]
      first | rfl | exact ⟨rfl,rfl⟩
    | true =>
      have hB:=BH s hs hst p.2 hp.2 o2
      rw [hss] at hB
      simp (disch:=omega) only [go_sem,Aa,Tm.osv,Tm.obs,hni,Bd.erss,Bd.fus,h0,hlen,hal,hdr,hA,hB,Ab,Ad,Ak,Ae,Aj]
      first | rfl | exact ⟨rfl,rfl⟩
  | true =>
    have hA:=BH s hs hst p.1 hp.1 o1
    rw [hss] at hA
    have e1:=C3 o1
    cases o2:BV s p.2 with
    | false =>
      have hB:=Ch s hs hst p.2 hp.2 o2
      rw [hss] at hB
      rw [BI] at hrun
      simp only [o2,Bool.and_false,cond_false,Option.some.injEq] at hrun
      subst hrun
      simp (disch:=omega) only [go_sem,Aa,Tm.osv,Tm.obs,hni,Bd.erss,Bd.fus,h0,hlen,hal,hdr,hA,hB,Ab,Ad,Ak,Ae,Aj]
      first | rfl | exact ⟨rfl,rfl⟩
    | true =>
      have hB:=BH s hs hst p.2 hp.2 o2
      rw [hss] at hB
      have e2:=C3 o2
      have n1:=Tm.Au e1
      have n2:=Tm.Au e2
      have hdec:=hinv.dec o1 o2
      have hbind:=hinv.bind o1 o2
      rw [BI] at hrun
      simp only [o1,o2,Bool.and_self,cond_true] at hrun
      obtain ⟨x,hx⟩:∃ x,x=AP s p.1:=⟨_,rfl⟩
      obtain ⟨y,hy⟩:∃ y,y=AP s p.2:=⟨_,rfl⟩
      rw [← hx] at hA e1 n1 hrun hdec hbind
      rw [← hy] at hB e2 n2 hrun hdec hbind
      have hE:=Ei x y (by omega) (by omega)
      have hV:=Dd x (Tm.Ey e1)
      have hW:=Dd y (Tm.Ey e2)
      have hxv:x.sv=.agg [.str x.name,.arr (x.args.map Tm.d)]:=rfl
      have hyv:y.sv=.agg [.str y.name,.arr (y.args.map Tm.d)]:=rfl
      cases o3:dec (x=y) with
      | true =>
        rw [o3] at hE
        simp only [o3,cond_true] at hrun
        simp (disch:=omega) only [go_sem,Aa,Tm.osv,Tm.obs,hni,Bd.erss,Bd.fus,h0,hlen,hal,hdr,hA,hB,hE,Ab,Ad,Ak,Ae,Aj]
        exact ⟨(n,false,false,s,l),⟨hinv.pop,hrun,hsn⟩,by dsimp only; omega,by first | trivial | rfl | (simp only [cond_true,cond_false,List.cons_append,List.nil_append,and_self])⟩
      | false =>
        rw [o3] at hE
        simp only [o3,cond_false] at hrun
        cases o4:At x.name || At y.name with
        | true =>
          have hO:=HS x y e1 e2 o4
          have hbsv:(Sb.mk [A5 x y]).sv=.agg [.arr [[.str (A5 x y).var,.str (A5 x y).term.name,.arr ((A5 x y).term.args.map Tm.d)]]]:=rfl
          rw [hbsv] at hO
          simp only [o4,cond_true] at hrun
          have hvv:(At x.name=true)∨(At x.name=false∧At y.name=true):=by
            cases h:At x.name with
            | true=>exact .inl rfl
            | false=>rw [h,Bool.false_or] at o4; exact .inr ⟨rfl,o4⟩
          cases o5:BS (A5 x y) with
          | false =>
            rw [o5] at hO
            simp only [o5,Bool.false_and,cond_false,Option.some.injEq] at hrun
            subst hrun
            rcases hvv with v1 | ⟨v1,v2⟩
            · rw [v1] at hV
              simp (disch:=omega) only [go_sem,Aa,Tm.osv,Tm.obs,hni,Bd.erss,Bd.fus,h0,hlen,hal,hdr,hA,hB,hE,hV,hW,hO,Ab,Ad,Ak,Ae,Aj]
              first | rfl | exact ⟨rfl,rfl⟩
            · rw [v1] at hV
              rw [v2] at hW
              simp (disch:=omega) only [go_sem,Aa,Tm.osv,Tm.obs,hni,Bd.erss,Bd.fus,h0,hlen,hal,hdr,hA,hB,hE,hV,hW,hO,Ab,Ad,Ak,Ae,Aj]
              first | rfl | exact ⟨rfl,rfl⟩
          | true =>
            rw [o5] at hO
            have o5':=o5
            unfold BS at o5'
            rw [Bool.and_eq_true] at o5'
            have hbt:(A5 x y).term.nodes≤1099511627776:=by
              rcases Ga x y o4 with ⟨e,_⟩ | ⟨e,_⟩
              · rw [e]; show y.nodes≤_; omega
              · rw [e]; show x.nodes≤_; omega
            have hC:=Jw s ⟨[A5 x y]⟩ hs o5'.2 hst (Hs hbt)
            rw [hss,hbsv] at hC
            cases o6:Ct s ⟨[A5 x y]⟩ with
            | false =>
              have e6:Fh s ⟨[A5 x y]⟩=⟨[]⟩:=by unfold Fh; rw [o6]; rfl
              rw [e6,o6] at hC
              simp only [o5,o6,Bool.and_false,cond_false,Option.some.injEq] at hrun
              subst hrun
              rcases hvv with v1 | ⟨v1,v2⟩
              · rw [v1] at hV
                simp (disch:=omega) only [go_sem,Aa,Tm.osv,Tm.obs,hni,Bd.erss,Bd.fus,h0,hlen,hal,hdr,hA,hB,hE,hV,hW,hO,hC,Sb.osv,Sb.obs,Ab,Ad,Ak,Ae,Aj]
                first | rfl | exact ⟨rfl,rfl⟩
              · rw [v1] at hV
                rw [v2] at hW
                simp (disch:=omega) only [go_sem,Aa,Tm.osv,Tm.obs,hni,Bd.erss,Bd.fus,h0,hlen,hal,hdr,hA,hB,hE,hV,hW,hO,hC,Sb.osv,Sb.obs,Ab,Ad,Ak,Ae,Aj]
                first | rfl | exact ⟨rfl,rfl⟩
            | true =>
              have e6:Fh s ⟨[A5 x y]⟩=Cn s ⟨[A5 x y]⟩:=by unfold Fh; rw [o6]; rfl
              rw [e6,o6] at hC
              simp only [o5,o6,Bool.and_self,cond_true] at hrun
              obtain ⟨i1,_⟩:=hbind o4 o5 o6
              obtain ⟨s2,hs2⟩:∃ s2,s2=Cn s ⟨[A5 x y]⟩:=⟨_,rfl⟩
              rw [← hs2] at hC hrun i1
              rcases hvv with v1 | ⟨v1,v2⟩
              · rw [v1] at hV
                simp (disch:=omega) only [go_sem,Aa,Tm.osv,Tm.obs,hni,Bd.erss,Bd.fus,h0,hlen,hal,hdr,hA,hB,hE,hV,hW,hO,hC,Sb.osv,Sb.obs,Ab,Ad,Ak,Ae,Aj]
                exact ⟨(n,false,false,s2,l),⟨i1,hrun,fun h=>by cases h⟩,by dsimp only; omega,by first | trivial | rfl | (simp only [cond_true,cond_false,List.cons_append,List.nil_append,and_self])⟩
              · rw [v1] at hV
                rw [v2] at hW
                simp (disch:=omega) only [go_sem,Aa,Tm.osv,Tm.obs,hni,Bd.erss,Bd.fus,h0,hlen,hal,hdr,hA,hB,hE,hV,hW,hO,hC,Sb.osv,Sb.obs,Ab,Ad,Ak,Ae,Aj]
                exact ⟨(n,false,false,s2,l),⟨i1,hrun,fun h=>by cases h⟩,by dsimp only; omega,by first | trivial | rfl | (simp only [cond_true,cond_false,List.cons_append,List.nil_append,and_self])⟩
        | false =>
          simp only [o4,cond_false] at hrun
          have o4':=o4
          rw [Bool.or_eq_false_iff] at o4'
          rw [o4'.1] at hV
          rw [o4'.2] at hW
          by_cases o7:x.name=y.name
          · have q7:=eq_true o7
            by_cases o8:x.args.length=y.args.length
            · have q8:((x.args.length:Int)=(y.args.length:Int))=True:=eq_true (by omega)
              simp only [A4 o7,A4 o8,Bool.and_self,cond_true] at hrun
              have i2:=hdec o4'.1
              have hx1:=Tm.AB x.args
              have hx2:=Tm.Ao x
              have ll:=hinv.pop.len
              have hzl:(x.args.zip y.args).length=x.args.length:=by rw [List.length_zip]; omega
              simp (disch:=omega) only [go_sem,Aa,Tm.osv,Tm.obs,hni,Bd.erss,Bd.fus,h0,hlen,hal,hdr,hA,hB,hE,hV,hW,q7,q8,Ab,Ad,Ak,Ae,Aj]
              refine As (α:=Nat) (fun a=>⟨slots 123 0 [(4,.ptr 0 0),(6,.ptr 1 0),(7,.arr (l.map eqD)),(10,.ptr 2 0),(14,.ref 3),(47,.arr (x.args.map Tm.d)),(48,.int .i64 x.args.length),(49,.int .i64 (a:Int))],[.box 76 [.nil],.box 76 [.ref 4],.box 71 [.str y.name,.arr (y.args.map Tm.d)],.row 107 4 (((x.args.zip y.args).take a).map eqO),.row 139 3 (s.binds.map Bd.o)]⟩) (fun a=>a≤x.args.length) (fun a=>x.args.length - a) 0 (Nat.zero_le _) (by simp (disch:=omega) only [go_sem,Aa,List.take_zero,List.map_nil,Ab,Ad,Ak,Ae,Aj]; rfl) ?_
              intro k hk
              have hni2:((k:Nat):Int).toNat=k:=Int.toNat_natCast k
              have htl:((x.args.zip y.args).take k).length=k:=by rw [List.length_take]; omega
              rcases Nat.lt_or_ge k x.args.length with hlt | hge
              · have hg1:=Aq Tm.d hlt
                have hlt2:k < y.args.length:=by omega
                have hg2:=Aq Tm.d hlt2
                rw [Tm.d_eq] at hg1 hg2
                have hz:=Gc hlt hlt2
                have hrow:((x.args.zip y.args).take k).map eqO++[[OT.str x.args[k].name,.sh (x.args[k].args.map Tm.d),.str y.args[k].name,.sh (y.args[k].args.map Tm.d)]]=((x.args.zip y.args).take (k+1)).map eqO:=by
                  rw [← hz,List.map_append]; rfl
                simp (disch:=omega) only [go_sem,Aa,hni2,hg1,hg2,hrow,htl,List.length_map,Ab,Ad,Ak,Ae,Aj]
                refine ⟨k+1,hlt,by omega,?_⟩
                simp only [Int.natCast_add,Int.natCast_one,and_self]
              · obtain rfl:k=x.args.length:=by omega
                have hfull:(x.args.zip y.args).take x.args.length=x.args.zip y.args:=List.take_of_length_le (by omega)
                have hao:=HT l
                have hot:=KN l
                have happ:(x.args.zip y.args).map eqO++l.map eqO=(x.args.zip y.args++l).map eqO:=by rw [List.map_append]
                rw [hfull] at htl
                simp only [hfull]
                simp (disch:=omega) only [go_sem,Aa,hni2,hao,hot,htl,happ,List.length_map,Ab,Ad,Ak,Ae,Aj]
                refine ⟨(n,false,true,s,x.args.zip y.args++l),⟨i2,hrun,hsn⟩,by dsimp only; omega,?_⟩
                first | trivial | rfl | simp only [cond_true,cond_false,List.cons_append,List.nil_append,and_self]
            · have q8:((x.args.length:Int)=(y.args.length:Int))=False:=eq_false (by omega)
              simp only [A4 o7,AC o8,Bool.and_false,cond_false,Option.some.injEq] at hrun
              subst hrun
              simp (disch:=omega) only [go_sem,Aa,Tm.osv,Tm.obs,hni,Bd.erss,Bd.fus,h0,hlen,hal,hdr,hA,hB,hE,hV,hW,q7,q8,Ab,Ad,Ak,Ae,Aj]
              first | rfl | exact ⟨rfl,rfl⟩
          · have q7:=eq_false o7
            simp only [AC o7,Bool.false_and,cond_false,Option.some.injEq] at hrun
            subst hrun
            simp (disch:=omega) only [go_sem,Aa,Tm.osv,Tm.obs,hni,Bd.erss,Bd.fus,h0,hlen,hal,hdr,hA,hB,hE,hV,hW,q7,Ab,Ad,Ak,Ae,Aj]
            first | rfl | exact ⟨rfl,rfl⟩
theorem Qdr (a b:Tm) (ha:a.expr=true) (hb:b.expr=true) (n:Nat) (total:Option Sb) (hr:BI n ⟨[]⟩ [(a,b)]=some total):E 57 [a.sv,b.sv] []=some (.tup [(uTo total).osv,.bool (uOk total)],(uTo total).obs):=by
  refine Ah US J0 (of_decide_eq_true rfl) ?_
  simp (disch:=omega) only [N2,go_sem,Aa]
  refine As (α:=Nat × Bool × Bool × Sb × List (Tm × Tm)) u2H (u2R total) (fun a=>a.1) (n,true,true,⟨[]⟩,[(a,b)]) ⟨uInv.start ha hb,hr,fun _=>rfl⟩ (by simp (disch:=omega) only [go_sem,Aa,u2H]; rfl) ?_
  clear hr ha hb
  rintro ⟨n,sn,lo,s,l⟩ ⟨hinv,hrun,hsn⟩
  dsimp only at hinv hrun hsn
  have hs:=hinv.ok
  have hst:=E8 hs
  cases n with
  | zero=>rw [BI] at hrun; cases hrun
  | succ n =>
  cases l with
  | nil =>
    rw [BI] at hrun
    obtain rfl:=Option.some.inj hrun
    have hk:uTo (some s)=s:=rfl
    rw [hk]
    cases sn with
    | true =>
      obtain rfl:s=⟨[]⟩:=by obtain ⟨bs⟩:=s; have:=hsn rfl; rw [show bs=[] from this]
      cases lo with
      | true =>
        simp (disch:=omega) only [go_sem,Aa,u2H,Sb.osv,Sb.obs,uOk,Option.isSome_some,List.map_nil]
        try rfl
      | false =>
        simp (disch:=omega) only [go_sem,Aa,u2H,Sb.osv,Sb.obs,uOk,Option.isSome_some,List.map_nil]
        try rfl
    | false =>
      cases lo with
      | true =>
        simp (disch:=omega) only [go_sem,Aa,u2H,Sb.osv,Sb.obs,uOk,Option.isSome_some,List.map_nil]
        try rfl
      | false =>
        simp (disch:=omega) only [go_sem,Aa,u2H,Sb.osv,Sb.obs,uOk,Option.isSome_some,List.map_nil]
        try rfl
  | cons p l =>
    have hcmb:(sn=true∧lo=true)∨(sn=true∧lo=false)∨(sn=false∧lo=true)∨(sn=false∧lo=false):=by cases sn <;> cases lo <;> simp
    rcases hcmb with ⟨rfl,rfl⟩ | ⟨rfl,rfl⟩ | ⟨rfl,rfl⟩ | ⟨rfl,rfl⟩
    · exact QdT total n s p l hinv hrun hsn
    · exact QdU total n s p l hinv hrun hsn
    · exact QdV total n s p l hinv hrun hsn
    · exact QdW total n s p l hinv hrun hsn
def Ez:SC:=(.seq (.reg [⟨some 6,none,.mv (.c (.bool false))⟩]) (.seq (.reg [⟨some 7,none,.mv (.t 0)⟩,⟨some 8,none,.mv (.t 1)⟩,⟨some 9,none,.bin .geq false (.t 7) (.t 8)⟩,⟨some 10,none,.mv (.t 9)⟩,⟨(some 11),(some (10,true)),(.mv (.t 0))⟩,⟨(some 12),(some (10,true)),(.mv (.t 2))⟩,⟨(some 13),(some (10,true)),(.bin .leq false (.t 11) (.t 12))⟩,⟨some 14,none,.pick (.t 10) (.t 13) (.c (.bool false))⟩,⟨some 6,none,.mv (.t 14)⟩]) .ret))
theorem FJ:Am Tryz.prog 86=some ⟨15,Ez,[(.tmp 6)]⟩:=by kernel_rfl
theorem E0:modes 86=⟨[],.asis,none,false⟩:=by unfold modes; rfl
def Ge:SC:=(.seq (.reg [⟨some 6,none,.mv (.c (.bool false))⟩]) (.seq (.reg [⟨some 7,none,.mv (.t 0)⟩,⟨some 8,none,.mv (.t 1)⟩,⟨some 9,none,.bin .geq false (.t 7) (.t 8)⟩,⟨some 10,none,.mv (.t 9)⟩,⟨(some 11),(some (10,true)),(.mv (.t 0))⟩,⟨(some 12),(some (10,true)),(.mv (.t 2))⟩,⟨(some 13),(some (10,true)),(.bin .leq false (.t 11) (.t 12))⟩,⟨some 14,none,.pick (.t 10) (.t 13) (.c (.bool false))⟩,⟨some 6,none,.mv (.t 14)⟩]) .ret))
theorem HU:Am Tryz.prog 49=some ⟨15,Ge,[(.tmp 6)]⟩:=by kernel_rfl
theorem CS:modes 49=⟨[],.asis,none,false⟩:=by unfold modes; rfl
theorem QaF (n lo hi:Int):E 86 [.int .i64 n,.int .i64 lo,.int .i64 hi] []=some (.bool (dec (lo≤n)&&dec (n≤hi)),[]):=by
  cases h1:dec (lo≤n)
  · cases h2:dec (n≤hi)
    · refine Ah FJ E0 (of_decide_eq_true rfl) ?_
      simp (disch:=omega) only [Ez,go_sem,Aa,h1,h2]
    · refine Ah FJ E0 (of_decide_eq_true rfl) ?_
      simp (disch:=omega) only [Ez,go_sem,Aa,h1,h2]
  · cases h2:dec (n≤hi)
    · refine Ah FJ E0 (of_decide_eq_true rfl) ?_
      simp (disch:=omega) only [Ez,go_sem,Aa,h1,h2]
    · refine Ah FJ E0 (of_decide_eq_true rfl) ?_
      simp (disch:=omega) only [Ez,go_sem,Aa,h1,h2]
theorem ZN (n lo hi:Int):E 49 [.int .i64 n,.int .i64 lo,.int .i64 hi] []=some (.bool (dec (lo≤n)&&dec (n≤hi)),[]):=by
  cases h1:dec (lo≤n)
  · cases h2:dec (n≤hi)
    · refine Ah HU CS (of_decide_eq_true rfl) ?_
      simp (disch:=omega) only [Ge,go_sem,Aa,h1,h2]
    · refine Ah HU CS (of_decide_eq_true rfl) ?_
      simp (disch:=omega) only [Ge,go_sem,Aa,h1,h2]
  · cases h2:dec (n≤hi)
    · refine Ah HU CS (of_decide_eq_true rfl) ?_
      simp (disch:=omega) only [Ge,go_sem,Aa,h1,h2]
    · refine Ah HU CS (of_decide_eq_true rfl) ?_
      simp (disch:=omega) only [Ge,go_sem,Aa,h1,h2]
def E9:SC:=(.seq (.reg [⟨some 2,none,.boxv 76 1 (.t 0)⟩,⟨some 4,none,.alloc 28 [.nil]⟩,⟨some 5,none,.mv (.c (.bool false))⟩]) (.seq (.reg [⟨some 10,none,.load true 1 (.t 2)⟩,⟨some 11,none,.mv (.t 1)⟩,⟨some 12,none,.call 92 [(.t 10),(.t 11)]⟩,⟨some 9,none,.mv (.t 12)⟩,⟨some 13,none,.ext (.t 9) 0⟩,⟨some 14,none,.ext (.t 9) 1⟩,⟨some 6,none,.alloc 28 [.nil]⟩,⟨none,none,(.store 1 (.t 6) (.t 13))⟩,⟨some 7,none,.mv (.t 14)⟩]) (.seq (.seq (.reg [⟨some 15,none,.mv (.t 7)⟩,⟨some 16,none,.un .not (.t 15)⟩]) (.cond (.t 16) (.seq (.reg [⟨some 17,none,.build [.nil] []⟩,⟨none,none,(.store 1 (.t 4) (.t 17))⟩,⟨some 5,none,.mv (.c (.bool false))⟩]) .ret) .skip)) (.seq (.reg [⟨some 18,none,.load true 1 (.t 6)⟩,⟨some 19,none,.call 93 [(.t 18)]⟩,⟨some 8,none,.alloc 28 [.nil]⟩,⟨none,none,(.store 1 (.t 8) (.t 19))⟩]) (.seq (.seq (.reg [⟨some 20,none,.load true 1 (.t 8)⟩,⟨some 21,none,.call 32 [(.t 20)]⟩,⟨some 22,none,.un .not (.t 21)⟩]) (.cond (.t 22) (.seq (.reg [⟨some 23,none,.build [.nil] []⟩,⟨none,none,(.store 1 (.t 4) (.t 23))⟩,⟨some 5,none,.mv (.c (.bool false))⟩]) .ret) .skip)) (.seq (.reg [⟨some 24,none,.load true 1 (.t 8)⟩,⟨none,none,(.store 1 (.t 4) (.t 24))⟩,⟨some 5,none,.mv (.c (.bool true))⟩]) .ret))))))
theorem Gt:Am Tryz.prog 58=some ⟨25,E9,[(.cell 4 true 1),(.tmp 5)]⟩:=by kernel_rfl
theorem EA:modes 58=⟨[],.own [some (73,3),none],none,false⟩:=by unfold modes; rfl
theorem YC (s:Sb) (hs:s.ok=true) (ht:s.tame) (l:List Lt) (hl:l.length≤1048576) (hal:∀ x∈l,x.atom.atom=true):E 58 [s.sv,.arr (l.map Lt.d)] []=some (.tup [(S2 s l).osv,.bool (Gd s l)],(S2 s l).obs):=by
  have h1:=So s hs ht l hl hal
  have hcs:∀ d:Cl,Cl.osv d=.agg [.ref 0]:=fun d=>rfl
  have hob:∀ d:Cl,Cl.obs d=[.row 73 3 (d.lits.map Lt.o)]:=fun d=>rfl
  have hsv:∀ d:Cl,d.sv=.agg [.arr (d.lits.map Lt.d)]:=fun d=>rfl
  have hss:s.sv=.agg [.arr (s.binds.map Bd.d)]:=rfl
  rw [hcs,hob] at h1
  rw [hcs,hob]
  rw [hss] at h1 ⊢
  cases hok:Eo s l with
  | false =>
    have ho:Gd s l=false:=by unfold Gd; rw [hok]; rfl
    have hz:(Cl.mk []).lits=[]:=rfl
    rw [Ol hok,hok] at h1
    rw [N0 ho,ho]
    refine Ah Gt EA (of_decide_eq_true rfl) ?_
    simp (disch:=omega) only [E9,go_sem,Aa,h1,B0]
  | true =>
    have hc:=YA hok
    obtain ⟨c,hcc⟩:∃ c,c=apC s l:=⟨_,rfl⟩
    rw [← hcc] at hc h1
    have h2:=W4 c hc
    have hn:=ZF 10 hc
    have h3:=Rs (nz 10 c) (Qcr hn)
    rw [hn,Bool.true_and] at h3
    rw [hok] at h1
    rw [hcs,hob] at h2
    rw [hsv] at h2 h3
    have hio:Gd s l=(nz 10 c).norm:=by unfold Gd; rw [hok,Bool.true_and,hcc]
    have her:=Lt.erss c.lits
    have her2:=Lt.erss (nz 10 c).lits
    cases hm:(nz 10 c).norm with
    | false =>
      rw [hm] at h3 hio
      rw [N0 hio,hio]
      refine Ah Gt EA (of_decide_eq_true rfl) ?_
      simp (disch:=omega) only [E9,go_sem,Aa,h1,h2,h3,her,her2,Lt.noss,Lt.fus,F5,CK,B0]
    | true =>
      rw [hm] at h3 hio
      rw [RJ hio,hio,← hcc]
      refine Ah Gt EA (of_decide_eq_true rfl) ?_
      simp (disch:=omega) only [E9,go_sem,Aa,h1,h2,h3,her,her2,Lt.noss,Lt.fus,F5,CK,B0]
def HV:SC:=(.seq (.reg [⟨some 2,none,.boxv 28 1 (.t 0)⟩,⟨some 4,none,.mv (.c (.bool false))⟩]) (.seq (.reg [⟨some 5,none,.mv (.t 1)⟩,⟨some 6,none,.faddr 0 (.t 2)⟩,⟨some 7,none,.load false 1 (.t 6)⟩,⟨some 8,none,.len false (.t 7)⟩,⟨some 9,none,.bin .sub false (.t 8) (.c (.int .i64 1))⟩,⟨some 10,none,.call 86 [(.t 5),(.c (.int .i64 0)),(.t 9)]⟩,⟨some 4,none,.mv (.t 10)⟩]) .ret))
theorem N3:Am Tryz.prog 56=some ⟨11,HV,[(.tmp 4)]⟩:=by kernel_rfl
theorem BT:modes 56=⟨[],.asis,none,false⟩:=by unfold modes; rfl
theorem N4 (c:Cl) (hc:c.ok=true) (i:Int):E 56 [c.sv,.int .i64 i] []=some (.bool (Mn c i),[]):=by
  have hl:=Cl.ok_len hc
  have hsv:c.sv=.agg [.arr (c.lits.map Lt.d)]:=rfl
  have h1:=QaF i 0 ((c.lits.length:Int) - 1)
  unfold Mn
  rw [hsv]
  refine Ah N3 BT (of_decide_eq_true rfl) ?_
  simp (disch:=omega) only [HV,go_sem,Aa,h1,E0]
theorem Qct (a b:Tm) (ha:a.atom=true) (hb:b.atom=true):E 57 [a.sv,b.sv] []=some (.tup [(uTo (unR a b)).osv,.bool (uOk (unR a b))],(uTo (unR a b)).obs):=by
  obtain ⟨n,hn⟩:=RI (Tm.Ci ha) (Tm.Ci hb)
  exact Qdr a b (Tm.Ci ha) (Tm.Ci hb) n _ hn
def CX:SC:=(.seq (.reg [⟨some 3,none,.boxv 28 1 (.t 0)⟩,⟨some 6,none,.alloc 28 [.nil]⟩,⟨some 7,none,.mv (.c (.bool false))⟩]) (.seq (.seq (.dreg [[],[],[0,1],[2,0,1],[3,2,0,1],[4,3,2,0,1],[4,3,2,0,1],[5,4,3,2,0,1,6],[7,5,4,3,2,0,1,6],[4,3,2,0,1,8,7,5,6],[9,4,3,2,0,1,8,7,5,6],[10,9,4,3,2,0,1,8,7,5,6],[10,9,4,3,2,0,1,8,7,5,6],[11,10,9,4,3,2,0,1,8,7,5,6,12],[10,9,4,3,2,0,1,8,7,5,6,13,11,12],[14,10,9,4,3,2,0,1,8,7,5,6,13,11,12],[15,14,10,9,4,3,2,0,1,8,7,5,6,13,11,12],[16,15,14,10,9,4,3,2,0,1,8,7,5,6,13,11,12],[15,14,10,9,4,3,2,0,1,8,7,5,6,13,11,12],[17,16,15,14,10,9,4,3,2,0,1,8,7,5,6,13,11,12,18],[19,17,16,15,14,10,9,4,3,2,0,1,8,7,5,6,13,11,12,18],[20,19,17,16,15,14,10,9,4,3,2,0,1,8,7,5,6,13,11,12,18],[15,14,10,9,4,3,2,0,1,8,7,5,6,13,11,12],[22,15,14,10,9,4,3,2,0,1,8,7,5,6,13,11,12],[15,14,10,9,4,3,2,0,1,8,7,5,6,13,11,12],[23,22,15,14,10,9,4,3,2,0,1,8,7,5,6,13,11,12,24],[25,23,22,15,14,10,9,4,3,2,0,1,8,7,5,6,13,11,12,24],[26,25,23,22,15,14,10,9,4,3,2,0,1,8,7,5,6,13,11,12,24],[21,20,19,17,16,15,14,10,9,4,3,2,0,1,8,7,5,6,13,11,12,18,27,26,25,23,22,24],[15,14,10,9,4,3,2,0,1,8,7,5,6,13,11,12,28,21,20,19,17,16,18,27,26,25,23,22,24]] [⟨some 10,none,.load true 1 (.t 3)⟩,⟨some 11,none,.mv (.t 1)⟩,⟨some 12,none,.call 56 [(.t 10),(.t 11)]⟩,⟨some 13,none,.un .not (.t 12)⟩,⟨some 14,none,.mv (.t 13)⟩,⟨(some 15),(some (14,false)),(.load true 1 (.t 3))⟩,⟨(some 16),(some (14,false)),(.mv (.t 2))⟩,⟨(some 17),(some (14,false)),(.call 56 [(.t 15),(.t 16)])⟩,⟨(some 18),(some (14,false)),(.un .not (.t 17))⟩,⟨some 19,none,.pick (.t 14) (.c (.bool true)) (.t 18)⟩,⟨some 20,none,.mv (.t 19)⟩,⟨(some 21),(some (20,false)),(.mv (.t 1))⟩,⟨(some 22),(some (20,false)),(.mv (.t 2))⟩,⟨(some 23),(some (20,false)),(.bin .geq false (.t 21) (.t 22))⟩,⟨some 24,none,.pick (.t 20) (.c (.bool true)) (.t 23)⟩,⟨some 25,none,.mv (.t 24)⟩,⟨(some 26),(some (25,false)),(.faddr 0 (.t 3))⟩,⟨(some 27),(some (25,false)),(.load false 1 (.t 26))⟩,⟨(some 28),(some (25,false)),(.mv (.t 1))⟩,⟨(some 29),(some (25,false)),(.iaddr 3 (.t 27) (.t 28))⟩,⟨(some 30),(some (25,false)),(.faddr 0 (.t 29))⟩,⟨(some 31),(some (25,false)),(.load false 1 (.t 30))⟩,⟨(some 32),(some (25,false)),(.faddr 0 (.t 3))⟩,⟨(some 33),(some (25,false)),(.load false 1 (.t 32))⟩,⟨(some 34),(some (25,false)),(.mv (.t 2))⟩,⟨(some 35),(some (25,false)),(.iaddr 3 (.t 33) (.t 34))⟩,⟨(some 36),(some (25,false)),(.faddr 0 (.t 35))⟩,⟨(some 37),(some (25,false)),(.load false 1 (.t 36))⟩,⟨(some 38),(some (25,false)),(.bin .neq true (.t 31) (.t 37))⟩,⟨some 39,none,.pick (.t 25) (.c (.bool true)) (.t 38)⟩]) (.cond (.t 39) (.seq (.reg [⟨some 40,none,.build [.nil] []⟩,⟨none,none,(.store 1 (.t 6) (.t 40))⟩,⟨some 7,none,.mv (.c (.bool false))⟩]) .ret) .skip)) (.seq (.dreg [[],[0],[],[1,0,2],[3,1,0,2],[4,3,1,0,2],[],[6],[],[7,6,8],[9,7,6,8],[10,9,7,6,8],[5,4,3,1,0,2,11,10,9,7,6,8],[12,5,4,3,1,0,2,11,10,9,7,6,8],[13,12,5,4,3,1,0,2,11,10,9,7,6,8],[13,12,5,4,3,1,0,2,11,10,9,7,6,8],[],[16,14,13,12,5,4,3,1,0,2,11,10,9,7,6,8],[15,13,12,5,4,3,1,0,2,11,10,9,7,6,8,17,16,14]] [⟨some 42,none,.faddr 0 (.t 3)⟩,⟨some 43,none,.load false 1 (.t 42)⟩,⟨some 44,none,.mv (.t 1)⟩,⟨some 45,none,.iaddr 3 (.t 43) (.t 44)⟩,⟨some 46,none,.faddr 1 (.t 45)⟩,⟨some 47,none,.load true 2 (.t 46)⟩,⟨some 48,none,.faddr 0 (.t 3)⟩,⟨some 49,none,.load false 1 (.t 48)⟩,⟨some 50,none,.mv (.t 2)⟩,⟨some 51,none,.iaddr 3 (.t 49) (.t 50)⟩,⟨some 52,none,.faddr 1 (.t 51)⟩,⟨some 53,none,.load true 2 (.t 52)⟩,⟨some 54,none,.call 57 [(.t 47),(.t 53)]⟩,⟨some 41,none,.mv (.t 54)⟩,⟨some 55,none,.ext (.t 41) 0⟩,⟨some 56,none,.ext (.t 41) 1⟩,⟨some 8,none,.alloc 76 [.nil]⟩,⟨none,none,(.store 1 (.t 8) (.t 55))⟩,⟨some 9,none,.mv (.t 56)⟩]) (.seq (.seq (.reg [⟨some 57,none,.mv (.t 9)⟩,⟨some 58,none,.un .not (.t 57)⟩]) (.cond (.t 58) (.seq (.reg [⟨some 59,none,.build [.nil] []⟩,⟨none,none,(.store 1 (.t 6) (.t 59))⟩,⟨some 7,none,.mv (.c (.bool false))⟩]) .ret) .skip)) (.seq (.dreg [[],[],[],[1,2],[0,3,1,2],[4,0,3,1,2],[4,0,3,1,2],[5,4,0,3,1,2,6],[6,4,0,3,1,2,7,5]] [⟨some 60,none,.load true 1 (.t 8)⟩,⟨some 61,none,.load true 1 (.t 3)⟩,⟨some 62,none,.mv (.t 2)⟩,⟨some 63,none,.call 59 [(.t 61),(.t 62)]⟩,⟨some 64,none,.call 58 [(.t 60),(.t 63)]⟩,⟨some 65,none,.ext (.t 64) 0⟩,⟨some 66,none,.ext (.t 64) 1⟩,⟨none,none,(.store 1 (.t 6) (.t 65))⟩,⟨some 7,none,.mv (.t 66)⟩]) .ret)))))
theorem DC:Am Tryz.prog 33=some ⟨67,CX,[(.cell 6 true 1),(.tmp 7)]⟩:=by kernel_rfl
theorem CY:modes 33=⟨[],.own [some (73,3),none],none,false⟩:=by unfold modes; rfl
theorem Qcu (c:Cl) (hc:c.ok=true) (i k:Int):E 33 [c.sv,.int .i64 i,.int .i64 k] []=some (.tup [(RK c i k).osv,.bool (Pa c i k)],(RK c i k).obs):=by
  have hl:=Cl.ok_len hc
  have hcs:∀ d:Cl,Cl.osv d=.agg [.ref 0]:=fun d=>rfl
  have hob:∀ d:Cl,Cl.obs d=[.row 73 3 (d.lits.map Lt.o)]:=fun d=>rfl
  have hsv:c.sv=.agg [.arr (c.lits.map Lt.d)]:=rfl
  have h1:=N4 c hc i
  have h2:=N4 c hc k
  rw [hcs,hob]
  rw [hsv] at h1 h2 ⊢
  cases hi:Mn c i with
  | false =>
    obtain ⟨e1,e2⟩:=Jy (Jz (show IU c i k=false by unfold IU; rw [hi]; rfl))
    rw [hi] at h1
    rw [e1,e2]
    refine Ah DC CY (of_decide_eq_true rfl) ?_
    simp (disch:=omega) only [CX,go_sem,Aa,h1,h2,BT]
  | true =>
  rw [hi] at h1
  cases hk:Mn c k with
  | false =>
    obtain ⟨e1,e2⟩:=Jy (Jz (show IU c i k=false by unfold IU; rw [hk,Bool.false_and,Bool.and_false]))
    rw [hk] at h2
    rw [e1,e2]
    refine Ah DC CY (of_decide_eq_true rfl) ?_
    simp (disch:=omega) only [CX,go_sem,Aa,h1,h2,BT]
  | true =>
  rw [hk] at h2
  cases hik:dec (i < k) with
  | false =>
    have hge:dec (k≤i)=true:=A4 (by have:=Qex hik; omega)
    obtain ⟨e1,e2⟩:=Jy (Jz (show IU c i k=false by unfold IU; rw [hik,Bool.false_and,Bool.and_false,Bool.and_false]))
    rw [e1,e2]
    refine Ah DC CY (of_decide_eq_true rfl) ?_
    simp (disch:=omega) only [CX,go_sem,Aa,h1,h2,BT,hge]
  | true =>
  have hge:dec (k≤i)=false:=AC (by have:=Ax.1 hik; omega)
  obtain ⟨p,rfl,hp⟩:=N1 hi
  obtain ⟨q,rfl,hq⟩:=N1 hk
  have hgp:=Aq Lt.d hp
  have hgq:=Aq Lt.d hq
  rw [Lt.d_eq] at hgp hgq
  have tp:=Int.toNat_natCast p
  have tq:=Int.toNat_natCast q
  have ap:=Cl.Dj hc _ (List.getElem_mem hp)
  have aq:=Cl.Dj hc _ (List.getElem_mem hq)
  have lp:=PE hp
  have lq:=PE hq
  cases hpp:c.lits[p].pos == c.lits[q].pos with
  | false =>
    obtain ⟨e1,e2⟩:=Jy (Jz (show IU c p q=false by unfold IU; rw [lp,lq,hpp,Bool.and_false,Bool.and_false,Bool.and_false]))
    rw [e1,e2]
    refine Ah DC CY (of_decide_eq_true rfl) ?_
    simp (disch:=omega) only [CX,go_sem,Aa,h1,h2,BT,hge,hgp,hgq,tp,tq,hpp]
  | true =>
    have hT:=WY (show IU c p q=true by unfold IU; rw [hi,hk,hik,lp,lq,hpp]; rfl)
    rw [lp,lq] at hT
    have h3:=Qct _ _ ap aq
    have hsp:c.lits[p].atom.sv=.agg [.str c.lits[p].atom.name,.arr (c.lits[p].atom.args.map Tm.d)]:=rfl
    have hsq:c.lits[q].atom.sv=.agg [.str c.lits[q].atom.name,.arr (c.lits[q].atom.args.map Tm.d)]:=rfl
    rw [hsp,hsq] at h3
    cases hu:unR c.lits[p].atom c.lits[q].atom with
    | none =>
      rw [hu] at hT h3
      have hus:uTo none=⟨[]⟩:=rfl
      have huo:uOk none=false:=rfl
      have hso:(Sb.mk []).osv=.agg [.ref 0]:=rfl
      have hsb:(Sb.mk []).obs=[.row 139 3 []]:=rfl
      rw [hus,huo,hso,hsb] at h3
      obtain ⟨e1,e2⟩:=Jy hT
      rw [e1,e2]
      refine Ah DC CY (of_decide_eq_true rfl) ?_
      simp (disch:=omega) only [CX,go_sem,Aa,h1,h2,BT,hge,hgp,hgq,tp,tq,hpp,h3,J0]
    | some s =>
      have hs:=Qcq (Tm.Ci ap) (Tm.Ci aq) hu
      rw [hu] at hT h3
      obtain ⟨e1,e2⟩:=WX hT
      rw [tq] at e1 e2
      rw [e1,e2]
      have h4:=Qa8 c (by omega) q (by omega) (by rw [tq]; exact hq)
      have h5:=YC s hs (E8 hs) (c.lits.eraseIdx q) (by have:=TI hc q; omega) (Pb hc q)
      have hus:uTo (some s)=s:=rfl
      have huo:uOk (some s)=true:=rfl
      have hso:s.osv=.agg [.ref 0]:=rfl
      have hsb:s.obs=[.row 139 3 (s.binds.map Bd.o)]:=rfl
      have hss:s.sv=.agg [.arr (s.binds.map Bd.d)]:=rfl
      rw [hus,huo,hso,hsb] at h3
      rw [hsv,tq] at h4
      rw [hcs,hob,hss] at h5
      refine Ah DC CY (of_decide_eq_true rfl) ?_
      simp (disch:=omega) only [CX,go_sem,Aa,h1,h2,BT,hge,hgp,hgq,tp,tq,hpp,h3,h4,h5,Bd.erss,Bd.fus,Bd.noss,Lt.Qep,Lt.Qeq,J0,K8,EA]
def It:SC:=(.seq (.reg [⟨some 3,none,.boxv 28 1 (.t 0)⟩,⟨some 6,none,.alloc 28 [.nil]⟩,⟨some 7,none,.mv (.c (.bool false))⟩]) (.seq (.seq (.reg [⟨some 8,none,.load true 1 (.t 3)⟩,⟨some 9,none,.call 32 [(.t 8)]⟩,⟨some 10,none,.un .not (.t 9)⟩]) (.cond (.t 10) (.seq (.reg [⟨some 11,none,.build [.nil] []⟩,⟨none,none,(.store 1 (.t 6) (.t 11))⟩,⟨some 7,none,.mv (.c (.bool false))⟩]) .ret) .skip)) (.seq (.reg [⟨some 12,none,.load true 1 (.t 3)⟩,⟨some 13,none,.mv (.t 1)⟩,⟨some 14,none,.mv (.t 2)⟩,⟨some 15,none,.call 33 [(.t 12),(.t 13),(.t 14)]⟩,⟨some 16,none,.ext (.t 15) 0⟩,⟨some 17,none,.ext (.t 15) 1⟩,⟨none,none,(.store 1 (.t 6) (.t 16))⟩,⟨some 7,none,.mv (.t 17)⟩]) .ret)))
theorem LL:Am Tryz.prog 11=some ⟨18,It,[(.cell 6 true 1),(.tmp 7)]⟩:=by kernel_rfl
theorem DD:modes 11=⟨[],.own [some (73,3),none],none,false⟩:=by unfold modes; rfl
theorem UT (c:Cl) (hc:c.tame) (i k:Int):E 11 [c.sv,.int .i64 i,.int .i64 k] []=some (.tup [(S4 c i k).osv,.bool (YB c i k)],(S4 c i k).obs):=by
  have hsv:∀ d:Cl,d.sv=.agg [.arr (d.lits.map Lt.d)]:=fun d=>rfl
  have hcs:∀ d:Cl,Cl.osv d=.agg [.ref 0]:=fun d=>rfl
  have hob:∀ d:Cl,Cl.obs d=[.row 73 3 (d.lits.map Lt.o)]:=fun d=>rfl
  have h1:=Rs c hc
  rw [hsv] at h1
  rw [hsv,hcs,hob]
  cases hr:c.ok&&c.norm with
  | false =>
    rw [hr] at h1
    obtain ⟨e1,e2⟩:=Qd2 (i:=i) (k:=k) hr
    rw [e1,e2]
    refine Ah LL DD (of_decide_eq_true rfl) ?_
    simp (disch:=omega) only [It,go_sem,Aa,h1,CK]
  | true =>
    rw [hr] at h1
    obtain ⟨e1,e2⟩:=Qcs (i:=i) (k:=k) hr
    rw [Bool.and_eq_true] at hr
    have h2:=Qcu c hr.1 i k
    rw [hsv,hcs,hob] at h2
    rw [e1,e2]
    refine Ah LL DD (of_decide_eq_true rfl) ?_
    simp (disch:=omega) only [It,go_sem,Aa,h1,h2,CK,CY]
def Fi:SC:=(.seq (.reg [⟨some 2,none,.boxv 71 2 (.t 0)⟩,⟨some 4,none,.mv (.c .nil)⟩]) (.seq (.seq (.reg [⟨some 6,none,.faddr 0 (.t 2)⟩,⟨some 7,none,.load false 1 (.t 6)⟩,⟨some 8,none,.call 77 [(.t 7)]⟩]) (.cond (.t 8) (.seq (.seq (.reg [⟨some 9,none,.mv (.t 1)⟩,⟨some 10,none,.faddr 0 (.t 2)⟩,⟨some 11,none,.load false 1 (.t 10)⟩,⟨some 12,none,.call 113 [(.t 9),(.t 11)]⟩]) (.cond (.t 12) (.seq (.reg [⟨some 13,none,.mv (.t 1)⟩,⟨some 4,none,.mv (.t 13)⟩]) .ret) .skip)) (.seq (.reg [⟨some 14,none,.mv (.t 1)⟩,⟨some 15,none,.faddr 0 (.t 2)⟩,⟨some 16,none,.load false 1 (.t 15)⟩,⟨(some 17),none,(.mkrow 9 1 [(.str ⟨#[]⟩)] 1 [(0,(.t 16))])⟩,⟨(some 18),none,(.append 9 1 16 [(.str ⟨#[]⟩)] (.t 14) (.t 17))⟩,⟨some 4,none,.mv (.t 18)⟩]) .ret)) .skip)) (.seq (.seq (.reg [⟨some 5,none,.mv (.c (.int .i64 0))⟩]) (.block 0 (.loop [0,1,1,0,0,1,0,0,0,0,0,0,0,0,0,0,0,0,0,0,0,0,0,0,0,0,0,0,0,0,0,0,0,0] (.seq (.seq (.reg [⟨some 19,none,.mv (.t 5)⟩,⟨some 20,none,.faddr 1 (.t 2)⟩,⟨some 21,none,.load false 1 (.t 20)⟩,⟨some 22,none,.len false (.t 21)⟩,⟨some 23,none,.bin .lss false (.t 19) (.t 22)⟩]) (.cond (.t 23) .skip (.exit 0))) (.seq (.block 1 (.reg [⟨some 26,none,.faddr 1 (.t 2)⟩,⟨some 27,none,.load false 1 (.t 26)⟩,⟨some 28,none,.mv (.t 5)⟩,⟨some 29,none,.iaddr 2 (.t 27) (.t 28)⟩,⟨some 30,none,.load true 2 (.t 29)⟩,⟨some 31,none,.mv (.t 1)⟩,⟨some 32,none,.call 108 [(.t 30),(.t 31)]⟩,⟨some 1,none,.mv (.t 32)⟩])) (.reg [⟨some 24,none,.mv (.t 5)⟩,⟨some 25,none,.bin .add false (.t 24) (.c (.int .i64 1))⟩,⟨some 5,none,.mv (.t 25)⟩])))))) (.seq (.reg [⟨some 33,none,.mv (.t 1)⟩,⟨some 4,none,.mv (.t 33)⟩]) .ret))))
theorem Ht:Am Tryz.prog 108=some ⟨34,Fi,[(.tmp 4)]⟩:=by kernel_rfl
theorem Ec:modes 108=⟨[false,true],.asis,none,false⟩:=by unfold modes; rfl
def KP:SC:=(.seq (.reg [⟨some 1,none,.boxv 28 1 (.t 0)⟩,⟨some 2,none,.mv (.c .nil)⟩]) (.seq (.reg [⟨(some 5),none,(.mkrow 9 1 [(.str ⟨#[]⟩)] 0 [])⟩,⟨some 3,none,.mv (.t 5)⟩]) (.seq (.seq (.reg [⟨some 4,none,.mv (.c (.int .i64 0))⟩]) (.block 0 (.loop [0,1,0,1,1,0,0,0,0,0,0,0,0,0,0,0,0,0,0,0,0,0] (.seq (.seq (.reg [⟨some 6,none,.mv (.t 4)⟩,⟨some 7,none,.faddr 0 (.t 1)⟩,⟨some 8,none,.load false 1 (.t 7)⟩,⟨some 9,none,.len false (.t 8)⟩,⟨some 10,none,.bin .lss false (.t 6) (.t 9)⟩]) (.cond (.t 10) .skip (.exit 0))) (.seq (.block 1 (.reg [⟨some 13,none,.faddr 0 (.t 1)⟩,⟨some 14,none,.load false 1 (.t 13)⟩,⟨some 15,none,.mv (.t 4)⟩,⟨some 16,none,.iaddr 3 (.t 14) (.t 15)⟩,⟨some 17,none,.faddr 1 (.t 16)⟩,⟨some 18,none,.load true 2 (.t 17)⟩,⟨some 19,none,.mv (.t 3)⟩,⟨some 20,none,.call 108 [(.t 18),(.t 19)]⟩,⟨some 3,none,.mv (.t 20)⟩])) (.reg [⟨some 11,none,.mv (.t 4)⟩,⟨some 12,none,.bin .add false (.t 11) (.c (.int .i64 1))⟩,⟨some 4,none,.mv (.t 12)⟩])))))) (.seq (.reg [⟨some 21,none,.mv (.t 3)⟩,⟨some 2,none,.mv (.t 21)⟩]) .ret))))
theorem RL:Am Tryz.prog 74=some ⟨22,KP,[(.tmp 2)]⟩:=by kernel_rfl
theorem Ed:modes 74=⟨[],.asis,none,false⟩:=by unfold modes; rfl
def HW:SC:=(.seq (.reg [⟨some 1,none,.boxv 28 1 (.t 0)⟩,⟨some 2,none,.mv (.c (.bool false))⟩]) (.seq (.reg [⟨some 5,none,.load true 1 (.t 1)⟩,⟨some 6,none,.call 74 [(.t 5)]⟩,⟨some 3,none,.mv (.t 6)⟩]) (.seq (.seq (.reg [⟨some 4,none,.mv (.c (.int .i64 0))⟩]) (.block 0 (.loop [0,0,0,1,1,0,0,0,0,0,0,0,0,0,0,0,0,0,0,0,0] (.seq (.seq (.reg [⟨some 7,none,.mv (.t 4)⟩,⟨some 8,none,.mv (.t 3)⟩,⟨some 9,none,.len false (.t 8)⟩,⟨some 10,none,.bin .lss false (.t 7) (.t 9)⟩]) (.cond (.t 10) .skip (.exit 0))) (.seq (.block 1 (.seq (.dreg [[],[],[0,1],[2,0,1],[],[4],[5,4],[3,2,0,1,6,5,4]] [⟨some 13,none,.mv (.t 3)⟩,⟨some 14,none,.mv (.t 4)⟩,⟨some 15,none,.iaddr 1 (.t 13) (.t 14)⟩,⟨some 16,none,.load false 1 (.t 15)⟩,⟨some 17,none,.mv (.t 4)⟩,⟨some 18,none,.call 75 [(.t 17)]⟩,⟨(some 19),none,(.bin .add false (.c (.str ⟨#[88]⟩)) (.t 18))⟩,⟨some 20,none,.bin .neq false (.t 16) (.t 19)⟩]) (.cond (.t 20) (.seq (.reg [⟨some 2,none,.mv (.c (.bool false))⟩]) .ret) .skip))) (.reg [⟨some 11,none,.mv (.t 4)⟩,⟨some 12,none,.bin .add false (.t 11) (.c (.int .i64 1))⟩,⟨some 4,none,.mv (.t 12)⟩])))))) (.seq (.reg [⟨some 2,none,.mv (.c (.bool true))⟩]) .ret))))
theorem N5:Am Tryz.prog 48=some ⟨21,HW,[(.tmp 2)]⟩:=by kernel_rfl
theorem BU:modes 48=⟨[],.asis,none,false⟩:=by unfold modes; rfl
def Gu:SC:=(.seq (.reg [⟨some 1,none,.boxv 28 1 (.t 0)⟩,⟨some 2,none,.mv (.c (.bool false))⟩]) (.seq (.reg [⟨some 3,none,.load true 1 (.t 1)⟩,⟨some 4,none,.call 47 [(.t 3)]⟩,⟨some 5,none,.mv (.t 4)⟩,⟨(some 6),(some (5,true)),(.load true 1 (.t 1))⟩,⟨(some 7),(some (5,true)),(.call 48 [(.t 6)])⟩,⟨some 8,none,.pick (.t 5) (.t 7) (.c (.bool false))⟩,⟨some 2,none,.mv (.t 8)⟩]) .ret))
theorem JI:Am Tryz.prog 29=some ⟨9,Gu,[(.tmp 2)]⟩:=by kernel_rfl
theorem EB:modes 29=⟨[],.asis,none,false⟩:=by unfold modes; rfl
abbrev QdX (x:Tm):Prop:=∀ l:List ByteArray,l.length+x.nodes≤1048576→E 108 [x.sv,.ref 0] [.row 9 1 (l.map fun s=>[OT.str s])]=some ((bif dec (l.length < (C1 l x.vs).length) then .ref 1 else .ref 0),(bif dec (l.length < (C1 l x.vs).length) then [.gone,.row 9 1 ((C1 l x.vs).map fun s=>[OT.str s])] else [.row 9 1 ((C1 l x.vs).map fun s=>[OT.str s])]))
theorem YD (x:Tm) (ih:∀ y∈x.args,QdX y):QdX x:=by
  intro l hn
  have hl:=Tm.AB x.args
  have hne:=Tm.Ao x
  have hvs:=Tm.Gx x
  have hv:=An x.name
  cases hvv:At x.name with
  | true =>
    rw [hvv] at hvs hv
    have h1:=Qco l x.name (by omega)
    rw [hvs]
    cases hm:dec (x.name∈l) with
    | true =>
      have e:C1 l [x.name]=l:=by simp only [C1,List.foldl_cons,List.foldl_nil,Lu,hm,cond_true]
      have hg:dec (l.length < l.length)=false:=AC (by omega)
      rw [hm] at h1
      simp only [cond_true,e,hg]
      refine Ah Ht Ec (of_decide_eq_true rfl) ?_
      simp (disch:=omega) only [Fi,go_sem,Aa,hv,h1,Af,Gb]
    | false =>
      have e:C1 l [x.name]=l++[x.name]:=by simp only [C1,List.foldl_cons,List.foldl_nil,Lu,hm,cond_false]
      have hg:l.length < (l++[x.name]).length:=by simp
      rw [hm] at h1
      simp only [cond_true,e,A4 hg]
      refine Ah Ht Ec (of_decide_eq_true rfl) ?_
      simp (disch:=omega) only [Fi,go_sem,Aa,hv,h1,Af,Gb]
      first | done | simp only [List.map_append,List.map_cons,List.map_nil]
  | false =>
    rw [hvv] at hvs hv
    simp only [cond_false] at hvs
    rw [hvs]
    have hgl:dec (l.length < l.length)=false:=AC (by omega)
    refine Ah Ht Ec (of_decide_eq_true rfl) ?_
    simp (disch:=omega) only [Fi,go_sem,Aa,hv,Af]
    refine As (α:=Int × (List ByteArray)) (fun a=>⟨slots 34 0 [(1,(bif dec (l.length < (a.2).length) then .ref 1 else .ref 0)),(2,(bif dec (l.length < (a.2).length) then .ptr 2 0 else .ptr 1 0)),(5,.int .i64 (a.1))],(bif dec (l.length < (a.2).length) then [.gone,.row 9 1 ((a.2).map fun s=>[OT.str s]),.box 71 [.str x.name,.arr (x.args.map Tm.d)]] else [.row 9 1 ((a.2).map fun s=>[OT.str s]),.box 71 [.str x.name,.arr (x.args.map Tm.d)]])⟩) (fun a=>∃ k:Nat,a.1=k∧k≤(x.args).length∧C1 (a.2) (Tm.vsL (x.args.drop k))=C1 l (Tm.vsL x.args)∧(a.2).length+Tm.Bi (x.args.drop k)≤1048576∧l.length≤(a.2).length) (fun a=>(x.args).length - (a.1).toNat) (0,l) ⟨0,rfl,Nat.zero_le _,by rw [List.drop_zero],by rw [List.drop_zero]; dsimp only; omega,Nat.le_refl _⟩ (by simp (disch:=omega) only [go_sem,Aa,hgl]) ?_
    rintro ⟨i,acc⟩ ⟨k,hi,hk,hR⟩
    dsimp only at hi hR
    have hni:i.toNat=k:=by omega
    have hni1:(i+1).toNat=k+1:=by omega
    rcases Nat.lt_or_ge k (x.args).length with hlt | hge
    · have hg:=Aq Tm.d hlt
      rw [Tm.d_eq] at hg
      obtain ⟨hR1,hR2,hR3⟩:=hR
      rw [List.drop_eq_getElem_cons hlt,Tm.vsL,Nc] at hR1
      rw [List.drop_eq_getElem_cons hlt,Tm.Bi] at hR2
      have hc:=ih x.args[k] (List.getElem_mem hlt) acc (by omega)
      have hlen:=IH x.args[k].vs acc
      have hgr:=Om x.args[k].vs acc
      have hvl:=Tm.vs_len x.args[k]
      have has:x.args[k].sv=.agg [.str x.args[k].name,.arr (x.args[k].args.map Tm.d)]:=rfl
      rw [has] at hc
      obtain ⟨acc2,ha2⟩:∃ a,a=C1 acc x.args[k].vs:=⟨_,rfl⟩
      rw [← ha2] at hc hlen hgr hR1
      rcases Nat.lt_or_ge l.length acc.length with q1 | q1 <;> rcases Nat.lt_or_ge acc.length acc2.length with q2 | q2
      all_goals
        first
          | rw [A4 q2] at hc
          | rw [AC (Nat.not_lt.2 q2)] at hc
        simp only [cond_true,cond_false] at hc
        simp (disch:=omega) only [go_sem,Aa,hni,hg,hc,Ec]
        refine ⟨(i+1,acc2),⟨k+1,by dsimp only; omega,hlt,hR1,by dsimp only; omega,by dsimp only; omega⟩,by dsimp only; omega,?_⟩
        first | done | simp (disch:=omega) only [go_sem,Aa]
    · rw [List.drop_eq_nil_of_le hge,Tm.vsL] at hR
      obtain ⟨hR1,hR2,hR3⟩:=hR
      have hR1:acc=C1 l (Tm.vsL x.args):=hR1
      rw [← hR1]
      rcases Nat.lt_or_ge l.length acc.length with q1 | q1
      · simp (disch:=omega) only [go_sem,Aa,hni]
      · simp (disch:=omega) only [go_sem,Aa,hni]
theorem TJ (x:Tm):QdX x:=YD x fun y hy=>TJ y
termination_by SizeOf.sizeOf x
decreasing_by exact Tm.Az hy
theorem TK (c:Cl) (hc:c.ok=true):E 74 [c.sv] []=some (.ref 0,[.row 9 1 (c.ns.map fun s=>[OT.str s])]):=by
  have hl:=Cl.ok_len hc
  have hsv:c.sv=.agg [.arr (c.lits.map Lt.d)]:=rfl
  have hns:c.ns=C1 [] (Lt.vsL c.lits):=rfl
  rw [hsv,hns]
  refine Ah RL Ed (of_decide_eq_true rfl) ?_
  simp (disch:=omega) only [KP,go_sem,Aa]
  refine As (α:=Int × (List ByteArray)) (fun a=>⟨slots 22 0 [(1,.ptr 0 0),(3,.ref 1),(4,.int .i64 (a.1))],[.box 28 [.arr (c.lits.map Lt.d)],.row 9 1 ((a.2).map fun s=>[OT.str s])]⟩) (fun a=>∃ k:Nat,a.1=k∧k≤(c.lits).length∧C1 (a.2) (Lt.vsL (c.lits.drop k))=C1 [] (Lt.vsL c.lits)∧(a.2).length≤30 * k) (fun a=>(c.lits).length - (a.1).toNat) (0,[]) ⟨0,rfl,Nat.zero_le _,by rw [List.drop_zero],Nat.le_refl _⟩ (by simp (disch:=omega) only [go_sem,Aa]) ?_
  rintro ⟨i,acc⟩ ⟨k,hi,hk,hR⟩
  dsimp only at hi hR
  have hni:i.toNat=k:=by omega
  have hni1:(i+1).toNat=k+1:=by omega
  rcases Nat.lt_or_ge k (c.lits).length with hlt | hge
  · have hg:=Aq Lt.d hlt
    rw [Lt.d_eq] at hg
    obtain ⟨hR1,hR2⟩:=hR
    rw [List.drop_eq_getElem_cons hlt,Lt.vsL,Nc] at hR1
    have hnn:=Tm.CD (Cl.Ju hc hlt)
    have hcl:=TJ c.lits[k].atom acc (by omega)
    have has:c.lits[k].atom.sv=.agg [.str c.lits[k].atom.name,.arr (c.lits[k].atom.args.map Tm.d)]:=rfl
    rw [has] at hcl
    have hlen:=IH c.lits[k].atom.vs acc
    have hvl:=Tm.vs_len c.lits[k].atom
    obtain ⟨acc2,ha2⟩:∃ a,a=C1 acc c.lits[k].atom.vs:=⟨_,rfl⟩
    rw [← ha2] at hcl hlen hR1
    rcases Nat.lt_or_ge acc.length acc2.length with q2 | q2
    all_goals
      first
        | rw [A4 q2] at hcl
        | rw [AC (Nat.not_lt.2 q2)] at hcl
      simp only [cond_true,cond_false] at hcl
      simp (disch:=omega) only [go_sem,Aa,hni,hg,hcl,Ec]
      refine ⟨(i+1,acc2),⟨k+1,by dsimp only; omega,hlt,hR1,by dsimp only; omega⟩,by dsimp only; omega,?_⟩
      first | trivial | rfl | exact ⟨rfl,rfl⟩
  · rw [List.drop_eq_nil_of_le hge,Lt.vsL] at hR
    obtain ⟨hR1,hR2⟩:=hR
    have hR1:acc=_:=hR1
    rw [← hR1]
    simp (disch:=omega) only [go_sem,Aa,hni]
theorem J1 (c:Cl) (hc:c.ok=true):E 48 [c.sv] []=some (.bool c.norm,[]):=by
  have h1:=TK c hc
  have hn:=Cl.Ro hc
  have hcs:c.sv=.agg [.arr (c.lits.map Lt.d)]:=rfl
  obtain ⟨ns,hns⟩:∃ ns,ns=c.ns:=⟨_,rfl⟩
  have hnm:c.norm=dec (Rr ns):=by unfold Cl.norm; rw [hns]
  rw [← hns] at hn h1
  rw [hnm]
  refine Ah N5 BU (of_decide_eq_true rfl) ?_
  simp (disch:=omega) only [HW,go_sem,Aa,h1,Ed]
  refine As (α:=Int) (fun a=>⟨slots 21 0 [(3,.ref 0),(4,.int .i64 a)],[.row 9 1 (ns.map fun s=>[OT.str s])]⟩) (fun a=>∃ k:Nat,a=k∧k≤(ns).length∧∀ (j:Nat),j < k→∀ hj:j < ns.length,ns[j]=pre Sp (j:Nat)) (fun a=>(ns).length - (a).toNat) 0 ⟨0,rfl,Nat.zero_le _,fun j hj=>absurd hj (Nat.not_lt_zero _)⟩ (by simp (disch:=omega) only [go_sem,Aa]) ?_
  rintro i ⟨k,hi,hk,hR⟩
  have hni:i.toNat=k:=by omega
  have hni1:(i+1).toNat=k+1:=by omega
  rcases Nat.lt_or_ge k (ns).length with hlt | hge
  · have hg:=Aq (fun s=>[OT.str s]) hlt
    have hit:=UH i (by omega) (by omega)
    have hz:=GD (show 0≤i by omega) (show i≤1099511627776 by omega)
    have hb:dec ((#[88]:Array UInt8).size+(G5 i).size≤9223372036854775807)=true:=A4 (by simp; omega)
    by_cases he:ns[k]=pre Sp (k:Nat)
    · have he':dec (ns[k]=(⟨#[88]⟩:ByteArray)++G5 i)=true:=A4 (by rw [he,hi]; rfl)
      simp (disch:=omega) only [go_sem,Aa,hni,hg,hit,hb,he',Dw]
      refine ⟨i+1,⟨k+1,by omega,hlt,fun j hj hjl=>?_⟩,by omega,by first | trivial | rfl⟩
      rcases Nat.lt_or_ge j k with h2 | h2
      · exact hR j h2 hjl
      · obtain rfl:j=k:=by omega
        exact he
    · have he':dec (ns[k]=(⟨#[88]⟩:ByteArray)++G5 i)=false:=AC (fun e=>he (by rw [e,hi]; rfl))
      have hno:dec (Rr ns)=false:=AC fun h=>he (h k hlt)
      rw [hno]
      simp (disch:=omega) only [go_sem,Aa,hni,hg,hit,hb,he',Dw]
  · have hy:dec (Rr ns)=true:=A4 fun j hj=>hR j (by omega) hj
    rw [hy]
    simp (disch:=omega) only [go_sem,Aa,hni]
theorem YE (c:Cl) (hc:c.tame):E 29 [c.sv] []=some (.bool (c.ok&&c.norm),[]):=by
  have h1:=QT c hc
  cases hv:c.ok with
  | false =>
    rw [hv] at h1
    refine Ah JI EB (of_decide_eq_true rfl) ?_
    simp (disch:=omega) only [Gu,go_sem,Aa,h1,B8]
  | true =>
    rw [hv] at h1
    have h2:=J1 c hv
    refine Ah JI EB (of_decide_eq_true rfl) ?_
    simp (disch:=omega) only [Gu,go_sem,Aa,h1,h2,B8,BU]
def Gv:SC:=(.seq (.reg [⟨some 3,none,.boxv 71 2 (.t 0)⟩,⟨(some 6),none,(.alloc 71 [(.str ⟨#[]⟩),.nil])⟩]) (.seq (.seq (.reg [⟨some 10,none,.faddr 0 (.t 3)⟩,⟨some 11,none,.load false 1 (.t 10)⟩,⟨some 12,none,.call 77 [(.t 11)]⟩]) (.cond (.t 12) (.seq (.seq (.reg [⟨some 7,none,.mv (.c (.int .i64 0))⟩]) (.block 0 (.loop [0,1,1,1,0,0,1,1,0,0,0,0,0,0,0,0,0,0,0,0,0,0,0,0,0,0,0,0,0,0,0,0,0,0,0,0,0,0,0,0,0,0,0,0,0,0,0,0,0,0,0,0,0,0,0,0,0,0] (.seq (.seq (.reg [⟨some 13,none,.mv (.t 7)⟩,⟨some 14,none,.mv (.t 1)⟩,⟨some 15,none,.len false (.t 14)⟩,⟨some 16,none,.bin .lss false (.t 13) (.t 15)⟩]) (.cond (.t 16) .skip (.exit 0))) (.seq (.block 1 (.seq (.dreg [[],[],[0,1],[2,0,1],[],[4],[3,2,0,1,5,4]] [⟨some 19,none,.mv (.t 1)⟩,⟨some 20,none,.mv (.t 7)⟩,⟨some 21,none,.iaddr 1 (.t 19) (.t 20)⟩,⟨some 22,none,.load false 1 (.t 21)⟩,⟨some 23,none,.faddr 0 (.t 3)⟩,⟨some 24,none,.load false 1 (.t 23)⟩,⟨some 25,none,.bin .eql false (.t 22) (.t 24)⟩]) (.cond (.t 25) (.seq (.reg [⟨some 26,none,.mv (.t 2)⟩,⟨some 27,none,.mv (.t 7)⟩,⟨some 28,none,.call 75 [(.t 27)]⟩,⟨some 29,none,.bin .add false (.t 26) (.t 28)⟩,⟨(some 30),none,(.build [(.str ⟨#[]⟩),.nil] [(0,(1,(.t 29)))])⟩,⟨none,none,(.store 2 (.t 6) (.t 30))⟩]) .ret) .skip))) (.reg [⟨some 17,none,.mv (.t 7)⟩,⟨some 18,none,.bin .add false (.t 17) (.c (.int .i64 1))⟩,⟨some 7,none,.mv (.t 18)⟩])))))) (.seq (.reg [⟨some 31,none,.faddr 0 (.t 3)⟩,⟨some 32,none,.load false 1 (.t 31)⟩,⟨(some 33),none,(.build [(.str ⟨#[]⟩),.nil] [(0,(1,(.t 32)))])⟩,⟨none,none,(.store 2 (.t 6) (.t 33))⟩]) .ret)) .skip)) (.seq (.reg [⟨some 34,none,.faddr 0 (.t 3)⟩,⟨some 35,none,.load false 1 (.t 34)⟩,⟨(some 36),none,(.build [(.str ⟨#[]⟩),.nil] [(0,(1,(.t 35)))])⟩,⟨(some 8),none,(.alloc 71 [(.str ⟨#[]⟩),.nil])⟩,⟨none,none,(.store 2 (.t 8) (.t 36))⟩]) (.seq (.seq (.reg [⟨some 9,none,.mv (.c (.int .i64 0))⟩]) (.block 2 (.loop [0,1,1,1,0,0,1,0,1,1,0,0,0,0,0,0,0,0,0,0,0,0,0,0,0,0,0,0,0,0,0,0,0,0,0,0,0,0,0,0,0,0,0,0,0,0,0,0,0,0,0,0,0,0,0,0,0,0] (.seq (.seq (.reg [⟨some 37,none,.mv (.t 9)⟩,⟨some 38,none,.faddr 1 (.t 3)⟩,⟨some 39,none,.load false 1 (.t 38)⟩,⟨some 40,none,.len false (.t 39)⟩,⟨some 41,none,.bin .lss false (.t 37) (.t 40)⟩]) (.cond (.t 41) .skip (.exit 2))) (.seq (.block 3 (.dreg [[],[0],[],[2],[],[3,2,4],[5,3,2,4],[],[],[6,5,3,2,4,7,8],[9,6,5,3,2,4,7,8],[1,0,10,9,6,5,3,2,4,7,8],[0,1,2,3,4,5,6,7,8,9,10,11],[12,0,1,2,3,4,5,6,7,8,9,10,11]] [⟨some 44,none,.faddr 1 (.t 8)⟩,⟨some 45,none,.load false 1 (.t 44)⟩,⟨some 46,none,.faddr 1 (.t 3)⟩,⟨some 47,none,.load false 1 (.t 46)⟩,⟨some 48,none,.mv (.t 9)⟩,⟨some 49,none,.iaddr 2 (.t 47) (.t 48)⟩,⟨some 50,none,.load true 2 (.t 49)⟩,⟨some 51,none,.mv (.t 1)⟩,⟨some 52,none,.mv (.t 2)⟩,⟨some 53,none,.call 142 [(.t 50),(.t 51),(.t 52)]⟩,⟨(some 54),none,(.mkrow 71 2 [(.str ⟨#[]⟩),.nil] 1 [(0,(.t 53))])⟩,⟨(some 55),none,(.append 71 2 40 [(.str ⟨#[]⟩),.nil] (.t 45) (.t 54))⟩,⟨some 56,none,.faddr 1 (.t 8)⟩,⟨none,none,(.store 1 (.t 56) (.t 55))⟩])) (.reg [⟨some 42,none,.mv (.t 9)⟩,⟨some 43,none,.bin .add false (.t 42) (.c (.int .i64 1))⟩,⟨some 9,none,.mv (.t 43)⟩])))))) (.seq (.reg [⟨some 57,none,.load true 2 (.t 8)⟩,⟨none,none,(.store 2 (.t 6) (.t 57))⟩]) .ret)))))
theorem JJ:Am Tryz.prog 142=some ⟨58,Gv,[(.cell 6 true 2)]⟩:=by kernel_rfl
theorem D9:modes 142=⟨[],.frz,none,false⟩:=by unfold modes; rfl
abbrev RnS (ns:List ByteArray) (p:ByteArray) (x:Tm):Prop:=E 142 [x.sv,.arr (ns.map fun s=>[D.str s]),.str p] []=some ((x.rn (Ho p ns)).sv,[])
theorem Pc (ns:List ByteArray) (p:ByteArray) (hp:p.size≤1048576) (hnd:ns.Nodup) (hnl:ns.length≤1048576) (hnv:∀ s∈ns,At s=true) (x:Tm) (hx:At x.name=true→x.args=[]) (hn:x.args.length≤1099511627776) (ih:∀ y∈x.args,RnS ns p y):RnS ns p x:=by
  unfold RnS
  have hv:=An x.name
  obtain ⟨e,he⟩:∃ e,e=Ho p ns:=⟨_,rfl⟩
  rw [← he]
  cases hb:At x.name with
  | true =>
    rw [hb] at hv
    have hx0:=hx hb
    refine Ah JJ D9 (of_decide_eq_true rfl) ?_
    simp (disch:=omega) only [Gv,go_sem,Aa,hv,Af]
    refine As (α:=Int) (fun a=>⟨slots 58 0 [(1,.arr (ns.map fun s=>[D.str s])),(2,.str p),(3,.ptr 0 0),(6,.ptr 1 0),(7,.int .i64 a)],[.box 71 [.str x.name,.arr (x.args.map Tm.d)],.box 71 [.str ⟨#[]⟩,.nil]]⟩) (fun a=>∃ k:Nat,a=k∧k≤(ns).length∧∀ (j:Nat),j < k→∀ hj:j < ns.length,¬ ns[j]=x.name) (fun a=>(ns).length - (a).toNat) 0 ⟨0,rfl,Nat.zero_le _,fun j hj=>absurd hj (Nat.not_lt_zero _)⟩ (by simp (disch:=omega) only [go_sem,Aa]) ?_
    rintro i ⟨k,hi,hk,hR⟩
    have hni:i.toNat=k:=by omega
    have hni1:(i+1).toNat=k+1:=by omega
    rcases Nat.lt_or_ge k (ns).length with hlt | hge
    · have hg:=Aq (fun s=>[D.str s]) hlt
      by_cases hq:ns[k]=x.name
      · have hq1:=eq_true hq
        have hq2:=A4 hq
        have hit:=UH i (by omega) (by omega)
        have hz:=GD (show 0≤i by omega) (show i≤1099511627776 by omega)
        have hbd:dec (p.size+(G5 i).size≤9223372036854775807)=true:=A4 (by omega)
        have e1:x.rn e=.mk (p++G5 i) []:=by
          rw [Tm.Rn,hx0,← hq,he,Wx p hnd hlt,hi]; rfl
        have e2:(Tm.mk (p++G5 i) []).sv=.agg [.str (p++G5 i),.arr []]:=rfl
        rw [e1,e2]
        simp (disch:=omega) only [go_sem,Aa,hni,hg,hq1,hq2,hit,hbd,Dw]
      · have hq1:=eq_false hq
        have hq2:=AC hq
        simp (disch:=omega) only [go_sem,Aa,hni,hg,hq1,hq2,Dw]
        refine ⟨i+1,⟨k+1,by omega,hlt,fun j hj hjl=>?_⟩,by omega,by first | trivial | rfl⟩
        rcases Nat.lt_or_ge j k with h2 | h2
        · exact hR j h2 hjl
        · obtain rfl:j=k:=by omega
          exact hq
    · have hno:x.name ∉ ns:=fun h=>by
        obtain ⟨j,hj,h⟩:=List.getElem_of_mem h
        exact hR j (by omega) hj h
      have e1:x.rn e=.mk x.name []:=by rw [Tm.Rn,hx0,he,Oo p hno]; rfl
      have e2:(Tm.mk x.name []).sv=.agg [.str x.name,.arr []]:=rfl
      rw [e1,e2]
      simp (disch:=omega) only [go_sem,Aa,hni]
  | false =>
    rw [hb] at hv
    have hen:e x.name=none:=by rw [he]; exact Oo p fun h=>by have:=hnv _ h; rw [hb] at this; cases this
    have e1:x.rn e=.mk x.name (x.args.map (Tm.rn e)):=by
      rw [Tm.Rn,hen]
      cases x.args.isEmpty <;> rfl
    have e2:(Tm.mk x.name (x.args.map (Tm.rn e))).sv=.agg [.str x.name,.arr ((x.args.map (Tm.rn e)).map Tm.d)]:=rfl
    rw [e1,e2]
    have h10:((1:Int)=0)=False:=by simp
    have hfu:=Tm.MU (x.args.map (Tm.rn e))
    have her:=Tm.U4 (x.args.map (Tm.rn e))
    refine Ah JJ D9 (of_decide_eq_true rfl) ?_
    simp (disch:=omega) only [Gv,go_sem,Aa,hv,Af]
    refine As (α:=Int) (fun a=>⟨slots 58 0 [(1,.arr (ns.map fun s=>[D.str s])),(2,.str p),(3,.ptr 0 0),(6,.ptr 1 0),(8,.ptr 2 0),(9,.int .i64 a)],(if a=0 then [.box 71 [.str x.name,.arr (x.args.map Tm.d)],.box 71 [.str ⟨#[]⟩,.nil],.box 71 [.str x.name,.nil]] else [.box 71 [.str x.name,.arr (x.args.map Tm.d)],.box 71 [.str ⟨#[]⟩,.nil],.box 71 [.str x.name,.ref 3],.row 71 2 (((x.args.map (Tm.rn e)).take a.toNat).map Tm.osh)])⟩) (fun a=>∃ k:Nat,a=k∧k≤(x.args).length) (fun a=>(x.args).length - (a).toNat) 0 ⟨0,rfl,Nat.zero_le _⟩ (by simp (disch:=omega) only [go_sem,Aa,eq_self,if_true]) ?_
    rintro i ⟨k,hi,hk⟩
    have hni:i.toNat=k:=by omega
    have hni1:(i+1).toNat=k+1:=by omega
    rcases Nat.lt_or_ge k (x.args).length with hlt | hge
    · have hg:=Aq Tm.d hlt
      rw [Tm.d_eq] at hg
      have hc:=ih x.args[k] (List.getElem_mem hlt)
      unfold RnS at hc
      rw [← he] at hc
      have hlm:k < (x.args.map (Tm.rn e)).length:=by rw [List.length_map]; exact hlt
      have hs:=D4 Tm.osh hlm
      rw [Tm.QU,List.getElem_map] at hs
      rcases Nat.eq_zero_or_pos k with h0 | h0
      · subst h0
        obtain rfl:i=0:=hi
        rw [List.take_zero,List.map_nil,List.nil_append] at hs
        simp (disch:=omega) only [go_sem,Aa,hni,hg,hc,D9,eq_self,if_true]
        refine ⟨1,⟨1,rfl,hlt⟩,by omega,?_⟩
        simp (disch:=omega) only [go_sem,Aa,h10,if_false,hs]
      · have hi0:(i=0)=False:=by simp; omega
        have hi1:(i+1=0)=False:=by simp; omega
        have htl:((x.args.map (Tm.rn e)).take k).length=k:=by rw [List.length_take,List.length_map]; omega
        simp (disch:=omega) only [go_sem,Aa,hni,hg,hc,D9,hi0,if_false,htl]
        refine ⟨i+1,⟨k+1,by omega,hlt⟩,by omega,?_⟩
        simp (disch:=omega) only [go_sem,Aa,hni1,hi1,if_false,hs]
    · obtain rfl:k=x.args.length:=by omega
      have ht:(x.args.map (Tm.rn e)).take x.args.length=x.args.map (Tm.rn e):=by rw [← List.length_map (f:=Tm.rn e)]; exact List.take_length
      rcases Nat.eq_zero_or_pos x.args.length with h0 | h0
      · have hx:x.args=[]:=List.eq_nil_of_length_eq_zero h0
        obtain rfl:i=0:=by omega
        simp (disch:=omega) only [go_sem,Aa,hni,hx,eq_self,if_true,List.map_nil,List.length_nil]
      · have hi0:(i=0)=False:=by simp; omega
        simp (disch:=omega) only [go_sem,Aa,hni,hi0,if_false,ht,hfu,her]
theorem RN (ns:List ByteArray) (p:ByteArray) (hp:p.size≤1048576) (hnd:ns.Nodup) (hnl:ns.length≤1048576) (hnv:∀ s∈ns,At s=true) (x:Tm) (hx:x.names=true) (hn:x.nodes≤1099511627776):RnS ns p x :=
  Pc ns p hp hnd hnl hnv x (fun h=>Tm.F4 hx h) (by have:=Tm.AB x.args; have:=Tm.Ao x; omega) fun y hy=>RN ns p hp hnd hnl hnv y (Tm.EM hx hy) (by have:=Tm.AZ hy; have:=Tm.Ao x; omega)
termination_by SizeOf.sizeOf x
decreasing_by exact Tm.Az hy
theorem WZ (ns:List ByteArray) (p:ByteArray) (hp:p.size≤1048576) (hnd:ns.Nodup) (hnl:ns.length≤1048576) (hnv:∀ s∈ns,At s=true) (x:Tm) (hx:x.atom=true):RnS ns p x:=by
  have hn:=Tm.CD hx
  have h1:=Tm.Ao x
  have h2:=Tm.AB x.args
  exact Pc ns p hp hnd hnl hnv x (Tm.IG hx).1 (by omega) fun y hy=>RN ns p hp hnd hnl hnv y ((Tm.IG hx).2 y hy) (by have:=Tm.AZ hy; omega)
def JK:SC:=(.seq (.reg [⟨some 3,none,.boxv 28 1 (.t 0)⟩,⟨some 6,none,.alloc 28 [.nil]⟩]) (.seq (.reg [⟨(some 9),none,(.mkrow 73 3 [(.bool false),(.str ⟨#[]⟩),.nil] 0 [])⟩,⟨some 7,none,.mv (.t 9)⟩]) (.seq (.seq (.reg [⟨some 8,none,.mv (.c (.int .i64 0))⟩]) (.block 0 (.loop [0,1,1,1,0,0,1,1,1,0,0,0,0,0,0,0,0,0,0,0,0,0,0,0,0,0,0,0,0,0,0,0,0,0,0,0,0,0] (.seq (.seq (.reg [⟨some 10,none,.mv (.t 8)⟩,⟨some 11,none,.faddr 0 (.t 3)⟩,⟨some 12,none,.load false 1 (.t 11)⟩,⟨some 13,none,.len false (.t 12)⟩,⟨some 14,none,.bin .lss false (.t 10) (.t 13)⟩]) (.cond (.t 14) .skip (.exit 0))) (.seq (.block 1 (.dreg [[],[],[1],[],[2,1,3],[4,2,1,3],[5,4,2,1,3],[],[7],[],[8,7,9],[10,8,7,9],[11,10,8,7,9],[],[],[12,11,10,8,7,9,13,14],[6,5,4,2,1,3,15,12,11,10,8,7,9,13,14],[16,6,5,4,2,1,3,15,12,11,10,8,7,9,13,14],[0,17,16,6,5,4,2,1,3,15,12,11,10,8,7,9,13,14],[18,0,17,16,6,5,4,2,1,3,15,12,11,10,8,7,9,13,14]] [⟨some 17,none,.mv (.t 7)⟩,⟨some 18,none,.faddr 0 (.t 3)⟩,⟨some 19,none,.load false 1 (.t 18)⟩,⟨some 20,none,.mv (.t 8)⟩,⟨some 21,none,.iaddr 3 (.t 19) (.t 20)⟩,⟨some 22,none,.faddr 0 (.t 21)⟩,⟨some 23,none,.load false 1 (.t 22)⟩,⟨some 24,none,.faddr 0 (.t 3)⟩,⟨some 25,none,.load false 1 (.t 24)⟩,⟨some 26,none,.mv (.t 8)⟩,⟨some 27,none,.iaddr 3 (.t 25) (.t 26)⟩,⟨some 28,none,.faddr 1 (.t 27)⟩,⟨some 29,none,.load true 2 (.t 28)⟩,⟨some 30,none,.mv (.t 1)⟩,⟨some 31,none,.mv (.t 2)⟩,⟨some 32,none,.call 142 [(.t 29),(.t 30),(.t 31)]⟩,⟨(some 33),none,(.build [(.bool false),(.str ⟨#[]⟩),.nil] [(0,(1,(.t 23))),(1,(2,(.t 32)))])⟩,⟨(some 34),none,(.mkrow 73 3 [(.bool false),(.str ⟨#[]⟩),.nil] 1 [(0,(.t 33))])⟩,⟨(some 35),none,(.append 73 3 48 [(.bool false),(.str ⟨#[]⟩),.nil] (.t 17) (.t 34))⟩,⟨some 7,none,.mv (.t 35)⟩])) (.reg [⟨some 15,none,.mv (.t 8)⟩,⟨some 16,none,.bin .add false (.t 15) (.c (.int .i64 1))⟩,⟨some 8,none,.mv (.t 16)⟩])))))) (.seq (.reg [⟨some 36,none,.mv (.t 7)⟩,⟨some 37,none,.call 117 [(.t 36)]⟩,⟨none,none,(.store 1 (.t 6) (.t 37))⟩]) .ret))))
theorem Px:Am Tryz.prog 97=some ⟨38,JK,[(.cell 6 true 1)]⟩:=by kernel_rfl
theorem EC:modes 97=⟨[],.frz,none,false⟩:=by unfold modes; rfl
theorem YF (c:Cl) (hc:c.ok=true) (ns:List ByteArray) (hns:ns=c.ns) (p:ByteArray) (hp:p.size≤1048576) (hf:UG (Ho p ns)):E 97 [c.sv,.arr (ns.map fun s=>[D.str s]),.str p] []=some ((c.rn (Ho p ns)).sv,[]):=by
  have hl:=Cl.ok_len hc
  have hsv:∀ d:Cl,d.sv=.agg [.arr (d.lits.map Lt.d)]:=fun d=>rfl
  have hnd:ns.Nodup:=by rw [hns]; exact c.ns_nodup
  have hnl:ns.length≤240:=by rw [hns]; exact Cl.Ro hc
  have hnv:∀ s∈ns,At s=true:=fun s hs=>Cl.QbW (c:=c) (by rw [← hns]; exact hs)
  have hat:=Lt.Rq hf (Cl.Dj hc)
  have hr0:∀ x:Tm,x.atom=true→RnS ns p x:=fun x hx=>WZ ns p hp hnd (by omega) hnv x hx
  unfold RnS at hr0
  obtain ⟨e,he⟩:∃ e,e=Ho p ns:=⟨_,rfl⟩
  rw [← he] at hat hr0 ⊢
  have hco:=QY (c.lits.map (Lt.rn e)) (by rw [List.length_map]; omega) (fun x hx=>Oq (hat x hx))
  rw [show mkC (c.lits.map (Lt.rn e))=c.rn e from rfl] at hco
  rw [hsv] at hco
  rw [hsv,hsv]
  have her:=Lt.der (c.lits.map (Lt.rn e))
  have hfu:=Lt.dfu (c.lits.map (Lt.rn e))
  clear he
  refine Ah Px EC (of_decide_eq_true rfl) ?_
  simp (disch:=omega) only [JK,go_sem,Aa]
  refine As (α:=Int) (fun a=>⟨slots 38 0 [(1,.arr (ns.map fun s=>[D.str s])),(2,.str p),(3,.ptr 0 0),(6,.ptr 1 0),(7,.ref 2),(8,.int .i64 a)],[.box 28 [.arr (c.lits.map Lt.d)],.box 28 [.nil],.row 73 3 (((c.lits.map (Lt.rn e)).take a.toNat).map (fun b:Lt=>b.d.map D.ot))]⟩) (fun a=>∃ k:Nat,a=k∧k≤(c.lits).length) (fun a=>(c.lits).length - (a).toNat) 0 ⟨0,rfl,Nat.zero_le _⟩ (by simp (disch:=omega) only [go_sem,Aa]) ?_
  rintro i ⟨k,hi,hk⟩
  have hni:i.toNat=k:=by omega
  have hni1:(i+1).toNat=k+1:=by omega
  rcases Nat.lt_or_ge k (c.lits).length with hlt | hge
  · have hg:=Aq Lt.d hlt
    rw [Lt.d_eq] at hg
    have hr:=hr0 c.lits[k].atom (Cl.Ju hc hlt)
    have hrs:c.lits[k].atom.sv=.agg [.str c.lits[k].atom.name,.arr (c.lits[k].atom.args.map Tm.d)]:=rfl
    have hrt:(c.lits[k].atom.rn e).sv=.agg [.str (c.lits[k].atom.rn e).name,.arr ((c.lits[k].atom.rn e).args.map Tm.d)]:=rfl
    rw [hrs,hrt] at hr
    have hlm:k < (c.lits.map (Lt.rn e)).length:=by rw [List.length_map]; exact hlt
    have hs:=D4 (fun b:Lt=>b.d.map D.ot) hlm
    rw [List.getElem_map] at hs
    have hs':((c.lits.map (Lt.rn e)).take k).map (fun b:Lt=>b.d.map D.ot)++[[OT.bool c.lits[k].pos,OT.str (c.lits[k].atom.rn e).name,OT.sh ((c.lits[k].atom.rn e).args.map Tm.d)]]=((c.lits.map (Lt.rn e)).take (k+1)).map (fun b:Lt=>b.d.map D.ot):=hs
    have htl:((c.lits.map (Lt.rn e)).take k).length=k:=by rw [List.length_take,List.length_map]; omega
    simp (disch:=omega) only [go_sem,Aa,hni,hg,hr,htl,D9]
    refine ⟨i+1,⟨k+1,by omega,hlt⟩,by omega,?_⟩
    simp (disch:=omega) only [go_sem,Aa,hni1,hs']
  · have ht:(c.lits.map (Lt.rn e)).take k=c.lits.map (Lt.rn e):=List.take_of_length_le (by rw [List.length_map]; exact hge)
    simp (disch:=omega) only [go_sem,Aa,hni,ht,hco,her,hfu,CV]
def JL:SC:=(.seq (.reg [⟨some 1,none,.boxv 28 1 (.t 0)⟩,⟨some 2,none,.alloc 28 [.nil]⟩,⟨some 3,none,.mv (.c (.bool false))⟩]) (.seq (.reg [⟨some 6,none,.faddr 0 (.t 1)⟩,⟨some 7,none,.load false 1 (.t 6)⟩,⟨some 8,none,.call 117 [(.t 7)]⟩,⟨some 4,none,.alloc 28 [.nil]⟩,⟨none,none,(.store 1 (.t 4) (.t 8))⟩]) (.seq (.seq (.reg [⟨some 5,none,.mv (.c (.int .i64 0))⟩]) (.block 0 (.loop [0,0,1,0,1,1,0,0,0,0,0,0,0,0,0,0,0,0,0,0,0,0,0,0,0] (.seq (.seq (.reg [⟨some 9,none,.mv (.t 5)⟩,⟨some 10,none,.bin .lss false (.t 9) (.c (.int .i64 10))⟩,⟨some 11,none,.mv (.t 10)⟩,⟨(some 12),(some (11,true)),(.load true 1 (.t 4))⟩,⟨(some 13),(some (11,true)),(.call 48 [(.t 12)])⟩,⟨(some 14),(some (11,true)),(.un .not (.t 13))⟩,⟨some 15,none,.pick (.t 11) (.t 14) (.c (.bool false))⟩]) (.cond (.t 15) .skip (.exit 0))) (.seq (.block 1 (.dreg [[],[],[1],[0,2,1],[3,0,2,1]] [⟨some 18,none,.load true 1 (.t 4)⟩,⟨some 19,none,.load true 1 (.t 4)⟩,⟨some 20,none,.call 74 [(.t 19)]⟩,⟨(some 21),none,(.call 97 [(.t 18),(.t 20),(.c (.str ⟨#[88]⟩))])⟩,⟨none,none,(.store 1 (.t 4) (.t 21))⟩])) (.reg [⟨some 16,none,.mv (.t 5)⟩,⟨some 17,none,.bin .add false (.t 16) (.c (.int .i64 1))⟩,⟨some 5,none,.mv (.t 17)⟩])))))) (.seq (.dreg [[],[],[1],[0,2,1],[2,1,3,0]] [⟨some 22,none,.load true 1 (.t 4)⟩,⟨some 23,none,.load true 1 (.t 4)⟩,⟨some 24,none,.call 47 [(.t 23)]⟩,⟨none,none,(.store 1 (.t 2) (.t 22))⟩,⟨some 3,none,.mv (.t 24)⟩]) .ret))))
theorem Py:Am Tryz.prog 80=some ⟨25,JL,[(.cell 2 true 1),(.tmp 3)]⟩:=by kernel_rfl
theorem Gw:modes 80=⟨[],.frz,none,false⟩:=by unfold modes; rfl
theorem YG (c:Cl) (hc:c.ok=true):E 80 [c.sv] []=some (.tup [(nz 10 c).sv,.bool true],[]):=by
  have hl:=Cl.ok_len hc
  have hsv:∀ d:Cl,d.sv=.agg [.arr (d.lits.map Lt.d)]:=fun d=>rfl
  have h1:=QY c.lits (by omega) (fun x hx=>Oq (Cl.Dj hc x hx))
  rw [QbY (Cl.Qa6 hc),hsv] at h1
  rw [hsv,hsv]
  refine Ah Py Gw (of_decide_eq_true rfl) ?_
  simp (disch:=omega) only [JL,go_sem,Aa,h1,CV]
  refine As (α:=Int × Cl) (fun a=>⟨slots 25 0 [(2,.ptr 0 0),(4,.ptr 1 0),(5,.int .i64 a.1)],[.box 28 [.nil],.box 28 [.arr (a.2.lits.map Lt.d)]]⟩) (fun a=>∃ k:Nat,a.1=k∧k≤10∧a.2.ok=true∧nz (10 - k) a.2=nz 10 c) (fun a=>10 - a.1.toNat) (0,c) ⟨0,rfl,Nat.zero_le _,hc,rfl⟩ (by simp (disch:=omega) only [go_sem,Aa]) ?_
  rintro ⟨i,d⟩ ⟨k,hi,hk,hd,hR⟩
  dsimp only at hi hd hR
  have n1:=J1 d hd
  have n2:=TK d hd
  have n4:=YF d hd d.ns rfl ⟨#[88]⟩ (by decide +kernel) (Cl.xE hd)
  have n5:=QT d ⟨by have:=Cl.ok_len hd; omega,fun y hy=>by have:=Tm.CD (Cl.Dj hd y hy); omega⟩
  rw [hd] at n5
  rw [hsv] at n1 n2 n5
  rw [hsv,hsv] at n4
  rcases Nat.lt_or_ge k 10 with hlt | hge
  · obtain ⟨m,hm⟩:∃ m,10 - k=m+1:=⟨9 - k,by omega⟩
    rw [hm,nz] at hR
    cases hn:d.norm with
    | true =>
      rw [hn,cond_true] at hR
      rw [hn] at n1
      rw [← hR]
      simp (disch:=omega) only [go_sem,Aa,n1,n2,n4,n5,BU,Ed,EC,B8]
    | false =>
      rw [hn,cond_false] at hR
      rw [hn] at n1
      simp (disch:=omega) only [go_sem,Aa,n1,n2,n4,n5,BU,Ed,EC,B8]
      refine ⟨(i+1,d.rn (Ho Sp d.ns)),⟨k+1,by dsimp only; omega,by omega,Cl.QbZ (Cl.xE hd) hd,by rw [show 10 - (k+1)=m by omega]; exact hR⟩,by dsimp only; omega,?_⟩
      first | trivial | rfl
  · obtain rfl:k=10:=by omega
    have hR:d=nz 10 c:=hR
    rw [← hR]
    simp (disch:=omega) only [go_sem,Aa,n1,n2,n4,n5,BU,Ed,EC,B8]
theorem Er {n:ByteArray} {t:Tm} (hv:At n=true):t.name=n→n∈t.vs:=fun e=>by rw [Tm.Gx,e,hv]; simp
def KQ:SC:=(.seq (.reg [⟨some 2,none,.boxv 71 2 (.t 0)⟩,⟨some 3,none,.boxv 71 2 (.t 1)⟩,⟨some 4,none,.alloc 76 [.nil]⟩,⟨some 5,none,.mv (.c (.bool false))⟩]) (.seq (.reg [⟨some 16,none,.build [.nil] []⟩,⟨some 6,none,.alloc 76 [.nil]⟩,⟨none,none,(.store 1 (.t 6) (.t 16))⟩]) (.seq (.reg [⟨some 17,none,.build [.nil] []⟩,⟨some 7,none,.alloc 76 [.nil]⟩,⟨none,none,(.store 1 (.t 7) (.t 17))⟩]) (.seq (.reg [⟨some 18,none,.load true 2 (.t 2)⟩,⟨some 19,none,.load true 2 (.t 3)⟩,⟨(some 20),none,(.build [(.str ⟨#[]⟩),.nil,(.str ⟨#[]⟩),.nil] [(0,(2,(.t 18))),(2,(2,(.t 19)))])⟩,⟨(some 21),none,(.mkrow 97 4 [(.str ⟨#[]⟩),.nil,(.str ⟨#[]⟩),.nil] 1 [(0,(.t 20))])⟩,⟨some 8,none,.mv (.t 21)⟩]) (.seq (.block 0 (.loop [0,0,0,0,1,0,1,1,1,0,0,0,0,0,0,0,0,0,0,0,0,0,0,0,0,0,0,0,0,0,0,0,0,0,0,0,0,0,0,0,0,0,0,0,0,0,0,0,0,0,0,0,0,0,0,0,0,0,0,0,0,0,0,0,0,0,0,0,0,0,0,0,0,0,0,0,0,0,0,0,0,0,0,0,0,0,0,0,0,0,0,0,0,0,0,0,0,0,0,0,0,0,0,0,0,0,0,0,0,0,0,0,0,0,0,0,0,0,0,0,0,0,0,0,0,0,0,0,0,0,0,0,0,0,0,0,0,0,0,0,0,0,0,0,0,0,0,0,0] (.seq (.seq (.reg [⟨some 22,none,.mv (.t 8)⟩,⟨some 23,none,.len false (.t 22)⟩,⟨some 24,none,.bin .gtr false (.t 23) (.c (.int .i64 0))⟩]) (.cond (.t 24) .skip (.exit 0))) (.block 1 (.seq (.dreg [[],[],[1],[2,1],[3,2,1],[0,4,3,2,1],[5,0,4,3,2,1],[6,5,0,4,3,2,1],[6,5,0,4,3,2,1],[],[9,7,6,5,0,4,3,2,1],[8,6,5,0,4,3,2,1,10,9,7]] [⟨some 26,none,.load true 1 (.t 7)⟩,⟨some 27,none,.mv (.t 8)⟩,⟨some 28,none,.iaddr 4 (.t 27) (.c (.int .i64 0))⟩,⟨some 29,none,.faddr 0 (.t 28)⟩,⟨some 30,none,.load true 2 (.t 29)⟩,⟨some 31,none,.call 76 [(.t 26),(.t 30)]⟩,⟨some 25,none,.mv (.t 31)⟩,⟨some 32,none,.ext (.t 25) 0⟩,⟨some 33,none,.ext (.t 25) 1⟩,⟨(some 9),none,(.alloc 71 [(.str ⟨#[]⟩),.nil])⟩,⟨none,none,(.store 2 (.t 9) (.t 32))⟩,⟨some 10,none,.mv (.t 33)⟩]) (.seq (.dreg [[],[],[1],[2,1],[3,2,1],[0,4,3,2,1],[5,0,4,3,2,1],[6,5,0,4,3,2,1],[6,5,0,4,3,2,1],[],[9,7,6,5,0,4,3,2,1],[8,6,5,0,4,3,2,1,10,9,7]] [⟨some 35,none,.load true 1 (.t 7)⟩,⟨some 36,none,.mv (.t 8)⟩,⟨some 37,none,.iaddr 4 (.t 36) (.c (.int .i64 0))⟩,⟨some 38,none,.faddr 2 (.t 37)⟩,⟨some 39,none,.load true 2 (.t 38)⟩,⟨some 40,none,.call 76 [(.t 35),(.t 39)]⟩,⟨some 34,none,.mv (.t 40)⟩,⟨some 41,none,.ext (.t 34) 0⟩,⟨some 42,none,.ext (.t 34) 1⟩,⟨(some 11),none,(.alloc 71 [(.str ⟨#[]⟩),.nil])⟩,⟨none,none,(.store 2 (.t 11) (.t 41))⟩,⟨some 12,none,.mv (.t 42)⟩]) (.seq (.seq (.reg [⟨some 43,none,.mv (.t 10)⟩,⟨some 44,none,.un .not (.t 43)⟩,⟨some 45,none,.mv (.t 44)⟩,⟨(some 46),(some (45,false)),(.mv (.t 12))⟩,⟨(some 47),(some (45,false)),(.un .not (.t 46))⟩,⟨some 48,none,.pick (.t 45) (.c (.bool true)) (.t 47)⟩]) (.cond (.t 48) (.seq (.reg [⟨some 49,none,.load true 1 (.t 6)⟩,⟨none,none,(.store 1 (.t 4) (.t 49))⟩,⟨some 5,none,.mv (.c (.bool false))⟩]) .ret) .skip)) (.seq (.reg [⟨some 50,none,.mv (.t 8)⟩,⟨some 51,none,.slice false 4 (.t 50) (some (.c (.int .i64 1))) none⟩,⟨some 8,none,.mv (.t 51)⟩]) (.seq (.reg [⟨some 13,none,.mv (.c (.bool true))⟩]) (.seq (.block 2 (.seq (.reg [⟨some 78,none,.load true 2 (.t 9)⟩,⟨some 79,none,.load true 2 (.t 11)⟩,⟨some 80,none,.call 68 [(.t 78),(.t 79)]⟩,⟨some 77,none,.mv (.t 80)⟩]) (.cond (.t 77) .skip (.seq (.reg [⟨some 82,none,.faddr 0 (.t 9)⟩,⟨some 83,none,.load false 1 (.t 82)⟩,⟨some 84,none,.call 77 [(.t 83)]⟩,⟨some 85,none,.mv (.t 84)⟩,⟨(some 86),(some (85,true)),(.faddr 0 (.t 11))⟩,⟨(some 87),(some (85,true)),(.load false 1 (.t 86))⟩,⟨(some 88),(some (85,true)),(.call 77 [(.t 87)])⟩,⟨some 89,none,.pick (.t 85) (.t 88) (.c (.bool false))⟩,⟨some 90,none,.mv (.t 89)⟩,⟨(some 91),(some (90,true)),(.faddr 0 (.t 9))⟩,⟨(some 92),(some (90,true)),(.load false 1 (.t 91))⟩,⟨(some 93),(some (90,true)),(.faddr 0 (.t 11))⟩,⟨(some 94),(some (90,true)),(.load false 1 (.t 93))⟩,⟨(some 95),(some (90,true)),(.bin .lss false (.t 92) (.t 94))⟩,⟨some 96,none,.pick (.t 90) (.t 95) (.c (.bool false))⟩,⟨some 81,none,.mv (.t 96)⟩]) (.cond (.t 81) (.reg [⟨some 98,none,.load true 1 (.t 7)⟩,⟨some 99,none,.faddr 0 (.t 11)⟩,⟨some 100,none,.load false 1 (.t 99)⟩,⟨some 101,none,.load true 2 (.t 9)⟩,⟨some 102,none,.call 78 [(.t 98),(.t 100),(.t 101)]⟩,⟨some 97,none,.mv (.t 102)⟩,⟨some 103,none,.ext (.t 97) 0⟩,⟨some 104,none,.ext (.t 97) 1⟩,⟨none,none,(.store 1 (.t 7) (.t 103))⟩,⟨some 13,none,.mv (.t 104)⟩]) (.seq (.reg [⟨some 106,none,.faddr 0 (.t 9)⟩,⟨some 107,none,.load false 1 (.t 106)⟩,⟨some 108,none,.call 77 [(.t 107)]⟩,⟨some 105,none,.mv (.t 108)⟩]) (.cond (.t 105) (.reg [⟨some 110,none,.load true 1 (.t 7)⟩,⟨some 111,none,.faddr 0 (.t 9)⟩,⟨some 112,none,.load false 1 (.t 111)⟩,⟨some 113,none,.load true 2 (.t 11)⟩,⟨some 114,none,.call 78 [(.t 110),(.t 112),(.t 113)]⟩,⟨some 109,none,.mv (.t 114)⟩,⟨some 115,none,.ext (.t 109) 0⟩,⟨some 116,none,.ext (.t 109) 1⟩,⟨none,none,(.store 1 (.t 7) (.t 115))⟩,⟨some 13,none,.mv (.t 116)⟩]) (.seq (.reg [⟨some 118,none,.faddr 0 (.t 11)⟩,⟨some 119,none,.load false 1 (.t 118)⟩,⟨some 120,none,.call 77 [(.t 119)]⟩,⟨some 117,none,.mv (.t 120)⟩]) (.cond (.t 117) (.reg [⟨some 122,none,.load true 1 (.t 7)⟩,⟨some 123,none,.faddr 0 (.t 11)⟩,⟨some 124,none,.load false 1 (.t 123)⟩,⟨some 125,none,.load true 2 (.t 9)⟩,⟨some 126,none,.call 78 [(.t 122),(.t 124),(.t 125)]⟩,⟨some 121,none,.mv (.t 126)⟩,⟨some 127,none,.ext (.t 121) 0⟩,⟨some 128,none,.ext (.t 121) 1⟩,⟨none,none,(.store 1 (.t 7) (.t 127))⟩,⟨some 13,none,.mv (.t 128)⟩]) (.seq (.reg [⟨some 130,none,.faddr 0 (.t 9)⟩,⟨some 131,none,.load false 1 (.t 130)⟩,⟨some 132,none,.faddr 0 (.t 11)⟩,⟨some 133,none,.load false 1 (.t 132)⟩,⟨some 134,none,.bin .neq false (.t 131) (.t 133)⟩,⟨some 135,none,.mv (.t 134)⟩,⟨(some 136),(some (135,false)),(.faddr 1 (.t 9))⟩,⟨(some 137),(some (135,false)),(.load false 1 (.t 136))⟩,⟨(some 138),(some (135,false)),(.len false (.t 137))⟩,⟨(some 139),(some (135,false)),(.faddr 1 (.t 11))⟩,⟨(some 140),(some (135,false)),(.load false 1 (.t 139))⟩,⟨(some 141),(some (135,false)),(.len false (.t 140))⟩,⟨(some 142),(some (135,false)),(.bin .neq false (.t 138) (.t 141))⟩,⟨some 143,none,.pick (.t 135) (.c (.bool true)) (.t 142)⟩,⟨some 129,none,.mv (.t 143)⟩]) (.cond (.t 129) (.seq (.reg [⟨some 144,none,.load true 1 (.t 6)⟩,⟨none,none,(.store 1 (.t 4) (.t 144))⟩,⟨some 5,none,.mv (.c (.bool false))⟩]) .ret) (.seq (.reg [⟨(some 52),none,(.mkrow 97 4 [(.str ⟨#[]⟩),.nil,(.str ⟨#[]⟩),.nil] 0 [])⟩,⟨some 14,none,.mv (.t 52)⟩]) (.seq (.seq (.reg [⟨some 15,none,.mv (.c (.int .i64 0))⟩]) (.block 3 (.loop [0,0,0,0,1,0,1,1,1,1,0,1,0,1,1,1,0,0,0,0,0,0,0,0,0,0,0,0,0,0,0,0,0,0,0,0,0,0,0,0,0,0,0,0,0,0,0,0,0,0,0,0,0,0,0,0,0,0,0,0,0,0,0,0,0,0,0,0,0,0,0,0,0,0,0,0,0,0,0,0,0,0,0,0,0,0,0,0,0,0,0,0,0,0,0,0,0,0,0,0,0,0,0,0,0,0,0,0,0,0,0,0,0,0,0,0,0,0,0,0,0,0,0,0,0,0,0,0,0,0,0,0,0,0,0,0,0,0,0,0,0,0,0,0,0,0,0,0,0] (.seq (.seq (.reg [⟨some 53,none,.mv (.t 15)⟩,⟨some 54,none,.faddr 1 (.t 9)⟩,⟨some 55,none,.load false 1 (.t 54)⟩,⟨some 56,none,.len false (.t 55)⟩,⟨some 57,none,.bin .lss false (.t 53) (.t 56)⟩]) (.cond (.t 57) .skip (.exit 3))) (.seq (.block 4 (.dreg [[],[],[1],[],[2,1,3],[4,2,1,3],[],[6],[],[7,6,8],[9,7,6,8],[5,4,2,1,3,10,9,7,6,8],[11,5,4,2,1,3,10,9,7,6,8],[0,12,11,5,4,2,1,3,10,9,7,6,8],[13,0,12,11,5,4,2,1,3,10,9,7,6,8]] [⟨some 60,none,.mv (.t 14)⟩,⟨some 61,none,.faddr 1 (.t 9)⟩,⟨some 62,none,.load false 1 (.t 61)⟩,⟨some 63,none,.mv (.t 15)⟩,⟨some 64,none,.iaddr 2 (.t 62) (.t 63)⟩,⟨some 65,none,.load true 2 (.t 64)⟩,⟨some 66,none,.faddr 1 (.t 11)⟩,⟨some 67,none,.load false 1 (.t 66)⟩,⟨some 68,none,.mv (.t 15)⟩,⟨some 69,none,.iaddr 2 (.t 67) (.t 68)⟩,⟨some 70,none,.load true 2 (.t 69)⟩,⟨(some 71),none,(.build [(.str ⟨#[]⟩),.nil,(.str ⟨#[]⟩),.nil] [(0,(2,(.t 65))),(2,(2,(.t 70)))])⟩,⟨(some 72),none,(.mkrow 97 4 [(.str ⟨#[]⟩),.nil,(.str ⟨#[]⟩),.nil] 1 [(0,(.t 71))])⟩,⟨(some 73),none,(.append 97 4 80 [(.str ⟨#[]⟩),.nil,(.str ⟨#[]⟩),.nil] (.t 60) (.t 72))⟩,⟨some 14,none,.mv (.t 73)⟩])) (.reg [⟨some 58,none,.mv (.t 15)⟩,⟨some 59,none,.bin .add false (.t 58) (.c (.int .i64 1))⟩,⟨some 15,none,.mv (.t 59)⟩])))))) (.reg [⟨some 74,none,.mv (.t 14)⟩,⟨some 75,none,.mv (.t 8)⟩,⟨(some 76),none,(.append 97 4 80 [(.str ⟨#[]⟩),.nil,(.str ⟨#[]⟩),.nil] (.t 74) (.t 75))⟩,⟨some 8,none,.mv (.t 76)⟩])))))))))))))) (.seq (.reg [⟨some 145,none,.mv (.t 13)⟩,⟨some 146,none,.un .not (.t 145)⟩]) (.cond (.t 146) (.seq (.reg [⟨some 147,none,.load true 1 (.t 6)⟩,⟨none,none,(.store 1 (.t 4) (.t 147))⟩,⟨some 5,none,.mv (.c (.bool false))⟩]) .ret) .skip)))))))))))) (.seq (.reg [⟨some 148,none,.load true 1 (.t 7)⟩,⟨none,none,(.store 1 (.t 4) (.t 148))⟩,⟨some 5,none,.mv (.c (.bool true))⟩]) .ret))))))
theorem RO:Am Tryz.prog 50=some ⟨149,KQ,[(.cell 4 true 1),(.tmp 5)]⟩:=by kernel_rfl
theorem Hu:modes 50=⟨[],.frz,none,false⟩:=by unfold modes; rfl
abbrev u5b:SC:=(.seq (.seq (.reg [⟨(some 22),none,(.mv (.t 8))⟩,⟨(some 23),none,(.len false (.t 22))⟩,⟨(some 24),none,(.bin .gtr false (.t 23) (.c (.int .i64 0)))⟩]) (.cond (.t 24) .skip (.exit 0))) (.block 1 (.seq (.dreg [[],[],[1],[2,1],[3,2,1],[0,4,3,2,1],[5,0,4,3,2,1],[6,5,0,4,3,2,1],[6,5,0,4,3,2,1],[],[9,7,6,5,0,4,3,2,1],[8,6,5,0,4,3,2,1,10,9,7]] [⟨(some 26),none,(.load true 1 (.t 7))⟩,⟨(some 27),none,(.mv (.t 8))⟩,⟨(some 28),none,(.iaddr 4 (.t 27) (.c (.int .i64 0)))⟩,⟨(some 29),none,(.faddr 0 (.t 28))⟩,⟨(some 30),none,(.load true 2 (.t 29))⟩,⟨(some 31),none,(.call 76 [(.t 26),(.t 30)])⟩,⟨(some 25),none,(.mv (.t 31))⟩,⟨(some 32),none,(.ext (.t 25) 0)⟩,⟨(some 33),none,(.ext (.t 25) 1)⟩,⟨(some 9),none,(.alloc 71 [(.str ⟨#[]⟩),.nil])⟩,⟨none,none,(.store 2 (.t 9) (.t 32))⟩,⟨(some 10),none,(.mv (.t 33))⟩]) (.seq (.dreg [[],[],[1],[2,1],[3,2,1],[0,4,3,2,1],[5,0,4,3,2,1],[6,5,0,4,3,2,1],[6,5,0,4,3,2,1],[],[9,7,6,5,0,4,3,2,1],[8,6,5,0,4,3,2,1,10,9,7]] [⟨(some 35),none,(.load true 1 (.t 7))⟩,⟨(some 36),none,(.mv (.t 8))⟩,⟨(some 37),none,(.iaddr 4 (.t 36) (.c (.int .i64 0)))⟩,⟨(some 38),none,(.faddr 2 (.t 37))⟩,⟨(some 39),none,(.load true 2 (.t 38))⟩,⟨(some 40),none,(.call 76 [(.t 35),(.t 39)])⟩,⟨(some 34),none,(.mv (.t 40))⟩,⟨(some 41),none,(.ext (.t 34) 0)⟩,⟨(some 42),none,(.ext (.t 34) 1)⟩,⟨(some 11),none,(.alloc 71 [(.str ⟨#[]⟩),.nil])⟩,⟨none,none,(.store 2 (.t 11) (.t 41))⟩,⟨(some 12),none,(.mv (.t 42))⟩]) (.seq (.seq (.reg [⟨(some 43),none,(.mv (.t 10))⟩,⟨(some 44),none,(.un .not (.t 43))⟩,⟨(some 45),none,(.mv (.t 44))⟩,⟨(some 46),(some (45,false)),(.mv (.t 12))⟩,⟨(some 47),(some (45,false)),(.un .not (.t 46))⟩,⟨(some 48),none,(.pick (.t 45) (.c (.bool true)) (.t 47))⟩]) (.cond (.t 48) (.seq (.reg [⟨(some 49),none,(.load true 1 (.t 6))⟩,⟨none,none,(.store 1 (.t 4) (.t 49))⟩,⟨(some 5),none,(.mv (.c (.bool false)))⟩]) .ret) .skip)) (.seq (.reg [⟨(some 50),none,(.mv (.t 8))⟩,⟨(some 51),none,(.slice false 4 (.t 50) (some (.c (.int .i64 1))) none)⟩,⟨(some 8),none,(.mv (.t 51))⟩]) (.seq (.reg [⟨(some 13),none,(.mv (.c (.bool true)))⟩]) (.seq (.block 2 (.seq (.reg [⟨(some 78),none,(.load true 2 (.t 9))⟩,⟨(some 79),none,(.load true 2 (.t 11))⟩,⟨(some 80),none,(.call 68 [(.t 78),(.t 79)])⟩,⟨(some 77),none,(.mv (.t 80))⟩]) (.cond (.t 77) .skip (.seq (.reg [⟨(some 82),none,(.faddr 0 (.t 9))⟩,⟨(some 83),none,(.load false 1 (.t 82))⟩,⟨(some 84),none,(.call 77 [(.t 83)])⟩,⟨(some 85),none,(.mv (.t 84))⟩,⟨(some 86),(some (85,true)),(.faddr 0 (.t 11))⟩,⟨(some 87),(some (85,true)),(.load false 1 (.t 86))⟩,⟨(some 88),(some (85,true)),(.call 77 [(.t 87)])⟩,⟨(some 89),none,(.pick (.t 85) (.t 88) (.c (.bool false)))⟩,⟨(some 90),none,(.mv (.t 89))⟩,⟨(some 91),(some (90,true)),(.faddr 0 (.t 9))⟩,⟨(some 92),(some (90,true)),(.load false 1 (.t 91))⟩,⟨(some 93),(some (90,true)),(.faddr 0 (.t 11))⟩,⟨(some 94),(some (90,true)),(.load false 1 (.t 93))⟩,⟨(some 95),(some (90,true)),(.bin .lss false (.t 92) (.t 94))⟩,⟨(some 96),none,(.pick (.t 90) (.t 95) (.c (.bool false)))⟩,⟨(some 81),none,(.mv (.t 96))⟩]) (.cond (.t 81) (.reg [⟨(some 98),none,(.load true 1 (.t 7))⟩,⟨(some 99),none,(.faddr 0 (.t 11))⟩,⟨(some 100),none,(.load false 1 (.t 99))⟩,⟨(some 101),none,(.load true 2 (.t 9))⟩,⟨(some 102),none,(.call 78 [(.t 98),(.t 100),(.t 101)])⟩,⟨(some 97),none,(.mv (.t 102))⟩,⟨(some 103),none,(.ext (.t 97) 0)⟩,⟨(some 104),none,(.ext (.t 97) 1)⟩,⟨none,none,(.store 1 (.t 7) (.t 103))⟩,⟨(some 13),none,(.mv (.t 104))⟩]) (.seq (.reg [⟨(some 106),none,(.faddr 0 (.t 9))⟩,⟨(some 107),none,(.load false 1 (.t 106))⟩,⟨(some 108),none,(.call 77 [(.t 107)])⟩,⟨(some 105),none,(.mv (.t 108))⟩]) (.cond (.t 105) (.reg [⟨(some 110),none,(.load true 1 (.t 7))⟩,⟨(some 111),none,(.faddr 0 (.t 9))⟩,⟨(some 112),none,(.load false 1 (.t 111))⟩,⟨(some 113),none,(.load true 2 (.t 11))⟩,⟨(some 114),none,(.call 78 [(.t 110),(.t 112),(.t 113)])⟩,⟨(some 109),none,(.mv (.t 114))⟩,⟨(some 115),none,(.ext (.t 109) 0)⟩,⟨(some 116),none,(.ext (.t 109) 1)⟩,⟨none,none,(.store 1 (.t 7) (.t 115))⟩,⟨(some 13),none,(.mv (.t 116))⟩]) (.seq (.reg [⟨(some 118),none,(.faddr 0 (.t 11))⟩,⟨(some 119),none,(.load false 1 (.t 118))⟩,⟨(some 120),none,(.call 77 [(.t 119)])⟩,⟨(some 117),none,(.mv (.t 120))⟩]) (.cond (.t 117) (.reg [⟨(some 122),none,(.load true 1 (.t 7))⟩,⟨(some 123),none,(.faddr 0 (.t 11))⟩,⟨(some 124),none,(.load false 1 (.t 123))⟩,⟨(some 125),none,(.load true 2 (.t 9))⟩,⟨(some 126),none,(.call 78 [(.t 122),(.t 124),(.t 125)])⟩,⟨(some 121),none,(.mv (.t 126))⟩,⟨(some 127),none,(.ext (.t 121) 0)⟩,⟨(some 128),none,(.ext (.t 121) 1)⟩,⟨none,none,(.store 1 (.t 7) (.t 127))⟩,⟨(some 13),none,(.mv (.t 128))⟩]) (.seq (.reg [⟨(some 130),none,(.faddr 0 (.t 9))⟩,⟨(some 131),none,(.load false 1 (.t 130))⟩,⟨(some 132),none,(.faddr 0 (.t 11))⟩,⟨(some 133),none,(.load false 1 (.t 132))⟩,⟨(some 134),none,(.bin .neq false (.t 131) (.t 133))⟩,⟨(some 135),none,(.mv (.t 134))⟩,⟨(some 136),(some (135,false)),(.faddr 1 (.t 9))⟩,⟨(some 137),(some (135,false)),(.load false 1 (.t 136))⟩,⟨(some 138),(some (135,false)),(.len false (.t 137))⟩,⟨(some 139),(some (135,false)),(.faddr 1 (.t 11))⟩,⟨(some 140),(some (135,false)),(.load false 1 (.t 139))⟩,⟨(some 141),(some (135,false)),(.len false (.t 140))⟩,⟨(some 142),(some (135,false)),(.bin .neq false (.t 138) (.t 141))⟩,⟨(some 143),none,(.pick (.t 135) (.c (.bool true)) (.t 142))⟩,⟨(some 129),none,(.mv (.t 143))⟩]) (.cond (.t 129) (.seq (.reg [⟨(some 144),none,(.load true 1 (.t 6))⟩,⟨none,none,(.store 1 (.t 4) (.t 144))⟩,⟨(some 5),none,(.mv (.c (.bool false)))⟩]) .ret) (.seq (.reg [⟨(some 52),none,(.mkrow 97 4 [(.str ⟨#[]⟩),.nil,(.str ⟨#[]⟩),.nil] 0 [])⟩,⟨(some 14),none,(.mv (.t 52))⟩]) (.seq (.seq (.reg [⟨(some 15),none,(.mv (.c (.int .i64 0)))⟩]) (.block 3 (.loop [0,0,0,0,1,0,1,1,1,1,0,1,0,1,1,1,0,0,0,0,0,0,0,0,0,0,0,0,0,0,0,0,0,0,0,0,0,0,0,0,0,0,0,0,0,0,0,0,0,0,0,0,0,0,0,0,0,0,0,0,0,0,0,0,0,0,0,0,0,0,0,0,0,0,0,0,0,0,0,0,0,0,0,0,0,0,0,0,0,0,0,0,0,0,0,0,0,0,0,0,0,0,0,0,0,0,0,0,0,0,0,0,0,0,0,0,0,0,0,0,0,0,0,0,0,0,0,0,0,0,0,0,0,0,0,0,0,0,0,0,0,0,0,0,0,0,0,0,0] (.seq (.seq (.reg [⟨(some 53),none,(.mv (.t 15))⟩,⟨(some 54),none,(.faddr 1 (.t 9))⟩,⟨(some 55),none,(.load false 1 (.t 54))⟩,⟨(some 56),none,(.len false (.t 55))⟩,⟨(some 57),none,(.bin .lss false (.t 53) (.t 56))⟩]) (.cond (.t 57) .skip (.exit 3))) (.seq (.block 4 (.dreg [[],[],[1],[],[2,1,3],[4,2,1,3],[],[6],[],[7,6,8],[9,7,6,8],[5,4,2,1,3,10,9,7,6,8],[11,5,4,2,1,3,10,9,7,6,8],[0,12,11,5,4,2,1,3,10,9,7,6,8],[13,0,12,11,5,4,2,1,3,10,9,7,6,8]] [⟨(some 60),none,(.mv (.t 14))⟩,⟨(some 61),none,(.faddr 1 (.t 9))⟩,⟨(some 62),none,(.load false 1 (.t 61))⟩,⟨(some 63),none,(.mv (.t 15))⟩,⟨(some 64),none,(.iaddr 2 (.t 62) (.t 63))⟩,⟨(some 65),none,(.load true 2 (.t 64))⟩,⟨(some 66),none,(.faddr 1 (.t 11))⟩,⟨(some 67),none,(.load false 1 (.t 66))⟩,⟨(some 68),none,(.mv (.t 15))⟩,⟨(some 69),none,(.iaddr 2 (.t 67) (.t 68))⟩,⟨(some 70),none,(.load true 2 (.t 69))⟩,⟨(some 71),none,(.build [(.str ⟨#[]⟩),.nil,(.str ⟨#[]⟩),.nil] [(0,(2,(.t 65))),(2,(2,(.t 70)))])⟩,⟨(some 72),none,(.mkrow 97 4 [(.str ⟨#[]⟩),.nil,(.str ⟨#[]⟩),.nil] 1 [(0,(.t 71))])⟩,⟨(some 73),none,(.append 97 4 80 [(.str ⟨#[]⟩),.nil,(.str ⟨#[]⟩),.nil] (.t 60) (.t 72))⟩,⟨(some 14),none,(.mv (.t 73))⟩])) (.reg [⟨(some 58),none,(.mv (.t 15))⟩,⟨(some 59),none,(.bin .add false (.t 58) (.c (.int .i64 1)))⟩,⟨(some 15),none,(.mv (.t 59))⟩])))))) (.reg [⟨(some 74),none,(.mv (.t 14))⟩,⟨(some 75),none,(.mv (.t 8))⟩,⟨(some 76),none,(.append 97 4 80 [(.str ⟨#[]⟩),.nil,(.str ⟨#[]⟩),.nil] (.t 74) (.t 75))⟩,⟨(some 8),none,(.mv (.t 76))⟩])))))))))))))) (.seq (.reg [⟨(some 145),none,(.mv (.t 13))⟩,⟨(some 146),none,(.un .not (.t 145))⟩]) (.cond (.t 146) (.seq (.reg [⟨(some 147),none,(.load true 1 (.t 6))⟩,⟨none,none,(.store 1 (.t 4) (.t 147))⟩,⟨(some 5),none,(.mv (.c (.bool false)))⟩]) .ret) .skip))))))))))
abbrev u5H:Nat × Bool × Bool × Sb × List (Tm × Tm)→St:=fun a=>⟨slots 149 0 [(4,.ptr 0 0),(6,.ptr 1 0),(7,.ptr 2 0),(8,(bif a.2.2.1 then .ref 3 else .arr (a.2.2.2.2.map eqD)))],([.box 76 [.nil],.box 76 [.nil],.box 76 [bif a.2.1 then .nil else .arr (a.2.2.2.1.binds.map Bd.d)]]++(bif a.2.2.1 then [.row 97 4 (a.2.2.2.2.map eqO)] else []))⟩
abbrev u5R (total:Option Sb):Nat × Bool × Bool × Sb × List (Tm × Tm)→Prop:=fun a=>uInv a.2.2.2.1 a.2.2.2.2∧BI a.1 a.2.2.2.1 a.2.2.2.2=some total∧(a.2.1=true→a.2.2.2.1.binds=[])
abbrev u5K (total:Option Sb):X→St→Prop:=blk 0 (Q9 0 (.seq (.reg [⟨(some 148),none,(.load true 1 (.t 7))⟩,⟨none,none,(.store 1 (.t 4) (.t 148))⟩,⟨(some 5),none,(.mv (.c (.bool true)))⟩]) .ret) (Se .frz 0 [(.cell 4 true 1),(.tmp 5)] (.tup [.agg [.arr ((uTo total).binds.map Bd.d)],.bool (uOk total)],[])))
abbrev KR:List Nat:=[0,0,0,0,1,0,1,1,1,0,0,0,0,0,0,0,0,0,0,0,0,0,0,0,0,0,0,0,0,0,0,0,0,0,0,0,0,0,0,0,0,0,0,0,0,0,0,0,0,0,0,0,0,0,0,0,0,0,0,0,0,0,0,0,0,0,0,0,0,0,0,0,0,0,0,0,0,0,0,0,0,0,0,0,0,0,0,0,0,0,0,0,0,0,0,0,0,0,0,0,0,0,0,0,0,0,0,0,0,0,0,0,0,0,0,0,0,0,0,0,0,0,0,0,0,0,0,0,0,0,0,0,0,0,0,0,0,0,0,0,0,0,0,0,0,0,0,0,0]
theorem QdY (total:Option Sb) (n:Nat) (s:Sb) (p:Tm × Tm) (l:List (Tm × Tm)) (hinv:uInv s (p :: l)) (hrun:BI (n+1) s (p :: l)=some total) (hsn:true=true→s.binds=[]):go 0 u5b (u5H (n+1,true,true,s,p :: l)) (DO 0 KR u5H (u5R total) (fun a=>a.1) (n+1,true,true,s,p :: l) (u5K total)):=by
  have hs:=hinv.ok
  have hst:=E8 hs
  have hp:=hinv.ex p (by simp)
  have hpn1:=Tm.Au hp.1
  have hpn2:=Tm.Au hp.2
  have hni:(0:Int).toNat=0:=rfl
  unfold u5b u5H u5R u5K KR
  dsimp only
  obtain rfl:s=⟨[]⟩:=by obtain ⟨bs⟩:=s; have:=hsn rfl; rw [show bs=[] from this]
  have hA:=Ba ⟨[]⟩ hst p.1 (by omega)
  have hB:=Ba ⟨[]⟩ hst p.2 (by omega)
  have hss:(Sb.sv ⟨[]⟩)=.agg [.arr []]:=rfl
  rw [hss] at hA hB
  obtain ⟨L,hL⟩:∃ L,L=(p :: l).map eqO:=⟨_,rfl⟩
  have h0:L[(0:Nat)]?=some [.str p.1.name,.sh (p.1.args.map Tm.d),.str p.2.name,.sh (p.2.args.map Tm.d)]:=by rw [hL]; rfl
  have h00:0 < L.length:=by rw [hL]; simp
  have hlen:L.length=l.length+1:=by rw [hL]; simp
  have hfu:OT.AS L=true:=by rw [hL]; exact RH _
  obtain ⟨Ld,hLd⟩:∃ Ld,Ld=(p :: l).map eqD:=⟨_,rfl⟩
  have her:OT.erss L=Ld:=by rw [hL,hLd]; exact RG _
  have hdr:(Ld.take (l.length+1)).drop 1=l.map eqD:=by rw [hLd,List.take_of_length_le (by simp)]; rfl
  simp only [cond_true,cond_false,← hL]
  cases o1:BV ⟨[]⟩ p.1 with
  | false =>
    rw [o1] at hA
    rw [BI] at hrun
    simp only [o1,Bool.false_and,cond_false,Option.some.injEq] at hrun
    subst hrun
    cases o2:BV ⟨[]⟩ p.2 with
    | false =>
      rw [o2] at hB
      simp (disch:=omega) only [go_sem,Aa,hni,h0,h00,hlen,hfu,her,hdr,hA,hB,Ac,Ai,Af,An,Al]
      first | rfl | exact ⟨rfl,rfl⟩
    | true =>
      rw [o2] at hB
      simp (disch:=omega) only [go_sem,Aa,hni,h0,h00,hlen,hfu,her,hdr,hA,hB,Ac,Ai,Af,An,Al]
      first | rfl | exact ⟨rfl,rfl⟩
  | true =>
    rw [o1] at hA
    have e1:=C3 o1
    cases o2:BV ⟨[]⟩ p.2 with
    | false =>
      rw [o2] at hB
      rw [BI] at hrun
      simp only [o2,Bool.and_false,cond_false,Option.some.injEq] at hrun
      subst hrun
      simp (disch:=omega) only [go_sem,Aa,hni,h0,h00,hlen,hfu,her,hdr,hA,hB,Ac,Ai,Af,An,Al]
      first | rfl | exact ⟨rfl,rfl⟩
    | true =>
      rw [o2] at hB
      have e2:=C3 o2
      have n1:=Tm.Au e1
      have n2:=Tm.Au e2
      have hdec:=hinv.dec o1 o2
      have hbind:=hinv.bind o1 o2
      rw [BI] at hrun
      simp only [o1,o2,Bool.and_self,cond_true] at hrun
      obtain ⟨x,hx⟩:∃ x,x=AP ⟨[]⟩ p.1:=⟨_,rfl⟩
      obtain ⟨y,hy⟩:∃ y,y=AP ⟨[]⟩ p.2:=⟨_,rfl⟩
      rw [← hx] at hA e1 n1 hrun hdec hbind
      rw [← hy] at hB e2 n2 hrun hdec hbind
      have hE:=Kv x y (by omega) (by omega)
      cases o3:dec (x=y) with
      | true =>
        rw [o3] at hE
        simp only [o3,cond_true] at hrun
        simp (disch:=omega) only [go_sem,Aa,hni,h0,h00,hlen,hfu,her,hdr,hA,hB,hE,Ac,Ai,Af,An,Al]
        exact ⟨(n,true,false,⟨[]⟩,l),⟨hinv.pop,hrun,hsn⟩,by dsimp only; omega,by first | trivial | rfl | (simp only [cond_true,cond_false,List.cons_append,List.nil_append,List.append_nil,and_self])⟩
      | false =>
        rw [o3] at hE
        simp only [o3,cond_false] at hrun
        cases o4:At x.name || At y.name with
        | true =>
          simp only [o4,cond_true] at hrun
          cases v1:At x.name with
          | true =>
            cases v2:At y.name with
            | true =>
              cases v3:AD x.name y.name with
              | true =>
                have hbo:A5 x y=⟨y.name,x⟩:=by unfold A5; rw [v1,v2,v3]; rfl
                rw [hbo] at hrun hbind
                obtain ⟨r,hC,hCr⟩:=Cx ⟨[]⟩ hs y.name x e1 (Er v2)
                have hrv:r.sv=.agg [.arr (r.binds.map Bd.d)]:=rfl
                rw [hss,hrv] at hC
                cases o5:BS ⟨y.name,x⟩&&Ct ⟨[]⟩ ⟨[⟨y.name,x⟩]⟩ with
                | false =>
                  rw [o5] at hC
                  simp only [o5,cond_false,Option.some.injEq] at hrun
                  subst hrun
                  simp (disch:=omega) only [go_sem,Aa,hni,h0,h00,hlen,hfu,her,hdr,hA,hB,hE,hC,v1,v2,v3,Ac,Ai,Af,An,Al]
                  first | rfl | exact ⟨rfl,rfl⟩
                | true =>
                  rw [o5] at hC
                  obtain rfl:=hCr o5
                  simp only [o5,cond_true] at hrun
                  rw [Bool.and_eq_true] at o5
                  obtain ⟨i1,_⟩:=hbind o4 o5.1 o5.2
                  simp (disch:=omega) only [go_sem,Aa,hni,h0,h00,hlen,hfu,her,hdr,hA,hB,hE,hC,v1,v2,v3,Ac,Ai,Af,An,Al]
                  exact ⟨(n,false,false,Cn ⟨[]⟩ ⟨[⟨y.name,x⟩]⟩,l),⟨i1,hrun,fun h=>by cases h⟩,by dsimp only; omega,by first | trivial | rfl | (simp only [cond_true,cond_false,List.cons_append,List.nil_append,List.append_nil,and_self])⟩
              | false =>
                have hbo:A5 x y=⟨x.name,y⟩:=by unfold A5; rw [v1,v2,v3]; rfl
                rw [hbo] at hrun hbind
                obtain ⟨r,hC,hCr⟩:=Cx ⟨[]⟩ hs x.name y e2 (Er v1)
                have hrv:r.sv=.agg [.arr (r.binds.map Bd.d)]:=rfl
                rw [hss,hrv] at hC
                cases o5:BS ⟨x.name,y⟩&&Ct ⟨[]⟩ ⟨[⟨x.name,y⟩]⟩ with
                | false =>
                  rw [o5] at hC
                  simp only [o5,cond_false,Option.some.injEq] at hrun
                  subst hrun
                  simp (disch:=omega) only [go_sem,Aa,hni,h0,h00,hlen,hfu,her,hdr,hA,hB,hE,hC,v1,v2,v3,Ac,Ai,Af,An,Al]
                  first | rfl | exact ⟨rfl,rfl⟩
                | true =>
                  rw [o5] at hC
                  obtain rfl:=hCr o5
                  simp only [o5,cond_true] at hrun
                  rw [Bool.and_eq_true] at o5
                  obtain ⟨i1,_⟩:=hbind o4 o5.1 o5.2
                  simp (disch:=omega) only [go_sem,Aa,hni,h0,h00,hlen,hfu,her,hdr,hA,hB,hE,hC,v1,v2,v3,Ac,Ai,Af,An,Al]
                  exact ⟨(n,false,false,Cn ⟨[]⟩ ⟨[⟨x.name,y⟩]⟩,l),⟨i1,hrun,fun h=>by cases h⟩,by dsimp only; omega,by first | trivial | rfl | (simp only [cond_true,cond_false,List.cons_append,List.nil_append,List.append_nil,and_self])⟩
            | false =>
              have hbo:A5 x y=⟨x.name,y⟩:=by unfold A5; rw [v1,v2]; rfl
              rw [hbo] at hrun hbind
              obtain ⟨r,hC,hCr⟩:=Cx ⟨[]⟩ hs x.name y e2 (Er v1)
              have hrv:r.sv=.agg [.arr (r.binds.map Bd.d)]:=rfl
              rw [hss,hrv] at hC
              cases o5:BS ⟨x.name,y⟩&&Ct ⟨[]⟩ ⟨[⟨x.name,y⟩]⟩ with
              | false =>
                rw [o5] at hC
                simp only [o5,cond_false,Option.some.injEq] at hrun
                subst hrun
                simp (disch:=omega) only [go_sem,Aa,hni,h0,h00,hlen,hfu,her,hdr,hA,hB,hE,hC,v1,v2,Ac,Ai,Af,An,Al]
                first | rfl | exact ⟨rfl,rfl⟩
              | true =>
                rw [o5] at hC
                obtain rfl:=hCr o5
                simp only [o5,cond_true] at hrun
                rw [Bool.and_eq_true] at o5
                obtain ⟨i1,_⟩:=hbind o4 o5.1 o5.2
                simp (disch:=omega) only [go_sem,Aa,hni,h0,h00,hlen,hfu,her,hdr,hA,hB,hE,hC,v1,v2,Ac,Ai,Af,An,Al]
                exact ⟨(n,false,false,Cn ⟨[]⟩ ⟨[⟨x.name,y⟩]⟩,l),⟨i1,hrun,fun h=>by cases h⟩,by dsimp only; omega,by first | trivial | rfl | (simp only [cond_true,cond_false,List.cons_append,List.nil_append,List.append_nil,and_self])⟩
          | false =>
            have v2:At y.name=true:=by rw [v1,Bool.false_or] at o4; exact o4
            have hbo:A5 x y=⟨y.name,x⟩:=by unfold A5; rw [v1]; rfl
            rw [hbo] at hrun hbind
            obtain ⟨r,hC,hCr⟩:=Cx ⟨[]⟩ hs y.name x e1 (Er v2)
            have hrv:r.sv=.agg [.arr (r.binds.map Bd.d)]:=rfl
            rw [hss,hrv] at hC
            cases o5:BS ⟨y.name,x⟩&&Ct ⟨[]⟩ ⟨[⟨y.name,x⟩]⟩ with
            | false =>
              rw [o5] at hC
              simp only [o5,cond_false,Option.some.injEq] at hrun
              subst hrun
              simp (disch:=omega) only [go_sem,Aa,hni,h0,h00,hlen,hfu,her,hdr,hA,hB,hE,hC,v1,v2,Ac,Ai,Af,An,Al]
              first | rfl | exact ⟨rfl,rfl⟩
            | true =>
              rw [o5] at hC
              obtain rfl:=hCr o5
              simp only [o5,cond_true] at hrun
              rw [Bool.and_eq_true] at o5
              obtain ⟨i1,_⟩:=hbind o4 o5.1 o5.2
              simp (disch:=omega) only [go_sem,Aa,hni,h0,h00,hlen,hfu,her,hdr,hA,hB,hE,hC,v1,v2,Ac,Ai,Af,An,Al]
              exact ⟨(n,false,false,Cn ⟨[]⟩ ⟨[⟨y.name,x⟩]⟩,l),⟨i1,hrun,fun h=>by cases h⟩,by dsimp only; omega,by first | trivial | rfl | (simp only [cond_true,cond_false,List.cons_append,List.nil_append,List.append_nil,and_self])⟩
        | false =>
          simp only [o4,cond_false] at hrun
          have o4':=o4
          rw [Bool.or_eq_false_iff] at o4'
          have v1:=o4'.1
          have v2:=o4'.2
          by_cases o7:x.name=y.name
          · have q7:=eq_true o7
            by_cases o8:x.args.length=y.args.length
            · have q8:((x.args.length:Int)=(y.args.length:Int))=True:=eq_true (by omega)
              simp only [A4 o7,A4 o8,Bool.and_self,cond_true] at hrun
              have i2:=hdec o4'.1
              have hx1:=Tm.AB x.args
              have hx2:=Tm.Ao x
              have ll:=hinv.pop.len
              have hzl:(x.args.zip y.args).length=x.args.length:=by rw [List.length_zip]; omega
              simp (disch:=omega) only [go_sem,Aa,hni,h0,h00,hlen,hfu,her,hdr,hA,hB,hE,v1,v2,q7,q8,Ac,Ai,Af,An,Al]
              refine As (α:=Nat) (fun a=>⟨slots 149 0 [(4,.ptr 0 0),(6,.ptr 1 0),(7,.ptr 2 0),(8,.arr (l.map eqD)),(9,.ptr 3 0),(11,.ptr 4 0),(13,.bool true),(14,.ref 5),(15,.int .i64 (a:Int))],[.box 76 [.nil],.box 76 [.nil],.box 76 [.nil],.box 71 [.str x.name,.arr (x.args.map Tm.d)],.box 71 [.str y.name,.arr (y.args.map Tm.d)],.row 97 4 (((x.args.zip y.args).take a).map eqO)]⟩) (fun a=>a≤x.args.length) (fun a=>x.args.length - a) 0 (Nat.zero_le _) (by simp (disch:=omega) only [go_sem,Aa,List.take_zero,List.map_nil,Ac,Ai,Af,An,Al]; rfl) ?_
              intro k hk
              have hni2:((k:Nat):Int).toNat=k:=Int.toNat_natCast k
              have htl:((x.args.zip y.args).take k).length=k:=by rw [List.length_take]; omega
              rcases Nat.lt_or_ge k x.args.length with hlt | hge
              · have hg1:=Aq Tm.d hlt
                have hlt2:k < y.args.length:=by omega
                have hg2:=Aq Tm.d hlt2
                rw [Tm.d_eq] at hg1 hg2
                have hz:=Gc hlt hlt2
                have hrow:((x.args.zip y.args).take k).map eqO++[[OT.str x.args[k].name,.sh (x.args[k].args.map Tm.d),.str y.args[k].name,.sh (y.args[k].args.map Tm.d)]]=((x.args.zip y.args).take (k+1)).map eqO:=by
                  rw [← hz,List.map_append]; rfl
                simp (disch:=omega) only [go_sem,Aa,hni2,hg1,hg2,hrow,htl,List.length_map,Ac,Ai,Af,An,Al]
                refine ⟨k+1,hlt,by omega,?_⟩
                simp only [Int.natCast_add,Int.natCast_one,and_self]
              · obtain rfl:k=x.args.length:=by omega
                have hfull:(x.args.zip y.args).take x.args.length=x.args.zip y.args:=List.take_of_length_le (by omega)
                have hao:=HT l
                have hot:=KN l
                have happ:(x.args.zip y.args).map eqO++l.map eqO=(x.args.zip y.args++l).map eqO:=by rw [List.map_append]
                rw [hfull] at htl
                simp only [hfull]
                simp (disch:=omega) only [go_sem,Aa,hni2,hao,hot,htl,happ,List.length_map,Ac,Ai,Af,An,Al]
                refine ⟨(n,true,true,⟨[]⟩,x.args.zip y.args++l),⟨i2,hrun,hsn⟩,by dsimp only; omega,?_⟩
                first | trivial | rfl | simp only [cond_true,cond_false,List.cons_append,List.nil_append,and_self]
            · have q8:((x.args.length:Int)=(y.args.length:Int))=False:=eq_false (by omega)
              simp only [A4 o7,AC o8,Bool.and_false,cond_false,Option.some.injEq] at hrun
              subst hrun
              simp (disch:=omega) only [go_sem,Aa,hni,h0,h00,hlen,hfu,her,hdr,hA,hB,hE,v1,v2,q7,q8,Ac,Ai,Af,An,Al]
              first | rfl | exact ⟨rfl,rfl⟩
          · have q7:=eq_false o7
            simp only [AC o7,Bool.false_and,cond_false,Option.some.injEq] at hrun
            subst hrun
            simp (disch:=omega) only [go_sem,Aa,hni,h0,h00,hlen,hfu,her,hdr,hA,hB,hE,v1,v2,q7,Ac,Ai,Af,An,Al]
            first | rfl | exact ⟨rfl,rfl⟩
theorem QdZ (total:Option Sb) (n:Nat) (s:Sb) (p:Tm × Tm) (l:List (Tm × Tm)) (hinv:uInv s (p :: l)) (hrun:BI (n+1) s (p :: l)=some total) (hsn:true=true→s.binds=[]):go 0 u5b (u5H (n+1,true,false,s,p :: l)) (DO 0 KR u5H (u5R total) (fun a=>a.1) (n+1,true,false,s,p :: l) (u5K total)):=by
  have hs:=hinv.ok
  have hst:=E8 hs
  have hp:=hinv.ex p (by simp)
  have hpn1:=Tm.Au hp.1
  have hpn2:=Tm.Au hp.2
  have hni:(0:Int).toNat=0:=rfl
  unfold u5b u5H u5R u5K KR
  dsimp only
  obtain rfl:s=⟨[]⟩:=by obtain ⟨bs⟩:=s; have:=hsn rfl; rw [show bs=[] from this]
  have hA:=Ba ⟨[]⟩ hst p.1 (by omega)
  have hB:=Ba ⟨[]⟩ hst p.2 (by omega)
  have hss:(Sb.sv ⟨[]⟩)=.agg [.arr []]:=rfl
  rw [hss] at hA hB
  obtain ⟨L,hL⟩:∃ L,L=(p :: l).map eqD:=⟨_,rfl⟩
  have h0:L[(0:Nat)]?=some [.str p.1.name,.arr (p.1.args.map Tm.d),.str p.2.name,.arr (p.2.args.map Tm.d)]:=by rw [hL]; rfl
  have hlen:L.length=l.length+1:=by rw [hL]; simp
  have hal:(L.all fun x=>x.length == 4)=true:=by rw [hL]; exact PC _
  have hdr:(L.take (l.length+1)).drop 1=l.map eqD:=by rw [hL,List.take_of_length_le (by simp)]; rfl
  simp only [cond_true,cond_false,← hL]
  cases o1:BV ⟨[]⟩ p.1 with
  | false =>
    rw [o1] at hA
    rw [BI] at hrun
    simp only [o1,Bool.false_and,cond_false,Option.some.injEq] at hrun
    subst hrun
    cases o2:BV ⟨[]⟩ p.2 with
    | false =>
      rw [o2] at hB
      simp (disch:=omega) only [go_sem,Aa,hni,h0,hlen,hal,hdr,hA,hB,Ac,Ai,Af,An,Al]
      first | rfl | exact ⟨rfl,rfl⟩
    | true =>
      rw [o2] at hB
      simp (disch:=omega) only [go_sem,Aa,hni,h0,hlen,hal,hdr,hA,hB,Ac,Ai,Af,An,Al]
      first | rfl | exact ⟨rfl,rfl⟩
  | true =>
    rw [o1] at hA
    have e1:=C3 o1
    cases o2:BV ⟨[]⟩ p.2 with
    | false =>
      rw [o2] at hB
      rw [BI] at hrun
      simp only [o2,Bool.and_false,cond_false,Option.some.injEq] at hrun
      subst hrun
      simp (disch:=omega) only [go_sem,Aa,hni,h0,hlen,hal,hdr,hA,hB,Ac,Ai,Af,An,Al]
      first | rfl | exact ⟨rfl,rfl⟩
    | true =>
      rw [o2] at hB
      have e2:=C3 o2
      have n1:=Tm.Au e1
      have n2:=Tm.Au e2
      have hdec:=hinv.dec o1 o2
      have hbind:=hinv.bind o1 o2
      rw [BI] at hrun
      simp only [o1,o2,Bool.and_self,cond_true] at hrun
      obtain ⟨x,hx⟩:∃ x,x=AP ⟨[]⟩ p.1:=⟨_,rfl⟩
      obtain ⟨y,hy⟩:∃ y,y=AP ⟨[]⟩ p.2:=⟨_,rfl⟩
      rw [← hx] at hA e1 n1 hrun hdec hbind
      rw [← hy] at hB e2 n2 hrun hdec hbind
      have hE:=Kv x y (by omega) (by omega)
      cases o3:dec (x=y) with
      | true =>
        rw [o3] at hE
        simp only [o3,cond_true] at hrun
        simp (disch:=omega) only [go_sem,Aa,hni,h0,hlen,hal,hdr,hA,hB,hE,Ac,Ai,Af,An,Al]
        exact ⟨(n,true,false,⟨[]⟩,l),⟨hinv.pop,hrun,hsn⟩,by dsimp only; omega,by first | trivial | rfl | (simp only [cond_true,cond_false,List.cons_append,List.nil_append,List.append_nil,and_self])⟩
      | false =>
        rw [o3] at hE
        simp only [o3,cond_false] at hrun
        cases o4:At x.name || At y.name with
        | true =>
          simp only [o4,cond_true] at hrun
          cases v1:At x.name with
          | true =>
            cases v2:At y.name with
            | true =>
              cases v3:AD x.name y.name with
              | true =>
                have hbo:A5 x y=⟨y.name,x⟩:=by unfold A5; rw [v1,v2,v3]; rfl
                rw [hbo] at hrun hbind
                obtain ⟨r,hC,hCr⟩:=Cx ⟨[]⟩ hs y.name x e1 (Er v2)
                have hrv:r.sv=.agg [.arr (r.binds.map Bd.d)]:=rfl
                rw [hss,hrv] at hC
                cases o5:BS ⟨y.name,x⟩&&Ct ⟨[]⟩ ⟨[⟨y.name,x⟩]⟩ with
                | false =>
                  rw [o5] at hC
                  simp only [o5,cond_false,Option.some.injEq] at hrun
                  subst hrun
                  simp (disch:=omega) only [go_sem,Aa,hni,h0,hlen,hal,hdr,hA,hB,hE,hC,v1,v2,v3,Ac,Ai,Af,An,Al]
                  first | rfl | exact ⟨rfl,rfl⟩
                | true =>
                  rw [o5] at hC
                  obtain rfl:=hCr o5
                  simp only [o5,cond_true] at hrun
                  rw [Bool.and_eq_true] at o5
                  obtain ⟨i1,_⟩:=hbind o4 o5.1 o5.2
                  simp (disch:=omega) only [go_sem,Aa,hni,h0,hlen,hal,hdr,hA,hB,hE,hC,v1,v2,v3,Ac,Ai,Af,An,Al]
                  exact ⟨(n,false,false,Cn ⟨[]⟩ ⟨[⟨y.name,x⟩]⟩,l),⟨i1,hrun,fun h=>by cases h⟩,by dsimp only; omega,by first | trivial | rfl | (simp only [cond_true,cond_false,List.cons_append,List.nil_append,List.append_nil,and_self])⟩
              | false =>
                have hbo:A5 x y=⟨x.name,y⟩:=by unfold A5; rw [v1,v2,v3]; rfl
                rw [hbo] at hrun hbind
                obtain ⟨r,hC,hCr⟩:=Cx ⟨[]⟩ hs x.name y e2 (Er v1)
                have hrv:r.sv=.agg [.arr (r.binds.map Bd.d)]:=rfl
                rw [hss,hrv] at hC
                cases o5:BS ⟨x.name,y⟩&&Ct ⟨[]⟩ ⟨[⟨x.name,y⟩]⟩ with
                | false =>
                  rw [o5] at hC
                  simp only [o5,cond_false,Option.some.injEq] at hrun
                  subst hrun
                  simp (disch:=omega) only [go_sem,Aa,hni,h0,hlen,hal,hdr,hA,hB,hE,hC,v1,v2,v3,Ac,Ai,Af,An,Al]
                  first | rfl | exact ⟨rfl,rfl⟩
                | true =>
                  rw [o5] at hC
                  obtain rfl:=hCr o5
                  simp only [o5,cond_true] at hrun
                  rw [Bool.and_eq_true] at o5
                  obtain ⟨i1,_⟩:=hbind o4 o5.1 o5.2
                  simp (disch:=omega) only [go_sem,Aa,hni,h0,hlen,hal,hdr,hA,hB,hE,hC,v1,v2,v3,Ac,Ai,Af,An,Al]
                  exact ⟨(n,false,false,Cn ⟨[]⟩ ⟨[⟨x.name,y⟩]⟩,l),⟨i1,hrun,fun h=>by cases h⟩,by dsimp only; omega,by first | trivial | rfl | (simp only [cond_true,cond_false,List.cons_append,List.nil_append,List.append_nil,and_self])⟩
            | false =>
              have hbo:A5 x y=⟨x.name,y⟩:=by unfold A5; rw [v1,v2]; rfl
              rw [hbo] at hrun hbind
              obtain ⟨r,hC,hCr⟩:=Cx ⟨[]⟩ hs x.name y e2 (Er v1)
              have hrv:r.sv=.agg [.arr (r.binds.map Bd.d)]:=rfl
              rw [hss,hrv] at hC
              cases o5:BS ⟨x.name,y⟩&&Ct ⟨[]⟩ ⟨[⟨x.name,y⟩]⟩ with
              | false =>
                rw [o5] at hC
                simp only [o5,cond_false,Option.some.injEq] at hrun
                subst hrun
                simp (disch:=omega) only [go_sem,Aa,hni,h0,hlen,hal,hdr,hA,hB,hE,hC,v1,v2,Ac,Ai,Af,An,Al]
                first | rfl | exact ⟨rfl,rfl⟩
              | true =>
                rw [o5] at hC
                obtain rfl:=hCr o5
                simp only [o5,cond_true] at hrun
                rw [Bool.and_eq_true] at o5
                obtain ⟨i1,_⟩:=hbind o4 o5.1 o5.2
                simp (disch:=omega) only [go_sem,Aa,hni,h0,hlen,hal,hdr,hA,hB,hE,hC,v1,v2,Ac,Ai,Af,An,Al]
                exact ⟨(n,false,false,Cn ⟨[]⟩ ⟨[⟨x.name,y⟩]⟩,l),⟨i1,hrun,fun h=>by cases h⟩,by dsimp only; omega,by first | trivial | rfl | (simp only [cond_true,cond_false,List.cons_append,List.nil_append,List.append_nil,and_self])⟩
          | false =>
            have v2:At y.name=true:=by rw [v1,Bool.false_or] at o4; exact o4
            have hbo:A5 x y=⟨y.name,x⟩:=by unfold A5; rw [v1]; rfl
            rw [hbo] at hrun hbind
            obtain ⟨r,hC,hCr⟩:=Cx ⟨[]⟩ hs y.name x e1 (Er v2)
            have hrv:r.sv=.agg [.arr (r.binds.map Bd.d)]:=rfl
            rw [hss,hrv] at hC
            cases o5:BS ⟨y.name,x⟩&&Ct ⟨[]⟩ ⟨[⟨y.name,x⟩]⟩ with
            | false =>
              rw [o5] at hC
              simp only [o5,cond_false,Option.some.injEq] at hrun
              subst hrun
              simp (disch:=omega) only [go_sem,Aa,hni,h0,hlen,hal,hdr,hA,hB,hE,hC,v1,v2,Ac,Ai,Af,An,Al]
              first | rfl | exact ⟨rfl,rfl⟩
            | true =>
              rw [o5] at hC
              obtain rfl:=hCr o5
              simp only [o5,cond_true] at hrun
              rw [Bool.and_eq_true] at o5
              obtain ⟨i1,_⟩:=hbind o4 o5.1 o5.2
              simp (disch:=omega) only [go_sem,Aa,hni,h0,hlen,hal,hdr,hA,hB,hE,hC,v1,v2,Ac,Ai,Af,An,Al]
              exact ⟨(n,false,false,Cn ⟨[]⟩ ⟨[⟨y.name,x⟩]⟩,l),⟨i1,hrun,fun h=>by cases h⟩,by dsimp only; omega,by first | trivial | rfl | (simp only [cond_true,cond_false,List.cons_append,List.nil_append,List.append_nil,and_self])⟩
        | false =>
          simp only [o4,cond_false] at hrun
          have o4':=o4
          rw [Bool.or_eq_false_iff] at o4'
          have v1:=o4'.1
          have v2:=o4'.2
          by_cases o7:x.name=y.name
          · have q7:=eq_true o7
            by_cases o8:x.args.length=y.args.length
            · have q8:((x.args.length:Int)=(y.args.length:Int))=True:=eq_true (by omega)
              simp only [A4 o7,A4 o8,Bool.and_self,cond_true] at hrun
              have i2:=hdec o4'.1
              have hx1:=Tm.AB x.args
              have hx2:=Tm.Ao x
              have ll:=hinv.pop.len
              have hzl:(x.args.zip y.args).length=x.args.length:=by rw [List.length_zip]; omega
              simp (disch:=omega) only [go_sem,Aa,hni,h0,hlen,hal,hdr,hA,hB,hE,v1,v2,q7,q8,Ac,Ai,Af,An,Al]
              refine As (α:=Nat) (fun a=>⟨slots 149 0 [(4,.ptr 0 0),(6,.ptr 1 0),(7,.ptr 2 0),(8,.arr (l.map eqD)),(9,.ptr 3 0),(11,.ptr 4 0),(13,.bool true),(14,.ref 5),(15,.int .i64 (a:Int))],[.box 76 [.nil],.box 76 [.nil],.box 76 [.nil],.box 71 [.str x.name,.arr (x.args.map Tm.d)],.box 71 [.str y.name,.arr (y.args.map Tm.d)],.row 97 4 (((x.args.zip y.args).take a).map eqO)]⟩) (fun a=>a≤x.args.length) (fun a=>x.args.length - a) 0 (Nat.zero_le _) (by simp (disch:=omega) only [go_sem,Aa,List.take_zero,List.map_nil,Ac,Ai,Af,An,Al]; rfl) ?_
              intro k hk
              have hni2:((k:Nat):Int).toNat=k:=Int.toNat_natCast k
              have htl:((x.args.zip y.args).take k).length=k:=by rw [List.length_take]; omega
              rcases Nat.lt_or_ge k x.args.length with hlt | hge
              · have hg1:=Aq Tm.d hlt
                have hlt2:k < y.args.length:=by omega
                have hg2:=Aq Tm.d hlt2
                rw [Tm.d_eq] at hg1 hg2
                have hz:=Gc hlt hlt2
                have hrow:((x.args.zip y.args).take k).map eqO++[[OT.str x.args[k].name,.sh (x.args[k].args.map Tm.d),.str y.args[k].name,.sh (y.args[k].args.map Tm.d)]]=((x.args.zip y.args).take (k+1)).map eqO:=by
                  rw [← hz,List.map_append]; rfl
                simp (disch:=omega) only [go_sem,Aa,hni2,hg1,hg2,hrow,htl,List.length_map,Ac,Ai,Af,An,Al]
                refine ⟨k+1,hlt,by omega,?_⟩
                simp only [Int.natCast_add,Int.natCast_one,and_self]
              · obtain rfl:k=x.args.length:=by omega
                have hfull:(x.args.zip y.args).take x.args.length=x.args.zip y.args:=List.take_of_length_le (by omega)
                have hao:=HT l
                have hot:=KN l
                have happ:(x.args.zip y.args).map eqO++l.map eqO=(x.args.zip y.args++l).map eqO:=by rw [List.map_append]
                rw [hfull] at htl
                simp only [hfull]
                simp (disch:=omega) only [go_sem,Aa,hni2,hao,hot,htl,happ,List.length_map,Ac,Ai,Af,An,Al]
                refine ⟨(n,true,true,⟨[]⟩,x.args.zip y.args++l),⟨i2,hrun,hsn⟩,by dsimp only; omega,?_⟩
                first | trivial | rfl | simp only [cond_true,cond_false,List.cons_append,List.nil_append,and_self]
            · have q8:((x.args.length:Int)=(y.args.length:Int))=False:=eq_false (by omega)
              simp only [A4 o7,AC o8,Bool.and_false,cond_false,Option.some.injEq] at hrun
              subst hrun
              simp (disch:=omega) only [go_sem,Aa,hni,h0,hlen,hal,hdr,hA,hB,hE,v1,v2,q7,q8,Ac,Ai,Af,An,Al]
              first | rfl | exact ⟨rfl,rfl⟩
          · have q7:=eq_false o7
            simp only [AC o7,Bool.false_and,cond_false,Option.some.injEq] at hrun
            subst hrun
            simp (disch:=omega) only [go_sem,Aa,hni,h0,hlen,hal,hdr,hA,hB,hE,v1,v2,q7,Ac,Ai,Af,An,Al]
            first | rfl | exact ⟨rfl,rfl⟩
end Go.Proofs.YtibdknkacmimgaaGreatDoor
