/-
  This text holds, one behind the other: This text tells what unifying answers in the reference. No condition.
  This text tells what resolvents and factors answer in the reference. No condition.
  This text holds plain laws of the sizes of clauses, for the laws of the program. No condition.
  This text holds sizes of what factors and resolvents come to. No condition.
  This text tells what the law of Factor answers. No condition.
  This text opens arguments: slices of integers, of structs, of tables: what is read as data lies in memory as our words say. No condition.
  This text opens arguments: what is read as data, terms and formulas, lies in memory as our words say. No condition.
  This text turns a function's answer into a walk of the kit's form, and opens arguments that are clauses. No condition.
-/
import Derived.Test.YtibdknkacmimgaaGreatDoorK46b
import Derived.Test.YtibdknkacmimgaaGreatDoorK46c
import Derived.Test.YtibdknkacmimgaaGreatDoorK46d
import Derived.Test.YtibdknkacmimgaaGreatDoorK46e
import Derived.Test.YtibdknkacmimgaaGreatDoorK46j
import Derived.Test.YtibdknkacmimgaaGreatDoorK46k
import Derived.Test.YtibdknkacmimgaaGreatDoorK46l
import Derived.Test.YtibdknkacmimgaaGreatDoorK46m
import Derived.Test.YtibdknkacmimgaaGreatDoorK46n
import Derived.ProofKit
import Derived.Deep.Slices
import Derived.Deep.Fields
import Derived.ChangeSame
import Derived.OpenShut
import Derived.ShutString
import Derived.ChangeOld
set_option maxHeartbeats 16000000
set_option maxRecDepth 100000
set_option linter.unusedSimpArgs false
set_option linter.unusedVariables false
set_option linter.unusedSectionVars false
namespace Go.Proofs.YtibdknkacmimgaaGreatDoor
open Go.RowKit
theorem QaB (a b:Tm) (ha:a.expr=true) (hb:b.expr=true) (n:Nat) (total:Option Sb) (hr:BB n ⟨[]⟩ [(a,b)]=some total):E 50 [a.sv,b.sv] []=some (.tup [(uTo total).sv,.bool (uOk total)],[]):=by
  have hres:∀ t:Sb,t.sv=.agg [.arr (t.binds.map Bd.d)]:=fun t=>rfl
  rw [hres]
  refine Ah RH Hk (of_decide_eq_true rfl) ?_
  simp (disch:=omega) only [KI,go_sem,Aa]
  refine go_loop (α:=Nat × Bool × Bool × Sb × List (Tm × Tm)) u5H (u5R total) (fun a=>a.1) (n,true,true,⟨[]⟩,[(a,b)]) ⟨uInv.start ha hb,hr,fun _=>rfl⟩ (by simp (disch:=omega) only [go_sem,Aa,u5H]; rfl) ?_
  clear hr ha hb
  rintro ⟨n,sn,lo,s,l⟩ ⟨hinv,hrun,hsn⟩
  dsimp only at hinv hrun hsn
  have hs:=hinv.ok
  have hst:=E0 hs
  cases n with
  | zero=>rw [BB] at hrun; cases hrun
  | succ n =>
  cases l with
  | nil =>
    rw [BB] at hrun
    obtain rfl:=Option.some.inj hrun
    have hk:uTo (some s)=s:=rfl
    rw [hk]
    cases sn with
    | true =>
      obtain rfl:s=⟨[]⟩:=by obtain ⟨bs⟩:=s; have:=hsn rfl; rw [show bs=[] from this]
      cases lo with
      | true =>
        simp (disch:=omega) only [go_sem,Aa,u5H,uOk,Option.isSome_some,List.map_nil]
        try rfl
      | false =>
        simp (disch:=omega) only [go_sem,Aa,u5H,uOk,Option.isSome_some,List.map_nil]
        try rfl
    | false =>
      cases lo with
      | true =>
        simp (disch:=omega) only [go_sem,Aa,u5H,uOk,Option.isSome_some,List.map_nil]
        try rfl
      | false =>
        simp (disch:=omega) only [go_sem,Aa,u5H,uOk,Option.isSome_some,List.map_nil]
        try rfl
  | cons p l =>
    have hcmb:(sn=true∧lo=true)∨(sn=true∧lo=false)∨(sn=false∧lo=true)∨(sn=false∧lo=false):=by cases sn <;> cases lo <;> simp
    rcases hcmb with ⟨rfl,rfl⟩ | ⟨rfl,rfl⟩ | ⟨rfl,rfl⟩ | ⟨rfl,rfl⟩
    · exact QdT total n s p l hinv hrun hsn
    · exact QdU total n s p l hinv hrun hsn
    · exact QdV total n s p l hinv hrun hsn
    · exact QdW total n s p l hinv hrun hsn
def HO:SC:=(.seq (.reg [⟨some 4,none,.mv (.c .nil)⟩]) (.seq (.dreg [[],[],[],[1,2],[0,3,1,2],[],[],[6],[5,7,6],[4,0,3,1,2,8,5,7,6],[9,4,0,3,1,2,8,5,7,6]] [⟨(some 5),none,(.mkrow 73 3 [(.bool false),(.str ⟨#[]⟩),.nil] 0 [])⟩,⟨some 6,none,.mv (.t 0)⟩,⟨some 7,none,.mv (.t 1)⟩,⟨some 8,none,.slice false 3 (.t 6) none (some (.t 7))⟩,⟨(some 9),none,(.append 73 3 48 [(.bool false),(.str ⟨#[]⟩),.nil] (.t 5) (.t 8))⟩,⟨some 10,none,.mv (.t 0)⟩,⟨some 11,none,.mv (.t 1)⟩,⟨some 12,none,.bin .add false (.t 11) (.c (.int .i64 1))⟩,⟨some 13,none,.slice false 3 (.t 10) (some (.t 12)) none⟩,⟨(some 14),none,(.append 73 3 48 [(.bool false),(.str ⟨#[]⟩),.nil] (.t 9) (.t 13))⟩,⟨some 4,none,.mv (.t 14)⟩]) .ret))
theorem N1:codeOf Tryz.prog 52=some ⟨15,HO,[(.tmp 4)]⟩:=by kernel_rfl
theorem HP:modes 52=⟨[],.asis,none,false⟩:=by unfold modes; rfl
theorem UI (l:List Lt) (hl:l.length≤1048575) (p:Nat) (h1:p<l.length):E 52 [.arr (l.map Lt.d),.int .i64 (p:Int)] []=some (.ref 0,[.row 73 3 ((l.eraseIdx p).map (fun b:Lt=>b.d.map D.ot))]):=by
 have tp:=Int.toNat_natCast p
 have tp1:((p:Int)+1).toNat=p+1:=by omega
 have e1:=Lt.ot_take l p
 have e2:=Lt.ot_drop l (p+1)
 have e6:=Lt.ald3 l
 have e7:(l.map Lt.d).take l.length=l.map Lt.d:=List.take_of_length_le (by rw [List.length_map]; exact Nat.le_refl _)
 have e8:((l.map Lt.d).drop (p+1)).length=l.length-(p+1):=by rw [List.length_drop,List.length_map]
 have e3:=Lt.al3 (l.take p)
 have e4:=Lt.al3 (l.drop (p+1))
 have hlt:(l.take p).length=p:=by rw [List.length_take]; omega
 have hld:(l.drop (p+1)).length=l.length-(p+1):=List.length_drop
 have e5:(l.take p).map (fun b:Lt=>b.d.map D.ot)++(l.drop (p+1)).map (fun b:Lt=>b.d.map D.ot)=(l.eraseIdx p).map (fun b:Lt=>b.d.map D.ot):=by rw [←List.map_append,List.eraseIdx_eq_take_drop_succ]
 refine Ah N1 HP (of_decide_eq_true rfl) ?_
 simp (disch:=omega) only [HO,go_sem,Aa,tp,tp1,e1,e2,e3,e4,e5,e6,e7,e8,hlt,hld]
def Eb:SC:=(.seq (.reg [⟨some 2,none,.boxv 76 1 (.t 0)⟩,⟨some 4,none,.alloc 28 [.nil]⟩,⟨some 5,none,.mv (.c (.bool false))⟩]) (.seq (.reg [⟨some 11,none,.load true 1 (.t 2)⟩,⟨some 12,none,.mv (.t 1)⟩,⟨some 13,none,.call 79 [(.t 11),(.t 12)]⟩,⟨some 10,none,.mv (.t 13)⟩,⟨some 14,none,.ext (.t 10) 0⟩,⟨some 15,none,.ext (.t 10) 1⟩,⟨some 6,none,.alloc 28 [.nil]⟩,⟨none,none,(.store 1 (.t 6) (.t 14))⟩,⟨some 7,none,.mv (.t 15)⟩]) (.seq (.seq (.reg [⟨some 16,none,.mv (.t 7)⟩,⟨some 17,none,.un .not (.t 16)⟩]) (.cond (.t 17) (.seq (.reg [⟨some 18,none,.build [.nil] []⟩,⟨none,none,(.store 1 (.t 4) (.t 18))⟩,⟨some 5,none,.mv (.c (.bool false))⟩]) .ret) .skip)) (.seq (.reg [⟨some 20,none,.load true 1 (.t 6)⟩,⟨some 21,none,.call 80 [(.t 20)]⟩,⟨some 19,none,.mv (.t 21)⟩,⟨some 22,none,.ext (.t 19) 0⟩,⟨some 23,none,.ext (.t 19) 1⟩,⟨some 8,none,.alloc 28 [.nil]⟩,⟨none,none,(.store 1 (.t 8) (.t 22))⟩,⟨some 9,none,.mv (.t 23)⟩]) (.seq (.seq (.reg [⟨some 24,none,.mv (.t 9)⟩,⟨some 25,none,.un .not (.t 24)⟩,⟨some 26,none,.mv (.t 25)⟩,⟨(some 27),(some (26,false)),(.load true 1 (.t 8))⟩,⟨(some 28),(some (26,false)),(.call 48 [(.t 27)])⟩,⟨(some 29),(some (26,false)),(.un .not (.t 28))⟩,⟨some 30,none,.pick (.t 26) (.c (.bool true)) (.t 29)⟩]) (.cond (.t 30) (.seq (.reg [⟨some 31,none,.build [.nil] []⟩,⟨none,none,(.store 1 (.t 4) (.t 31))⟩,⟨some 5,none,.mv (.c (.bool false))⟩]) .ret) .skip)) (.seq (.reg [⟨some 32,none,.load true 1 (.t 8)⟩,⟨none,none,(.store 1 (.t 4) (.t 32))⟩,⟨some 5,none,.mv (.c (.bool true))⟩]) .ret))))))
theorem F0:codeOf Tryz.prog 51=some ⟨33,Eb,[(.cell 4 true 1),(.tmp 5)]⟩:=by kernel_rfl
theorem Ec:modes 51=⟨[],.frz,none,false⟩:=by unfold modes; rfl
theorem WT (s:Sb) (hs:s.ok=true) (ht:s.tame) (l:List Lt) (hl:l.length≤1048576) (hal:∀ x∈l,x.atom.atom=true):E 51 [s.sv,.arr (l.map Lt.d)] []=some (.tup [(Su s l).sv,.bool (FT s l)],[]):=by
 have h1:=Qax s hs ht l hl hal
 have hsv:∀ d:Cl,d.sv=.agg [.arr (d.lits.map Lt.d)]:=fun d=>rfl
 have hss:s.sv=.agg [.arr (s.binds.map Bd.d)]:=rfl
 rw [hss,hsv] at h1
 rw [hss,hsv]
 cases hok:Eg s l with
 | false =>
  have ho:FT s l=false:=by unfold FT; rw [hok]; rfl
  have hz:(Cl.mk []).lits=[]:=rfl
  rw [Og hok,hok] at h1
  rw [Nv ho,ho]
  refine Ah F0 Ec (of_decide_eq_true rfl) ?_
  simp (disch:=omega) only [Eb,go_sem,Aa,h1,EU]
 | true =>
  have hc:=Y5 hok
  obtain ⟨c,hcc⟩:∃ c,c=apC s l:=⟨_,rfl⟩
  rw [←hcc] at hc h1
  have h2:=YB c hc
  have hn:=Z8 10 hc
  have h3:=Jt (nz 10 c) hn
  rw [hok] at h1
  rw [hsv,hsv] at h2
  rw [hsv] at h3
  have hio:FT s l=(nz 10 c).norm:=by unfold FT; rw [hok,Bool.true_and,hcc]
  cases hm:(nz 10 c).norm with
  | false =>
   rw [hm] at h3 hio
   rw [Nv hio,hio]
   refine Ah F0 Ec (of_decide_eq_true rfl) ?_
   simp (disch:=omega) only [Eb,go_sem,Aa,h1,h2,h3,Gk,BN,EU]
  | true =>
   rw [hm] at h3 hio
   rw [RD hio,hio,← hcc]
   refine Ah F0 Ec (of_decide_eq_true rfl) ?_
   simp (disch:=omega) only [Eb,go_sem,Aa,h1,h2,h3,Gk,BN,EU]
theorem YC (a b:Tm) (ha:a.atom=true) (hb:b.atom=true):E 50 [a.sv,b.sv] []=some (.tup [(uTo (unR a b)).sv,.bool (uOk (unR a b))],[]):=by
 obtain ⟨n,hn⟩:=RC (Tm.Ca ha) (Tm.Ca hb)
 exact QaB a b (Tm.Ca ha) (Tm.Ca hb) n _ hn
theorem QaC (c:Cl) (i k:Int) (hi:hasB c i=true):(dec (i+1≤k)&&dec (k≤(c.lits.length:Int)-1))=(hasB c k&&dec (i<k)):=by
 obtain ⟨p,rfl,hp⟩:=Nw hi
 unfold hasB
 by_cases h1:(p:Int)+1≤k
 ·rw [Ay h1,Ay (show (p:Int)<k by omega),Ay (show 0≤k by omega)]
  simp
 ·rw [A8 h1,A8 (show ¬ (p:Int)<k by omega)]
  simp
def Cy:SC:=(.seq (.reg [⟨some 3,none,.boxv 28 1 (.t 0)⟩,⟨some 6,none,.alloc 28 [.nil]⟩,⟨some 7,none,.mv (.c (.bool false))⟩]) (.seq (.seq (.dreg [[],[],[1],[2,1],[3,2,1],[0,4,3,2,1],[5,0,4,3,2,1],[6,5,0,4,3,2,1],[7,6,5,0,4,3,2,1],[7,6,5,0,4,3,2,1],[9,7,6,5,0,4,3,2,1],[7,6,5,0,4,3,2,1],[11,7,6,5,0,4,3,2,1],[12,11,7,6,5,0,4,3,2,1],[13,12,11,7,6,5,0,4,3,2,1],[8,7,6,5,0,4,3,2,1,10,9,14,13,12,11],[15,8,7,6,5,0,4,3,2,1,10,9,14,13,12,11],[7,6,5,0,4,3,2,1,16,15,8,10,9,14,13,12,11],[17,7,6,5,0,4,3,2,1,16,15,8,10,9,14,13,12,11],[18,17,7,6,5,0,4,3,2,1,16,15,8,10,9,14,13,12,11],[19,18,17,7,6,5,0,4,3,2,1,16,15,8,10,9,14,13,12,11],[18,17,7,6,5,0,4,3,2,1,16,15,8,10,9,14,13,12,11],[20,19,18,17,7,6,5,0,4,3,2,1,16,15,8,10,9,14,13,12,11,21],[22,20,19,18,17,7,6,5,0,4,3,2,1,16,15,8,10,9,14,13,12,11,21],[23,22,20,19,18,17,7,6,5,0,4,3,2,1,16,15,8,10,9,14,13,12,11,21],[18,17,7,6,5,0,4,3,2,1,16,15,8,10,9,14,13,12,11],[25,18,17,7,6,5,0,4,3,2,1,16,15,8,10,9,14,13,12,11],[18,17,7,6,5,0,4,3,2,1,16,15,8,10,9,14,13,12,11],[26,25,18,17,7,6,5,0,4,3,2,1,16,15,8,10,9,14,13,12,11,27],[28,26,25,18,17,7,6,5,0,4,3,2,1,16,15,8,10,9,14,13,12,11,27],[29,28,26,25,18,17,7,6,5,0,4,3,2,1,16,15,8,10,9,14,13,12,11,27],[24,23,22,20,19,18,17,7,6,5,0,4,3,2,1,16,15,8,10,9,14,13,12,11,21,30,29,28,26,25,27],[18,17,7,6,5,0,4,3,2,1,16,15,8,10,9,14,13,12,11,31,24,23,22,20,19,21,30,29,28,26,25,27]] [⟨some 10,none,.mv (.t 1)⟩,⟨some 11,none,.faddr 0 (.t 3)⟩,⟨some 12,none,.load false 1 (.t 11)⟩,⟨some 13,none,.len false (.t 12)⟩,⟨some 14,none,.bin .sub false (.t 13) (.c (.int .i64 1))⟩,⟨some 15,none,.call 49 [(.t 10),(.c (.int .i64 0)),(.t 14)]⟩,⟨some 16,none,.un .not (.t 15)⟩,⟨some 17,none,.mv (.t 16)⟩,⟨(some 18),(some (17,false)),(.mv (.t 2))⟩,⟨(some 19),(some (17,false)),(.mv (.t 1))⟩,⟨(some 20),(some (17,false)),(.bin .add false (.t 19) (.c (.int .i64 1)))⟩,⟨(some 21),(some (17,false)),(.faddr 0 (.t 3))⟩,⟨(some 22),(some (17,false)),(.load false 1 (.t 21))⟩,⟨(some 23),(some (17,false)),(.len false (.t 22))⟩,⟨(some 24),(some (17,false)),(.bin .sub false (.t 23) (.c (.int .i64 1)))⟩,⟨(some 25),(some (17,false)),(.call 49 [(.t 18),(.t 20),(.t 24)])⟩,⟨(some 26),(some (17,false)),(.un .not (.t 25))⟩,⟨some 27,none,.pick (.t 17) (.c (.bool true)) (.t 26)⟩,⟨some 28,none,.mv (.t 27)⟩,⟨(some 29),(some (28,false)),(.faddr 0 (.t 3))⟩,⟨(some 30),(some (28,false)),(.load false 1 (.t 29))⟩,⟨(some 31),(some (28,false)),(.mv (.t 1))⟩,⟨(some 32),(some (28,false)),(.iaddr 3 (.t 30) (.t 31))⟩,⟨(some 33),(some (28,false)),(.faddr 0 (.t 32))⟩,⟨(some 34),(some (28,false)),(.load false 1 (.t 33))⟩,⟨(some 35),(some (28,false)),(.faddr 0 (.t 3))⟩,⟨(some 36),(some (28,false)),(.load false 1 (.t 35))⟩,⟨(some 37),(some (28,false)),(.mv (.t 2))⟩,⟨(some 38),(some (28,false)),(.iaddr 3 (.t 36) (.t 37))⟩,⟨(some 39),(some (28,false)),(.faddr 0 (.t 38))⟩,⟨(some 40),(some (28,false)),(.load false 1 (.t 39))⟩,⟨(some 41),(some (28,false)),(.bin .neq true (.t 34) (.t 40))⟩,⟨some 42,none,.pick (.t 28) (.c (.bool true)) (.t 41)⟩]) (.cond (.t 42) (.seq (.reg [⟨some 43,none,.build [.nil] []⟩,⟨none,none,(.store 1 (.t 6) (.t 43))⟩,⟨some 7,none,.mv (.c (.bool false))⟩]) .ret) .skip)) (.seq (.dreg [[],[0],[],[1,0,2],[3,1,0,2],[4,3,1,0,2],[],[6],[],[7,6,8],[9,7,6,8],[10,9,7,6,8],[5,4,3,1,0,2,11,10,9,7,6,8],[12,5,4,3,1,0,2,11,10,9,7,6,8],[13,12,5,4,3,1,0,2,11,10,9,7,6,8],[13,12,5,4,3,1,0,2,11,10,9,7,6,8],[],[16,14,13,12,5,4,3,1,0,2,11,10,9,7,6,8],[15,13,12,5,4,3,1,0,2,11,10,9,7,6,8,17,16,14]] [⟨some 45,none,.faddr 0 (.t 3)⟩,⟨some 46,none,.load false 1 (.t 45)⟩,⟨some 47,none,.mv (.t 1)⟩,⟨some 48,none,.iaddr 3 (.t 46) (.t 47)⟩,⟨some 49,none,.faddr 1 (.t 48)⟩,⟨some 50,none,.load true 2 (.t 49)⟩,⟨some 51,none,.faddr 0 (.t 3)⟩,⟨some 52,none,.load false 1 (.t 51)⟩,⟨some 53,none,.mv (.t 2)⟩,⟨some 54,none,.iaddr 3 (.t 52) (.t 53)⟩,⟨some 55,none,.faddr 1 (.t 54)⟩,⟨some 56,none,.load true 2 (.t 55)⟩,⟨some 57,none,.call 50 [(.t 50),(.t 56)]⟩,⟨some 44,none,.mv (.t 57)⟩,⟨some 58,none,.ext (.t 44) 0⟩,⟨some 59,none,.ext (.t 44) 1⟩,⟨some 8,none,.alloc 76 [.nil]⟩,⟨none,none,(.store 1 (.t 8) (.t 58))⟩,⟨some 9,none,.mv (.t 59)⟩]) (.seq (.seq (.reg [⟨some 60,none,.mv (.t 9)⟩,⟨some 61,none,.un .not (.t 60)⟩]) (.cond (.t 61) (.seq (.reg [⟨some 62,none,.build [.nil] []⟩,⟨none,none,(.store 1 (.t 6) (.t 62))⟩,⟨some 7,none,.mv (.c (.bool false))⟩]) .ret) .skip)) (.seq (.dreg [[],[],[1],[],[2,1,3],[0,4,2,1,3],[5,0,4,2,1,3],[5,0,4,2,1,3],[6,5,0,4,2,1,3,7],[7,5,0,4,2,1,3,8,6]] [⟨some 63,none,.load true 1 (.t 8)⟩,⟨some 64,none,.faddr 0 (.t 3)⟩,⟨some 65,none,.load false 1 (.t 64)⟩,⟨some 66,none,.mv (.t 2)⟩,⟨some 67,none,.call 52 [(.t 65),(.t 66)]⟩,⟨some 68,none,.call 51 [(.t 63),(.t 67)]⟩,⟨some 69,none,.ext (.t 68) 0⟩,⟨some 70,none,.ext (.t 68) 1⟩,⟨none,none,(.store 1 (.t 6) (.t 69))⟩,⟨some 7,none,.mv (.t 70)⟩]) .ret)))))
theorem Da:codeOf Tryz.prog 30=some ⟨71,Cy,[(.cell 6 true 1),(.tmp 7)]⟩:=by kernel_rfl
theorem Cz:modes 30=⟨[],.frz,none,false⟩:=by unfold modes; rfl
theorem WU (c:Cl) (hc:c.ok=true) (i k:Int):E 30 [c.sv,.int .i64 i,.int .i64 k] []=some (.tup [(RE c i k).sv,.bool (OU c i k)],[]):=by
 have hl:=Cl.ok_len hc
 have hsv:∀ d:Cl,d.sv=.agg [.arr (d.lits.map Lt.d)]:=fun d=>rfl
 have h1:=ZG i 0 ((c.lits.length:Int)-1)
 have h2:=ZG k (i+1) ((c.lits.length:Int)-1)
 rw [show (dec (0≤i)&&dec (i≤(c.lits.length:Int)-1))=hasB c i from rfl] at h1
 rw [hsv,hsv]
 cases hi:hasB c i with
 | false =>
  obtain ⟨e1,e2⟩:=Jq (Jr (show IM c i k=false by unfold IM; rw [hi]; rfl))
  rw [hi] at h1
  rw [e1,e2]
  refine Ah Da Cz (of_decide_eq_true rfl) ?_
  simp (disch:=omega) only [Cy,go_sem,Aa,h1,h2,CJ]
 | true =>
 rw [hi] at h1
 rw [QaC c i k hi] at h2
 obtain ⟨p,rfl,hp⟩:=Nw hi
 have hP:IM c p k=((hasB c k&&dec ((p:Int)<k))&&((Sv c p).pos == (Sv c k).pos)):=by unfold IM; rw [hi,Bool.true_and,Bool.and_assoc]
 cases hk:hasB c k&&dec ((p:Int)<k) with
 | false =>
  obtain ⟨e1,e2⟩:=Jq (Jr (show IM c p k=false by rw [hP,hk]; rfl))
  rw [hk] at h2
  rw [e1,e2]
  refine Ah Da Cz (of_decide_eq_true rfl) ?_
  simp (disch:=omega) only [Cy,go_sem,Aa,h1,h2,CJ]
 | true =>
 rw [hk] at h2
 have hk':=hk
 rw [Bool.and_eq_true] at hk'
 obtain ⟨q,rfl,hq⟩:=Nw hk'.1
 have hgp:=get_at Lt.d hp
 have hgq:=get_at Lt.d hq
 rw [Lt.d_eq] at hgp hgq
 have tp:=Int.toNat_natCast p
 have tq:=Int.toNat_natCast q
 have ap:=Cl.CZ hc _ (List.getElem_mem hp)
 have aq:=Cl.CZ hc _ (List.getElem_mem hq)
 have lp:=P8 hp
 have lq:=P8 hq
 cases hpp:c.lits[p].pos == c.lits[q].pos with
 | false =>
  obtain ⟨e1,e2⟩:=Jq (Jr (show IM c p q=false by rw [hP,lp,lq,hpp,Bool.and_false]))
  rw [e1,e2]
  refine Ah Da Cz (of_decide_eq_true rfl) ?_
  simp (disch:=omega) only [Cy,go_sem,Aa,h1,h2,CJ,hgp,hgq,tp,tq,hpp]
 | true =>
  have hT:=WR (show IM c p q=true by rw [hP,hk,lp,lq,hpp]; rfl)
  rw [lp,lq] at hT
  have h3:=YC _ _ ap aq
  have hsp:c.lits[p].atom.sv=.agg [.str c.lits[p].atom.name,.arr (c.lits[p].atom.args.map Tm.d)]:=rfl
  have hsq:c.lits[q].atom.sv=.agg [.str c.lits[q].atom.name,.arr (c.lits[q].atom.args.map Tm.d)]:=rfl
  rw [hsp,hsq] at h3
  cases hu:unR c.lits[p].atom c.lits[q].atom with
  | none =>
   rw [hu] at hT h3
   have hus:uTo none=⟨[]⟩:=rfl
   have huo:uOk none=false:=rfl
   have hso:(Sb.mk []).sv=.agg [.arr []]:=rfl
   rw [hus,huo,hso] at h3
   obtain ⟨e1,e2⟩:=Jq hT
   rw [e1,e2]
   refine Ah Da Cz (of_decide_eq_true rfl) ?_
   simp (disch:=omega) only [Cy,go_sem,Aa,h1,h2,CJ,hgp,hgq,tp,tq,hpp,h3,Hk]
  | some s =>
   have hs:=Qcl (Tm.Ca ap) (Tm.Ca aq) hu
   rw [hu] at hT h3
   obtain ⟨e1,e2⟩:=WQ hT
   rw [tq] at e1 e2
   rw [e1,e2]
   have h4:=UI c.lits (by omega) q hq
   have h5:=WT s hs (E0 hs) (c.lits.eraseIdx q) (by have:=T9 hc q; omega) (OV hc q)
   have her:=Lt.der (c.lits.eraseIdx q)
   have hfu:=Lt.dfu (c.lits.eraseIdx q)
   have hus:uTo (some s)=s:=rfl
   have huo:uOk (some s)=true:=rfl
   have hss:s.sv=.agg [.arr (s.binds.map Bd.d)]:=rfl
   rw [hus,huo,hss] at h3
   rw [hss,hsv] at h5
   refine Ah Da Cz (of_decide_eq_true rfl) ?_
   simp (disch:=omega) only [Cy,go_sem,Aa,h1,h2,CJ,hgp,hgq,tp,tq,hpp,h3,h4,h5,her,hfu,Hk,HP,Ec]
def Im:SC:=(.seq (.reg [⟨some 3,none,.boxv 28 1 (.t 0)⟩,⟨some 6,none,.alloc 28 [.nil]⟩,⟨some 7,none,.mv (.c (.bool false))⟩]) (.seq (.seq (.reg [⟨some 8,none,.load true 1 (.t 3)⟩,⟨some 9,none,.call 29 [(.t 8)]⟩,⟨some 10,none,.un .not (.t 9)⟩]) (.cond (.t 10) (.seq (.reg [⟨some 11,none,.build [.nil] []⟩,⟨none,none,(.store 1 (.t 6) (.t 11))⟩,⟨some 7,none,.mv (.c (.bool false))⟩]) .ret) .skip)) (.seq (.reg [⟨some 12,none,.load true 1 (.t 3)⟩,⟨some 13,none,.mv (.t 1)⟩,⟨some 14,none,.mv (.t 2)⟩,⟨some 15,none,.call 30 [(.t 12),(.t 13),(.t 14)]⟩,⟨some 16,none,.ext (.t 15) 0⟩,⟨some 17,none,.ext (.t 15) 1⟩,⟨none,none,(.store 1 (.t 6) (.t 16))⟩,⟨some 7,none,.mv (.t 17)⟩]) .ret)))
theorem LI:codeOf Tryz.prog 9=some ⟨18,Im,[(.cell 6 true 1),(.tmp 7)]⟩:=by kernel_rfl
theorem D5:modes 9=⟨[],.frz,none,false⟩:=by unfold modes; rfl
theorem UJ (c:Cl) (hc:c.tame) (i k:Int):E 9 [c.sv,.int .i64 i,.int .i64 k] []=some (.tup [(Sw c i k).sv,.bool (Y6 c i k)],[]):=by
 have hsv:∀ d:Cl,d.sv=.agg [.arr (d.lits.map Lt.d)]:=fun d=>rfl
 have h1:=Y9 c hc
 rw [hsv] at h1
 rw [hsv,hsv]
 cases hr:c.ok&&c.norm with
 | false =>
  rw [hr] at h1
  obtain ⟨e1,e2⟩:=Qdy (i:=i) (k:=k) hr
  rw [e1,e2]
  refine Ah LI D5 (of_decide_eq_true rfl) ?_
  simp (disch:=omega) only [Im,go_sem,Aa,h1,E3]
 | true =>
  rw [hr] at h1
  obtain ⟨e1,e2⟩:=Qcn (i:=i) (k:=k) hr
  rw [Bool.and_eq_true] at hr
  have h2:=WU c hr.1 i k
  rw [hsv,hsv] at h2
  rw [e1,e2]
  refine Ah LI D5 (of_decide_eq_true rfl) ?_
  simp (disch:=omega) only [Im,go_sem,Aa,h1,h2,E3,Cz]
theorem Cl.Qcq (x:Cl) (h:x.bulk≤1048576):x.tame:=by
 rw [Cl.bulk_eq] at h
 refine ⟨by omega,fun y hy=>?_⟩
 obtain ⟨k,hk,rfl⟩:=List.getElem_of_mem hy
 have h1:=Lt.bulk_le x.lits k hk
 have h2:=Tm.Ra x.lits[k].atom
 rw [Lt.bulk_eq] at h1
 omega
theorem Tm.QaD {x:Tm} (h:x.atom=true):x.bulk≤300:=by
 have hx:=Tm.Ca h
 have hn:=Tm.Ar hx
 have h1:=Tm.Mg x.args fun y hy=>Tm.Rb y (Tm.I7 hx hy)
 have h2:x.name.size≤6:=by
  rcases Tm.Jl hx with h3 | ⟨h3,_⟩
  ·rw [Tm.Em] at h3
   split at h3
   ·rename_i hv; exact Ts hv
   ·rw [Bool.and_eq_true,Bool.and_eq_true] at h3; exact Tt h3.1.1
  ·unfold Tm.eqn at h3
   rw [Au.1 h3]; decide
 rw [Tm.An] at hn
 rw [Tm.bulk_eq]
 omega
theorem Lt.RI:∀ xs:List Lt,(∀ x∈xs,x.atom.atom=true)→Lt.sumB xs≤300*xs.length
 | [],_=>by simp [Lt.sumB]
 | x :: xs,h=>by
  have h1:=Tm.QaD (h x (by simp))
  have h2:=Lt.RI xs fun y hy=>h y (by simp [hy])
  rw [Lt.sumB,Lt.bulk_eq,List.length_cons]; omega
theorem Cl.Qdn {x:Cl} (h:x.ok=true):x.bulk≤2408:=by
 have h1:=Cl.ok_len h
 have h2:=Lt.RI x.lits (Cl.CZ h)
 rw [Cl.bulk_eq]; omega
theorem Cl.Oy:(Cl.mk []).bulk≤2408:=by
 rw [Cl.bulk_eq]
 show 0+Lt.sumB []≤2408
 simp [Lt.sumB]
theorem QaE (s:Sb) (l:List Lt):(Su s l).bulk≤2408:=by
 cases h:FT s l with
 | false=>rw [Nv h]; exact Cl.Oy
 | true =>
  rw [RD h]
  unfold FT at h
  rw [Bool.and_eq_true] at h
  exact Cl.Qdn (Z8 10 (Y5 h.1))
theorem QaF (c:Cl) (i k:Int):(RE c i k).bulk≤2408:=by
 unfold RE
 cases UF c i k with
 | none=>exact Cl.Oy
 | some s=>exact QaE s _
theorem QaG (c:Cl) (i k:Int):(Sw c i k).bulk≤1048576:=by
 have h1:=QaF c i k
 have h2:=Cl.Oy
 unfold Sw
 cases c.ok&&c.norm
 ·rw [cond_false]; omega
 ·rw [cond_true]; omega
def DW:SC:=(.seq (.reg [⟨some 3,none,.boxv 24 1 (.t 0)⟩,⟨some 6,none,.mv (.c (.bool false))⟩]) (.seq (.reg [⟨some 7,none,.mv (.c (.int .i64 1048576))⟩]) (.seq (.reg [⟨some 18,none,.load true 1 (.t 3)⟩,⟨some 19,none,.mv (.t 7)⟩,⟨some 20,none,.call 8 [(.t 18),(.t 19)]⟩,⟨some 7,none,.mv (.t 20)⟩]) (.seq (.seq (.reg [⟨some 21,none,.mv (.t 7)⟩,⟨some 22,none,.bin .lss false (.t 21) (.c (.int .i64 0))⟩]) (.cond (.t 22) (.seq (.reg [⟨some 6,none,.mv (.c (.bool true))⟩]) .ret) .skip)) (.seq (.reg [⟨some 24,none,.load true 1 (.t 3)⟩,⟨some 25,none,.call 10 [(.t 24)]⟩,⟨some 26,none,.mv (.t 1)⟩,⟨some 27,none,.mv (.t 2)⟩,⟨some 28,none,.call 9 [(.t 25),(.t 26),(.t 27)]⟩,⟨some 23,none,.mv (.t 28)⟩,⟨some 29,none,.ext (.t 23) 0⟩,⟨some 30,none,.ext (.t 23) 1⟩,⟨some 8,none,.alloc 28 [.nil]⟩,⟨none,none,(.store 1 (.t 8) (.t 29))⟩,⟨some 9,none,.mv (.t 30)⟩]) (.seq (.reg [⟨some 31,none,.load true 1 (.t 3)⟩,⟨some 32,none,.call 10 [(.t 31)]⟩,⟨some 10,none,.alloc 28 [.nil]⟩,⟨none,none,(.store 1 (.t 10) (.t 32))⟩]) (.seq (.reg [⟨some 34,none,.load true 1 (.t 10)⟩,⟨some 35,none,.mv (.t 1)⟩,⟨some 36,none,.mv (.t 2)⟩,⟨some 37,none,.call 11 [(.t 34),(.t 35),(.t 36)]⟩,⟨some 33,none,.mv (.t 37)⟩,⟨some 38,none,.ext (.t 33) 0⟩,⟨some 39,none,.ext (.t 33) 1⟩,⟨some 11,none,.alloc 28 [.nil]⟩,⟨none,none,(.store 1 (.t 11) (.t 38))⟩,⟨some 12,none,.mv (.t 39)⟩]) (.seq (.seq (.reg [⟨some 40,none,.load true 1 (.t 11)⟩,⟨some 41,none,.load true 1 (.t 8)⟩,⟨some 42,none,.call 12 [(.t 40),(.t 41)]⟩,⟨some 43,none,.un .not (.t 42)⟩,⟨some 44,none,.mv (.t 43)⟩,⟨(some 45),(some (44,false)),(.mv (.t 12))⟩,⟨(some 46),(some (44,false)),(.mv (.t 9))⟩,⟨(some 47),(some (44,false)),(.bin .neq true (.t 45) (.t 46))⟩,⟨some 48,none,.pick (.t 44) (.c (.bool true)) (.t 47)⟩]) (.cond (.t 48) (.seq (.reg [⟨some 6,none,.mv (.c (.bool false))⟩]) .ret) .skip)) (.seq (.seq (.dreg [[],[],[1],[0,2,1],[3,0,2,1]] [⟨some 49,none,.load true 1 (.t 10)⟩,⟨some 50,none,.load true 1 (.t 3)⟩,⟨some 51,none,.call 10 [(.t 50)]⟩,⟨some 52,none,.call 12 [(.t 49),(.t 51)]⟩,⟨some 53,none,.un .not (.t 52)⟩]) (.cond (.t 53) (.seq (.reg [⟨some 6,none,.mv (.c (.bool false))⟩]) .ret) .skip)) (.seq (.reg [⟨some 13,none,.mv (.c (.int .i64 1))⟩]) (.seq (.reg [⟨some 54,none,.load true 1 (.t 10)⟩,⟨some 55,none,.mv (.t 13)⟩,⟨some 56,none,.call 13 [(.t 54),(.t 55)]⟩,⟨some 13,none,.mv (.t 56)⟩]) (.seq (.seq (.reg [⟨some 57,none,.mv (.t 13)⟩,⟨some 58,none,.bin .lss false (.t 57) (.c (.int .i64 0))⟩,⟨some 59,none,.mv (.t 58)⟩,⟨(some 60),(some (59,false)),(.load true 1 (.t 11))⟩,⟨(some 61),(some (59,false)),(.load true 1 (.t 8))⟩,⟨(some 62),(some (59,false)),(.call 12 [(.t 60),(.t 61)])⟩,⟨(some 63),(some (59,false)),(.un .not (.t 62))⟩,⟨some 64,none,.pick (.t 59) (.c (.bool true)) (.t 63)⟩,⟨some 65,none,.mv (.t 64)⟩,⟨(some 66),(some (65,false)),(.mv (.t 12))⟩,⟨(some 67),(some (65,false)),(.mv (.t 9))⟩,⟨(some 68),(some (65,false)),(.bin .neq true (.t 66) (.t 67))⟩,⟨some 69,none,.pick (.t 65) (.c (.bool true)) (.t 68)⟩]) (.cond (.t 69) (.seq (.reg [⟨some 6,none,.mv (.c (.bool false))⟩]) .ret) .skip)) (.seq (.reg [⟨some 14,none,.mv (.c (.int .i64 1))⟩]) (.seq (.reg [⟨some 70,none,.load true 1 (.t 11)⟩,⟨some 71,none,.mv (.t 14)⟩,⟨some 72,none,.call 13 [(.t 70),(.t 71)]⟩,⟨some 14,none,.mv (.t 72)⟩]) (.seq (.reg [⟨some 15,none,.mv (.c (.int .i64 1))⟩]) (.seq (.reg [⟨some 73,none,.load true 1 (.t 11)⟩,⟨some 74,none,.mv (.t 15)⟩,⟨some 75,none,.call 14 [(.t 73),(.t 74)]⟩,⟨some 15,none,.mv (.t 75)⟩]) (.seq (.seq (.reg [⟨some 76,none,.mv (.t 15)⟩,⟨some 77,none,.bin .lss false (.t 76) (.c (.int .i64 0))⟩]) (.cond (.t 77) (.seq (.reg [⟨some 6,none,.mv (.c (.bool false))⟩]) .ret) .skip)) (.seq (.seq (.reg [⟨some 78,none,.mv (.t 15)⟩,⟨some 79,none,.mv (.t 14)⟩,⟨some 80,none,.bin .neq false (.t 78) (.t 79)⟩]) (.cond (.t 80) (.seq (.reg [⟨some 6,none,.mv (.c (.bool false))⟩]) .ret) .skip)) (.seq (.reg [⟨some 82,none,.load true 1 (.t 3)⟩,⟨some 83,none,.call 10 [(.t 82)]⟩,⟨some 84,none,.mv (.t 1)⟩,⟨some 85,none,.mv (.t 2)⟩,⟨some 86,none,.call 11 [(.t 83),(.t 84),(.t 85)]⟩,⟨some 81,none,.mv (.t 86)⟩,⟨some 87,none,.ext (.t 81) 0⟩,⟨some 88,none,.ext (.t 81) 1⟩,⟨some 16,none,.alloc 28 [.nil]⟩,⟨none,none,(.store 1 (.t 16) (.t 87))⟩,⟨some 17,none,.mv (.t 88)⟩]) (.seq (.seq (.reg [⟨some 89,none,.load true 1 (.t 16)⟩,⟨some 90,none,.load true 1 (.t 8)⟩,⟨some 91,none,.call 12 [(.t 89),(.t 90)]⟩,⟨some 92,none,.un .not (.t 91)⟩,⟨some 93,none,.mv (.t 92)⟩,⟨(some 94),(some (93,false)),(.mv (.t 17))⟩,⟨(some 95),(some (93,false)),(.mv (.t 9))⟩,⟨(some 96),(some (93,false)),(.bin .neq true (.t 94) (.t 95))⟩,⟨some 97,none,.pick (.t 93) (.c (.bool true)) (.t 96)⟩]) (.cond (.t 97) (.seq (.reg [⟨some 6,none,.mv (.c (.bool false))⟩]) .ret) .skip)) (.seq (.reg [⟨some 15,none,.mv (.c (.int .i64 1))⟩]) (.seq (.reg [⟨some 98,none,.load true 1 (.t 11)⟩,⟨some 99,none,.mv (.t 15)⟩,⟨some 100,none,.call 14 [(.t 98),(.t 99)]⟩,⟨some 15,none,.mv (.t 100)⟩]) (.seq (.seq (.reg [⟨some 101,none,.mv (.t 15)⟩,⟨some 102,none,.bin .lss false (.t 101) (.c (.int .i64 0))⟩]) (.cond (.t 102) (.seq (.reg [⟨some 6,none,.mv (.c (.bool false))⟩]) .ret) .skip)) (.seq (.seq (.reg [⟨some 103,none,.mv (.t 15)⟩,⟨some 104,none,.mv (.t 14)⟩,⟨some 105,none,.bin .neq false (.t 103) (.t 104)⟩]) (.cond (.t 105) (.seq (.reg [⟨some 6,none,.mv (.c (.bool false))⟩]) .ret) .skip)) (.seq (.reg [⟨some 6,none,.mv (.c (.bool true))⟩]) .ret)))))))))))))))))))))))))
theorem FV:codeOf Tryz.prog 3=some ⟨106,DW,[(.tmp 6)]⟩:=by kernel_rfl
theorem FW:modes 3=⟨[],.asis,none,false⟩:=by unfold modes; rfl
theorem Qdo (x:Cl) (i:Int) (k:Int) (hfx:D.fits x.d) (hfi:-9223372036854775808≤i∧i≤9223372036854775807) (hfk:-9223372036854775808≤k∧k≤9223372036854775807):E 3 [x.sv,.int .i64 i,.int .i64 k] []=some (.bool true,[]):=by
 have s0:=Y0 x hfx 1048576 (by omega) (by omega)
 have q0:=BG 1048576 x.bulk
 obtain ⟨l0,hl0⟩:∃ l,l=szR 1048576 (x.bulk:Nat):=⟨_,rfl⟩
 rw [←hl0] at s0 q0
 rcases Int.lt_or_le l0 0 with h0 | h0_0
 ·refine Ah FV FW (of_decide_eq_true rfl) ?_
  simp (disch:=omega) only [DW,go_sem,Aa,s0,CD]
 have hb_x:x.bulk≤1048576:=by omega
 have t_x:=Y1 x hb_x
 have htx:=Cl.Qcq x hb_x
 have a1:=UJ x htx i k
 have a2:=UH x htx i k
 have hb_r:=QaG x i k
 obtain ⟨r,hr_r⟩:∃ r,r=Sw x i k:=⟨_,rfl⟩
 rw [←hr_r] at a1 a2 hb_r
 obtain ⟨o,hr_o⟩:∃ r,r=Y6 x i k:=⟨_,rfl⟩
 rw [←hr_o] at a1 a2
 have eq_x:=R1 x (by omega)
 have be_x:=Cl.bulk_eq x
 have w_x_lits:=Lt.wtS_bulk x.lits
 have eq_r:=R1 r (by omega)
 have be_r:=Cl.bulk_eq r
 have w_r_lits:=Lt.wtS_bulk r.lits
 have k_x_0:=Lt.mkS_end x.lits (1)
 have m_x:=Nh x (1) (.row 73 3 (x.lits.map Lt.o)) (by omega) (by omega) rfl
 obtain ⟨n_x,hn_x⟩:∃ n1,n1=(x.mkr (1)).2:=⟨_,rfl⟩
 have hn'_x:n_x=(Lt.mkS x.lits (1)).2:=hn_x
 rw [←hn_x] at m_x
 have k_r_0:=Lt.mkS_end r.lits (1)
 have m_r:=Nh r (1) (.row 73 3 (r.lits.map Lt.o)) (by omega) (by omega) rfl
 have hd_r:=U6 r (1) (by omega) (by omega)
 obtain ⟨n_r,hn_r⟩:∃ n1,n1=(r.mkr (1)).2:=⟨_,rfl⟩
 have hn'_r:n_r=(Lt.mkS r.lits (1)).2:=hn_r
 rw [←hn_r] at m_r hd_r
 refine Ah FV FW (of_decide_eq_true rfl) ?_
 simp (disch:=omega) only [DW,go_sem,s0,t_x,a1,a2,eq_x,eq_r,m_x,hd_r,m_r,Dr,CD,Dy,Dz,CH,CI,D5,D4,Cl.osv,Cl.obs,Lt.osv,Lt.obs,Tm.osv,Tm.obs,Lt.erss,Lt.noss]
 repeat ((first | (refine Qb1 ?_ ?_; (focus (simp (disch:=omega) only [go_sem,s0,t_x,a1,a2,eq_x,eq_r,m_x,hd_r,m_r,Dr,CD,Dy,Dz,CH,CI,D5,D4,Cl.osv,Cl.obs,Lt.osv,Lt.obs,Tm.osv,Tm.obs,Lt.erss,Lt.noss]; done))) | (refine Qb2 ?_ ?_; (focus (simp (disch:=omega) only [go_sem,s0,t_x,a1,a2,eq_x,eq_r,m_x,hd_r,m_r,Dr,CD,Dy,Dz,CH,CI,D5,D4,Cl.osv,Cl.obs,Lt.osv,Lt.obs,Tm.osv,Tm.obs,Lt.erss,Lt.noss]; done)))); (try simp (disch:=omega) only [go_sem,s0,t_x,a1,a2,eq_x,eq_r,m_x,hd_r,m_r,Dr,CD,Dy,Dz,CH,CI,D5,D4,Cl.osv,Cl.obs,Lt.osv,Lt.obs,Tm.osv,Tm.obs,Lt.erss,Lt.noss]))
end Go.Proofs.YtibdknkacmimgaaGreatDoor
set_option maxRecDepth 100000
set_option linter.unusedSimpArgs false
set_option linter.unusedVariables false
set_option linter.unusedSectionVars false
namespace Go.Proofs.YtibdknkacmimgaaGreatDoor
open Go.RowKit Go.ChangeShapes Go.WideShapes Go.ChangeAt Go.Deep
section
variable {H:Type} {enc:TypeId × Value→H} {P:Program} {w:World} {base:Nat} {spare:Nat→Bool} {held:Bool}
theorem KL {b o k:Nat}:(⟨b,o,none⟩:Addr).add k=⟨b,o+k,none⟩:=by
 unfold Addr.add; split
 ·subst_vars; rfl
 ·rfl
theorem Qdp {a:Addr} {v:Value} (h:w.cell? a=some v):a.block<w.heap.size:=by
 unfold World.cell? at h
 cases hb:w.heap[a.block]? with
 | none=>rw [hb] at h; cases h
 | some o=>exact (Array.getElem?_eq_some_iff.1 hb).1
end
section
variable {H:Type} {enc:TypeId × Value→H} {w:World} {base:Nat} {spare:Nat→Bool} {held:Bool}
end
end Go.Proofs.YtibdknkacmimgaaGreatDoor
set_option maxRecDepth 100000
set_option linter.unusedSimpArgs false
set_option linter.unusedVariables false
set_option linter.unusedSectionVars false
namespace Go.Proofs.YtibdknkacmimgaaGreatDoor
open Go.RowKit Go.ChangeShapes Go.WideShapes Go.ChangeAt Go.Deep
section
variable {H:Type} {enc:TypeId × Value→H} {P:Program} {w:World} {base:Nat} {spare:Nat→Bool} {held:Bool}
theorem WV {t e:TypeId} {fuel:Nat} {v:Value} {x:DataW H × List MemPlace} (sz:Nat) (hsz:P.cellsOf e=sz) (h0:0<sz) (ht:P.underlying t=some (.slice e)) (h:DataW.trod enc P w base spare held fuel t [v]=some x) :
    ∃ (a:Option Addr) (len cap:Nat) (f:Nat→Nat→Value),v=.slice a len cap∧len≤cap∧cap≤9223372036854775807∧SlA w 0 sz len f a ∧
      ∀ i,i<len→∃ n x',n<fuel∧DataW.trod enc P w base spare held n e ((List.range sz).map (f i))=some x':=by
  rcases DataW.trod_slice ht h with ⟨hcs,_⟩ | ⟨a,len,cap,elems,rest,n,hf,hcs,hx,hb,hl,hm,hlen,hel,_,_⟩
  · simp only [List.cons.injEq,and_true] at hcs
    exact ⟨none,0,0,fun _ _=>undef,hcs,Nat.le_refl _,by omega,.inl rfl,fun i hi=>absurd hi (by omega)⟩
  · have hi:∀ i,i<len→∃ cs' x',w.cells? base (a.add (i*sz)) sz=some cs'∧DataW.trod enc P w base spare held n e cs'=some x':=by
      intro i hi
      have h1:=hel i hi
      rw [hsz,List.getElem?_eq_getElem (by omega)] at h1
      obtain ⟨cs',h2,h3⟩:=Option.bind_eq_some_iff.1 h1
      exact ⟨cs',_,h2,h3⟩
    have hcell:∀ i j,i<len→j<sz→∃ v,w.cell? (a.add (i*sz+j))=some v:=by
      intro i j hil hj
      obtain ⟨cs',x',hc,_⟩:=hi i hil
      obtain ⟨_,hcl,hat⟩:=World.cells?_some hc
      have h1:=hat j hj
      rw [Go.Deep.add_add,List.getElem?_eq_getElem (by omega)] at h1
      exact ⟨_,h1⟩
    simp only [List.cons.injEq,and_true] at hcs
    refine ⟨some a,len,cap,fun i j=>(w.cell? (a.add (i*sz+j))).getD undef,hcs,hl,hm,?_,?_⟩
    · rcases Nat.eq_zero_or_pos len with h | h
      · exact .inl h
      · obtain ⟨v,hv⟩:=hcell 0 0 h h0
        rw [Nat.zero_mul,Nat.zero_add] at hv
        have hsp:a.spot=none:=by simpa [Addr.add] using World.cell?_spot hv
        have hlt:=Qdp hv
        obtain ⟨b,off,spot⟩:=a
        simp only at hsp
        subst hsp
        refine .inr ⟨b,off,rfl,Nat.zero_le _,by simpa [Addr.add] using hlt,fun i j hil hj=>?_⟩
        obtain ⟨v',hv'⟩:=hcell i j hil hj
        rw [KL] at hv'
        show _=some ((w.cell? ((⟨b,off,none⟩:Addr).add (i*sz+j))).getD undef)
        rw [KL,Nat.add_assoc,hv']
        rfl
    · intro i hil
      obtain ⟨cs',x',hc,ht'⟩:=hi i hil
      obtain ⟨_,hcl,hat⟩:=World.cells?_some hc
      refine ⟨n,x',by omega,?_⟩
      have hcs':(List.range sz).map (fun j=>(w.cell? (a.add (i*sz+j))).getD undef)=cs':=by
        apply List.ext_getElem?
        intro j
        by_cases hj:j<sz
        · rw [List.getElem?_map,List.getElem?_range hj]
          have h1:=hat j hj
          rw [Go.Deep.add_add] at h1
          rw [List.getElem?_eq_getElem (by omega:j<cs'.length)] at h1 ⊢
          simp [h1]
        · rw [List.getElem?_eq_none (by simp; omega),List.getElem?_eq_none (by omega)]
      rw [hcs']
      exact ht'
theorem RJ {t:TypeId} {fs:Array Field} {fuel:Nat} {cs:List Value} {x:DataW H × List MemPlace} (ht:P.underlying t=some (.struct fs)) (h:DataW.trod enc P w base spare held fuel t cs=some x) :
  ∃ n,n<fuel∧cs.length=P.cellsOf t∧∀ (i:Nat) (f:Field),fs[i]?=some f→∃ y,DataW.trod enc P w base spare held n f.type ((cs.drop f.offset).take (P.cellsOf f.type))=some y:=by
 obtain ⟨xs,n,hn,hx,hlen,hxl,hf⟩:=DataW.trod_struct ht h
 refine ⟨n,by omega,hlen,fun i f hi=>?_⟩
 have hil:i<fs.size:=(Array.getElem?_eq_some_iff.1 hi).1
 have h1:=hf i f hi
 rw [List.getElem?_eq_getElem (by omega:i<xs.length)] at h1
 exact ⟨_,h1⟩
end
inductive Lvs (w:World):List D→List Value→Prop
 |nil:Lvs w [] []
 |cons {d:D} {v:Value} {ds:List D} {vs:List Value} (h:DAt w d v) (hs:Lvs w ds vs):Lvs w (d :: ds) (v :: vs)
theorem Lvs.len {w:World} {ds:List D} {vs:List Value} (h:Lvs w ds vs):ds.length=vs.length:=by
 induction h with
 | nil=>rfl
 | cons h hs ih=>simp [ih]
theorem Lvs.get {w:World} {ds:List D} {vs:List Value} (h:Lvs w ds vs):∀ j (h1:j<ds.length) (h2:j<vs.length),DAt w ds[j] vs[j]:=by
 induction h with
 | nil=>intro j h1; simp at h1
 | cons h hs ih =>
  intro j h1 h2
  cases j with
  | zero=>exact h
  | succ j=>exact ih j (by simpa using h1) (by simpa using h2)
theorem WW {α:Type} [Inhabited α] (dd:α→List D) {w:World} {m len cap:Nat} {f:Nat→Nat→Value} {a:Option Addr} (hl:len≤cap) (hm:cap≤9223372036854775807) (hS:SlA w 0 m len f a)
  (hel:∀ i,i<len→∃ X:α,Lvs w (dd X) ((List.range m).map (f i))):∃ xs:List α,DAt w (.arr (xs.map dd)) (.slice a len cap):=by
 obtain ⟨g,hg⟩:∃ g:Nat→α,∀ i,i<len→Lvs w (dd (g i)) ((List.range m).map (f i)) :=
  ⟨fun i=>if h:i<len then (hel i h).choose else default,fun i hi=>by simp only [hi,dif_pos]; exact (hel i hi).choose_spec⟩
 refine ⟨(List.range len).map g,?_⟩
 have hlen:(((List.range len).map g).map dd).length=len:=by simp
 have:=DAt.Qd0 (w:=w) (es:=((List.range len).map g).map dd) (sz:=m) (cap:=cap) (a:=a) (f:=f) (by rw [hlen]; exact hl) hm (by rw [hlen]; exact hS) (fun i hi=>by
  rw [hlen] at hi
  have:=(hg i hi).len
  simpa using this) (fun i j hi hj=>by
  rw [hlen] at hi
  have h1:=hg i hi
  have h2:=h1.len
  simp only [List.length_map,List.length_range] at h2
  simp only [List.getElem_map,List.getElem_range] at hj ⊢
  have:=h1.get j hj (by simp; omega)
  simpa using this)
 rw [hlen] at this
 exact this
instance:Inhabited Tm:=⟨Tm.zero⟩
instance:Inhabited Fm:=⟨Fm.zero⟩
section
variable {H:Type} {enc:TypeId × Value→H} {w:World} {base:Nat} {spare:Nat→Bool} {held:Bool}
end
end Go.Proofs.YtibdknkacmimgaaGreatDoor
set_option maxRecDepth 100000
set_option linter.unusedSimpArgs false
set_option linter.unusedVariables false
set_option linter.unusedSectionVars false
namespace Go.Proofs.YtibdknkacmimgaaGreatDoor
open Go.RowKit
theorem DRep.lt_ {own:Bool} {w:World} {S:Nat→Prop} {d:D} {v:Value} (h:DRep own w S d v):DRep own w (fun b=>S b∧b<w.heap.size) d v:=by
 induction h with
 | int S n=>exact .int _ n
 | bool S b=>exact .bool _ b
 | str S s h=>exact .str _ s h
 | arr S sz es a cap f Sub h1 h2 h3 h4 h5 h6 h7 ih =>
  refine .arr _ sz es a cap f (fun i j x=>Sub i j x∧x<w.heap.size) h1 h2 ?_ h4 (fun i j x h=>⟨h5 i j x h.1,h.2⟩) (fun ho i j i' j' x h h'=>h6 ho i j i' j' x h.1 h'.1) ih
  rcases h3 with h3 | ⟨b,off,ha,hS,hl,hc,ho⟩
  ·exact .inl h3
  ·exact .inr ⟨b,off,ha,⟨hS,hl⟩,hl,hc,fun h=>⟨fun i j hx=>(ho h).1 i j hx.1,(ho h).2⟩⟩
theorem Fun.yes {f:FuncId} {args:List SV} (h:Fun Tryz.prog f args [] (.bool true) []) {w:World} {vs:List Value} (hgl:GL w fun b=>b<w.heap.size) (hvs:RepVs w (fun b=>b<w.heap.size) (fun _=>none) args vs):Calls Tryz.prog f vs.toArray w (Ret w (.bool true)):=by
 have nl:∀ g,¬ (Ao [] g).live:=fun g hg=>by simp [Ao,Ob.live] at hg
 refine (h w (fun b=>b<w.heap.size) (fun _=>none) (fun _ _=>False) vs ⟨fun b hb=>hb,fun g hg=>absurd hg (nl g),fun g b hg=>absurd hg (nl g),fun g b hg=>absurd hg (nl g),fun g g' b hg=>absurd hg (nl g),fun g _=>rfl,hgl⟩ hvs).mono ?_
 rintro e w' ⟨v,I',V',B',rfl,hr,hp⟩
 simp only [RepV] at hr
 subst hr
 exact ⟨rfl,hp.fr.os,hp.fr.tape.1,hp.fr.output,hp.fr.size,fun b hb=>hp.fr.block b hb fun ⟨g,hg,_⟩=>absurd hg (nl g)⟩
theorem WX {w:World} {d:D} {ds:List D} {v:Value} {vs:List Value} (h:Lvs w (d :: ds) (v :: vs)):DAt w d v∧Lvs w ds vs:=by
 cases h with
 | cons h1 h2=>exact ⟨h1,h2⟩
theorem DAt.rep_sv {w:World} {d:D} {v:Value} (h:DAt w d v):RepV w (fun b=>b<w.heap.size) (fun _=>none) d.sv v :=
 D.rep_sv ((DRep.lt_ h).up fun b hb=>hb.2)
theorem Lvs.reps {w:World} {ds:List D} {vs:List Value} (h:Lvs w ds vs):RepVs w (fun b=>b<w.heap.size) (fun _=>none) (ds.map D.sv) vs:=by
 induction h with
 | nil=>simp [RepVs]
 | cons h hs ih=>simp only [List.map_cons,RepVs]; exact ⟨_,_,rfl,h.rep_sv,ih⟩
theorem Lvs.agg {w:World} {ds:List D} {vs:List Value} (h:Lvs w ds vs):RepV w (fun b=>b<w.heap.size) (fun _=>none) (.agg (ds.map D.sv)) (.agg vs.toArray):=by
 simp only [RepV]; exact ⟨vs,rfl,h.reps⟩
theorem Lvs.fits {w:World} {ds:List D} {vs:List Value} (h:Lvs w ds vs):D.fits ds:=by
 induction h with
 | nil=>trivial
 | cons h hs ih=>exact ⟨DRep.fit h,ih⟩
theorem Qcr {w:World} {I:Nat→Prop} {V:Nat→Option Value}:RepVs w I V [] []:=by simp [RepVs]
theorem Oz {w:World} {I:Nat→Prop} {V:Nat→Option Value} {x:SV} {xs:List SV} {v:Value} {vs:List Value} (h:RepV w I V x v) (hs:RepVs w I V xs vs):RepVs w I V (x :: xs) (v :: vs):=by
 simp only [RepVs]; exact ⟨v,vs,rfl,h,hs⟩
instance:Inhabited Lt:=⟨Lt.zero⟩
instance:Inhabited Cl:=⟨Cl.zero⟩
section
variable {H:Type} {enc:TypeId × Value→H} {w:World} {base:Nat} {spare:Nat→Bool} {held:Bool}
theorem OX {fuel:Nat} (ih:∀ n,n<fuel→∀ v x,DataW.trod enc Tryz.prog w base spare held n 63 [v]=some x→∃ xs:List Tm,DAt w (.arr (xs.map Tm.d)) v) {cs:List Value} {x:DataW H × List MemPlace} (h:DataW.trod enc Tryz.prog w base spare held fuel 65 cs=some x):∃ X:Tm,Lvs w X.d cs:=by
 obtain ⟨n,hn,hlen,hf⟩:=RJ Tryz.underlying65 h
 rw [show Tryz.prog.cellsOf 65=2 by kernel_rfl] at hlen
 match cs,hlen with
 | [c0,c1],_ =>
  obtain ⟨y0,k0⟩:=hf 0 _ rfl
  have e0:(([c0,c1].drop 0).take (Tryz.prog.cellsOf 9))=[c0]:=by rw [show Tryz.prog.cellsOf 9=1 by kernel_rfl]; rfl
  obtain ⟨z0,q0,_,s0⟩:=DataW.trod_string Tryz.underlying9 k0
  have q0':c0=.string z0:=by
   have:[c0]=[.string z0]:=by rw [←e0]; exact q0
   simpa using this
  obtain ⟨y1,k1⟩:=hf 1 _ rfl
  have e1:(([c0,c1].drop 1).take (Tryz.prog.cellsOf 63))=[c1]:=by rw [show Tryz.prog.cellsOf 63=1 by kernel_rfl]; rfl
  have k1':DataW.trod enc Tryz.prog w base spare held n 63 [c1]=some y1:=by rw [←e1]; exact k1
  obtain ⟨z1,g1⟩:=ih n hn c1 y1 k1'
  subst q0'
  exact ⟨.mk z0 z1,by rw [Tm.d_eq]; exact (.cons (.str _ z0 s0) (.cons g1 .nil))⟩
theorem Sx:∀ (fuel:Nat) (v:Value) (x:DataW H × List MemPlace),DataW.trod enc Tryz.prog w base spare held fuel 63 [v]=some x→∃ xs:List Tm,DAt w (.arr (xs.map Tm.d)) v:=by
  intro fuel
  induction fuel using Nat.strongRecOn with
  | _ fuel ih =>
    intro v x h
    obtain ⟨a,len,cap,f,rfl,hl,hm,hS,hr⟩:=WV (P:=Tryz.prog) 2 (by kernel_rfl) (by omega) Tryz.underlying63 h
    exact WW Tm.d hl hm hS fun i hi=>by
      obtain ⟨n,x',hn,h1⟩:=hr i hi
      exact OX (fun n' hn'=>ih n' (by omega)) h1
theorem Qcs {fuel:Nat} {cs:List Value} {x:DataW H × List MemPlace} (h:DataW.trod enc Tryz.prog w base spare held fuel 65 cs=some x):∃ X:Tm,Lvs w X.d cs :=
 OX (fun n _=>Sx n) h
theorem WY {fuel:Nat} {cs:List Value} {x:DataW H × List MemPlace} (h:DataW.trod enc Tryz.prog w base spare held fuel 67 cs=some x):∃ X:Lt,Lvs w X.d cs:=by
 obtain ⟨n,hn,hlen,hf⟩:=RJ Tryz.underlying67 h
 rw [show Tryz.prog.cellsOf 67=3 by kernel_rfl] at hlen
 match cs,hlen with
 | [c0,c1,c2],_ =>
  obtain ⟨y0,k0⟩:=hf 0 _ rfl
  have e0:(([c0,c1,c2].drop 0).take (Tryz.prog.cellsOf 4))=[c0]:=by rw [show Tryz.prog.cellsOf 4=1 by kernel_rfl]; rfl
  obtain ⟨z0,q0,_⟩:=DataW.trod_bool Tryz.underlying4 k0
  have q0':c0=.bool z0:=by
   have:[c0]=[.bool z0]:=by rw [←e0]; exact q0
   simpa using this
  obtain ⟨y1,k1⟩:=hf 1 _ rfl
  have e1:(([c0,c1,c2].drop 1).take (Tryz.prog.cellsOf 65))=[c1,c2]:=by rw [show Tryz.prog.cellsOf 65=2 by kernel_rfl]; rfl
  have k1':DataW.trod enc Tryz.prog w base spare held n 65 [c1,c2]=some y1:=by rw [←e1]; exact k1
  obtain ⟨z1,g1⟩:=Qcs k1'
  rw [Tm.d_eq] at g1
  obtain ⟨g1_0,g1⟩:=WX g1
  obtain ⟨g1_1,g1⟩:=WX g1
  subst q0'
  exact ⟨⟨z0,z1⟩,by rw [Lt.d_eq]; exact (.cons (.bool _ z0) (.cons g1_0 (.cons g1_1 .nil)))⟩
theorem UK {fuel:Nat} {v:Value} {x:DataW H × List MemPlace} (h:DataW.trod enc Tryz.prog w base spare held fuel 22 [v]=some x):∃ xs:List Lt,DAt w (.arr (xs.map Lt.d)) v:=by
 obtain ⟨a,len,cap,f,rfl,hl,hm,hS,hr⟩:=WV (P:=Tryz.prog) 3 (by kernel_rfl) (by omega) Tryz.underlying22 h
 exact WW Lt.d hl hm hS fun i hi=>by
  obtain ⟨n,x',hn,h1⟩:=hr i hi
  exact WY h1
theorem YD {fuel:Nat} {cs:List Value} {x:DataW H × List MemPlace} (h:DataW.trod enc Tryz.prog w base spare held fuel 24 cs=some x):∃ X:Cl,Lvs w X.d cs:=by
 obtain ⟨n,hn,hlen,hf⟩:=RJ Tryz.underlying24 h
 rw [show Tryz.prog.cellsOf 24=1 by kernel_rfl] at hlen
 match cs,hlen with
 | [c0],_ =>
  obtain ⟨y0,k0⟩:=hf 0 _ rfl
  have e0:(([c0].drop 0).take (Tryz.prog.cellsOf 22))=[c0]:=by rw [show Tryz.prog.cellsOf 22=1 by kernel_rfl]; rfl
  have k0':DataW.trod enc Tryz.prog w base spare held n 22 [c0]=some y0:=by rw [←e0]; exact k0
  obtain ⟨z0,g0⟩:=UK k0'
  exact ⟨⟨z0⟩,by rw [Cl.d_eq]; exact (.cons g0 .nil)⟩
end
end Go.Proofs.YtibdknkacmimgaaGreatDoor
