/-
  This text holds, one behind the other: This text tells what Skolemize answers in both packages. No condition.
  This text holds plain laws of formulas: how much they hold. No condition.
  This text tells what the law of Skolemize answers. No condition.
  This text opens arguments: slices of integers, of structs, of tables: what is read as data lies in memory as our words say. No condition.
  This text opens arguments: what is read as data, terms and formulas, lies in memory as our words say. No condition.
  This text turns a function's answer into a walk of the kit's form, and opens arguments that are clauses. No condition.
-/
import Derived.Test.YtepbennkcbmgoaaGreatDoorK43b
import Derived.Test.YtepbennkcbmgoaaGreatDoorK43c
import Derived.Test.YtepbennkcbmgoaaGreatDoorK43d
import Derived.Test.YtepbennkcbmgoaaGreatDoorK43e
import Derived.ProofKit
import Derived.Deep.Slices
import Derived.Deep.Fields
import Derived.ChangeSame
import Derived.OpenShut
import Derived.ShutString
import Derived.ChangeOld
set_option maxHeartbeats 16000000
open Bool renaming and_eq_true → zA
open List renaming length_nil → zB, getElem?_eq_getElem → zC, length_append → zD, range → zE
open Array renaming getElem?_eq_some_iff → zF
open Nat renaming lt_or_ge → zG, not_lt → zH
set_option maxRecDepth 100000
set_option linter.unusedSimpArgs false
set_option linter.unusedVariables false
set_option linter.unusedSectionVars false
namespace Go.Proofs.YtepbennkcbmgoaaGreatDoor
open Go.RowKit
noncomputable def Ke (x:Fm) (us:List ByteArray):List ByteArray:=AZ us (syA x.ats)
noncomputable def skF (x:Fm) (us:List ByteArray):Fm:=(x.sk (Ke x us) x.free [] (fun _=>none) 0).1
noncomputable def skP (x:Fm):Bool:=x.valid&&(x.sepd&&x.isN)
noncomputable def skB (x:Fm) (us:List ByteArray):Bool:=!x.bad x.free.length&&(skF x us).valid
noncomputable def G0 (x:Fm) (us:List ByteArray):Bool:=skP x&&skB x us
noncomputable def Mi (x:Fm) (us:List ByteArray):Fm:=bif G0 x us then skF x us else Fm.zero
theorem J5 {x:Fm} (h:x.valid=true):x.nodes≤40∧x.forms=true:=by
 unfold Fm.valid at h
 rw [zA,decide_eq_true_eq] at h
 exact h
theorem J6 (x:Fm) (hx:x.forms=true) (hn:x.nodes≤40):x.vn≤1200∧x.free.length≤1200∧(syA x.ats).length≤1200∧x.sy2.length≤1200:=by
 have h1:=Fm.Qbq x hx
 have h2:=DJ (x.fv []) []
 have h3:=Fm.Ir x []
 have h4:x.free.length≤1200:=by
  simp only [zB] at h2
  show (BT [] (x.fv [])).length≤_
  omega
 have h5:=Fm.JT x
 have h6:∀ l:List Tm,(syA l).length≤Tm.nodeS l:=by
  intro l
  induction l with
  | nil=>simp [syA,Tm.nodeS]
  | cons t l ih =>
   have:=Tm.JS t
   unfold syA at ih ⊢
   rw [List.flatMap_cons,zD,Tm.nodeS]; omega
 have h7:=h6 x.ats
 have h8:=Fm.sy2_len x
 exact ⟨by omega,h4,by omega,by omega⟩
theorem Qbf (k:Int):pre Bm k≠⟨#[61]⟩:=fun e=>by
 have h:=congrArg ByteArray.size e
 unfold pre at h
 rw [ByteArray.size_append] at h
 have h2:Bm.size=2:=rfl
 have h3:(⟨#[61]⟩:ByteArray).size=1:=rfl
 omega
theorem Qbg (x:Fm) (hx:x.forms=true) (us:List ByteArray):(x.sk (us++x.sy2) x.free [] (fun _=>none) 0).1=skF x us:=by
 unfold skF Ke
 rw [Fm.UA x.free (fun k=>?_) x hx [] _ 0 (Int.le_refl 0)]
 rw [P1,List.mem_append,Fm.sy12 x hx (Qbf k)]
theorem Qbh {x:Fm} (h:x.sepd=true):x.qs.Nodup:=by
 unfold Fm.sepd at h
 exact (List.nodup_append.1 (Ao.1 h)).1
theorem Fm.Qbu (tk fr:List ByteArray) (x:Fm) (hx:x.forms=true):∀ (ou:List ByteArray) (e:TEnv) (c:Int),fr.length+ou.length+x.nodes≤1299→TB 1300 e→(x.sk tk fr ou e c).1.vn≤40000*x.nodes:=by
 intro ou e c hb he
 have ih:∀ y∈x.parts,∀ (ou:List ByteArray) (e:TEnv) (c:Int),fr.length+ou.length+y.nodes≤1299→TB 1300 e→(y.sk tk fr ou e c).1.vn≤40000*y.nodes:=fun y hy=>Fm.Qbu tk fr y (Fm.Be hx hy)
 have key:∀ (xs:List Fm),(∀ y∈xs,y∈x.parts)→∀ c:Int,Fm.vnS (AE (fun y c=>Fm.sk tk fr y ou e c) xs c).1≤40000*Fm.nodeS xs:=by
  intro xs
  induction xs with
  | nil=>intro _ c; rw [AE,Fm.vnS]; exact Nat.zero_le _
  | cons y ys ihy =>
   intro hm c
   have hle:=Fm.nodes_mem (hm y (by simp))
   have hxe:=Fm.nodes_eq x
   have h1:=ih y (hm y (by simp)) ou e c (by omega) he
   have h2:=ihy (fun z hz=>hm z (by simp [hz])) (y.sk tk fr ou e c).2
   rw [AE,Fm.vnS,Fm.nodeS]
   omega
 have hfo:=Fm.BB hx
 have hz:=Tm.Pz
 have hne:=Fm.nodes_eq x
 have hmk:∀ (op:Int) (t:Tm) (v:ByteArray) (ps:List Fm),(Fm.mk op t v ps).vn=t.nodes+Fm.vnS ps:=fun op t v ps=>Fm.Kr _
 by_cases h3:x.op=3
 ·rw [Fm.Iv tk fr h3,hmk,Fm.vnS]
  have h1:=Tm.PJ (by omega) he x.atom
  have h2:=Fm.Il hfo
  have h4:1300*x.atom.nodes≤1300*30:=Nat.mul_le_mul_left _ h2
  omega
 by_cases h8:x.op=8
 ·obtain ⟨p,hp⟩:=(Fm.BA hfo (by unfold qB; rw [An h8]; rfl)).2
  have hs:Fm.nodeS x.parts=p.nodes:=by rw [hp]; simp [Fm.nodeS]
  have:=ih p (by rw [hp]; simp) (ou++[x.var]) e c (by rw [zD,List.length_singleton]; omega) he
  rw [Fm.Ld tk fr h8 hp,hmk,Fm.vnS,Fm.vnS]
  omega
 by_cases h9:x.op=9
 ·obtain ⟨hvx,p,hp⟩:=Fm.BA hfo (by unfold qB; rw [An h9]; simp)
  have hs:Fm.nodeS x.parts=p.nodes:=by rw [hp]; simp [Fm.nodeS]
  have ht:(skT tk fr ou c).nodes≤1300:=by
   unfold skT
   rw [Tm.nodes_eq]
   show 1+Tm.nodeS (vT (fr++ou))≤_
   rw [Jz,zD]; omega
  have:=ih p (by rw [hp]; simp) ou (Iu e x.var (skT tk fr ou c)) (fresh Bm tk c) (by omega) (he.put hvx ht)
  rw [Fm.Iw tk fr h9 hp]
  omega
 ·have:=key x.parts (fun y hy=>hy) c
  rw [Fm.Gp tk fr h3 h8 h9,hmk]
  omega
termination_by SizeOf.sizeOf x
decreasing_by exact Fm.lt_of_mem hy
theorem QbT (x:Fm) (hx:x.forms=true) (hn:x.nodes≤40) (us:List ByteArray):(skF x us).vn≤1600000:=by
 obtain ⟨_,b2,_,_⟩:=J6 x hx hn
 have:=Fm.Qbu (Ke x us) x.free x hx [] (fun _=>none) 0 (by rw [zB]; omega) (TB.none _)
 unfold skF
 omega
def BG:SC:=(.seq (.reg [⟨some 2,none,.boxv 36 5 (.t 0)⟩,⟨(some 4),none,(.alloc 36 [(.int .i64 0),(.str ⟨#[]⟩),.nil,(.str ⟨#[]⟩),.nil])⟩,⟨some 5,none,.mv (.c (.bool false))⟩]) (.seq (.seq (.reg [⟨some 8,none,.load true 5 (.t 2)⟩,⟨some 9,none,.call 53 [(.t 8)]⟩,⟨some 10,none,.un .not (.t 9)⟩,⟨some 11,none,.mv (.t 10)⟩,⟨(some 12),(some (11,false)),(.load true 5 (.t 2))⟩,⟨(some 13),(some (11,false)),(.call 54 [(.t 12)])⟩,⟨(some 14),(some (11,false)),(.un .not (.t 13))⟩,⟨some 15,none,.pick (.t 11) (.c (.bool true)) (.t 14)⟩,⟨some 16,none,.mv (.t 15)⟩,⟨(some 17),(some (16,false)),(.load true 5 (.t 2))⟩,⟨(some 18),(some (16,false)),(.call 55 [(.t 17)])⟩,⟨(some 19),(some (16,false)),(.un .not (.t 18))⟩,⟨some 20,none,.pick (.t 16) (.c (.bool true)) (.t 19)⟩]) (.cond (.t 20) (.seq (.reg [⟨(some 21),none,(.build [(.int .i64 0),(.str ⟨#[]⟩),.nil,(.str ⟨#[]⟩),.nil] [])⟩,⟨none,none,(.store 5 (.t 4) (.t 21))⟩,⟨some 5,none,.mv (.c (.bool false))⟩]) .ret) .skip)) (.seq (.dreg [[],[0],[],[1,0,2],[3,1,0,2],[4,3,1,0,2],[],[6,3,1,0,2],[5,4,3,1,0,2,7,6],[8,5,4,3,1,0,2,7,6],[9,8,5,4,3,1,0,2,7,6]] [⟨some 22,none,.mv (.t 1)⟩,⟨some 23,none,.call 57 [(.t 22)]⟩,⟨some 24,none,.load true 5 (.t 2)⟩,⟨some 25,none,.call 56 [(.t 23),(.t 24)]⟩,⟨(some 26),none,(.build [(.str ⟨#[]⟩),.nil,(.int .i64 0)] [(0,(1,(.c (.str ⟨#[115,107]⟩)))),(1,(1,(.t 25)))])⟩,⟨some 27,none,.boxv 89 3 (.t 26)⟩,⟨some 28,none,.load true 5 (.t 2)⟩,⟨some 29,none,.call 58 [(.t 28)]⟩,⟨some 30,none,.build [.any,.nil,(.bool false)] [(0,(1,(.t 27))),(1,(1,(.t 29)))]⟩,⟨some 31,none,.boxv 92 3 (.t 30)⟩,⟨some 6,none,.mv (.t 31)⟩]) (.seq (.reg [⟨some 32,none,.mv (.t 6)⟩,⟨some 33,none,.load true 5 (.t 2)⟩,⟨some 34,none,.call 59 [(.t 32),(.t 33),(.c .nil),(.c (.mp true nomap))]⟩,⟨(some 7),none,(.alloc 36 [(.int .i64 0),(.str ⟨#[]⟩),.nil,(.str ⟨#[]⟩),.nil])⟩,⟨none,none,(.store 5 (.t 7) (.t 34))⟩]) (.seq (.seq (.reg [⟨some 35,none,.mv (.t 6)⟩,⟨some 36,none,.nilchk (.t 35)⟩,⟨some 37,none,.faddr 2 (.t 36)⟩,⟨some 38,none,.load false 1 (.t 37)⟩]) (.cond (.t 38) (.seq (.reg [⟨(some 39),none,(.build [(.int .i64 0),(.str ⟨#[]⟩),.nil,(.str ⟨#[]⟩),.nil] [])⟩,⟨none,none,(.store 5 (.t 4) (.t 39))⟩,⟨some 5,none,.mv (.c (.bool false))⟩]) .ret) .skip)) (.seq (.reg [⟨some 40,none,.load true 5 (.t 7)⟩,⟨some 41,none,.call 60 [(.t 40)]⟩,⟨some 42,none,.ext (.t 41) 0⟩,⟨some 43,none,.ext (.t 41) 1⟩,⟨none,none,(.store 5 (.t 4) (.t 42))⟩,⟨some 5,none,.mv (.t 43)⟩]) .ret))))))
theorem Ca:codeOf Tryz.prog 14=some ⟨44,BG,[(.cell 4 true 5),(.tmp 5)]⟩:=by kernel_rfl
theorem AU:modes 14=⟨[],.own [none,none,some (33,2),none,some (36,5),none],none,false⟩:=by unfold modes; rfl
def Ed:SC:=(.seq (.reg [⟨some 2,none,.boxv 36 5 (.t 0)⟩,⟨(some 4),none,(.alloc 36 [(.int .i64 0),(.str ⟨#[]⟩),.nil,(.str ⟨#[]⟩),.nil])⟩,⟨some 5,none,.mv (.c .nil)⟩,⟨some 6,none,.mv (.c (.bool false))⟩]) (.seq (.reg [⟨some 10,none,.load true 5 (.t 2)⟩,⟨some 11,none,.call 110 [(.t 10)]⟩,⟨some 7,none,.mv (.t 11)⟩]) (.seq (.dreg [[],[],[0,1],[],[2,0,1,3],[4,2,0,1,3],[5,4,2,0,1,3],[6,5,4,2,0,1,3]] [⟨(some 12),none,(.mkrow 9 1 [(.str ⟨#[]⟩)] 0 [])⟩,⟨some 13,none,.mv (.t 1)⟩,⟨(some 14),none,(.append 9 1 16 [(.str ⟨#[]⟩)] (.t 12) (.t 13))⟩,⟨some 15,none,.load true 5 (.t 2)⟩,⟨some 16,none,.call 68 [(.t 14),(.t 15)]⟩,⟨(some 17),none,(.build [(.str ⟨#[]⟩),(.int .i64 0),.nil] [(0,(1,(.c (.str ⟨#[115,107]⟩)))),(2,(1,(.t 16)))])⟩,⟨some 18,none,.boxv 103 3 (.t 17)⟩,⟨some 8,none,.mv (.t 18)⟩]) (.seq (.seq (.reg [⟨some 19,none,.load true 5 (.t 2)⟩,⟨some 20,none,.mv (.t 7)⟩,⟨some 21,none,.len false (.t 20)⟩,⟨some 22,none,.call 113 [(.t 19),(.t 21)]⟩,⟨some 23,none,.un .not (.t 22)⟩]) (.cond (.t 23) (.seq (.reg [⟨(some 24),none,(.build [(.int .i64 0),(.str ⟨#[]⟩),.nil,(.str ⟨#[]⟩),.nil] [])⟩,⟨some 25,none,.mv (.t 1)⟩,⟨none,none,(.store 5 (.t 4) (.t 24))⟩,⟨some 5,none,.mv (.t 25)⟩,⟨some 6,none,.mv (.c (.bool false))⟩]) .ret) .skip)) (.seq (.reg [⟨some 26,none,.load true 5 (.t 2)⟩,⟨some 27,none,.mv (.t 8)⟩,⟨some 28,none,.mv (.t 7)⟩,⟨some 29,none,.build [.nil] []⟩,⟨some 30,none,.call 114 [(.t 26),(.t 27),(.t 28),(.t 29)]⟩,⟨(some 9),none,(.alloc 36 [(.int .i64 0),(.str ⟨#[]⟩),.nil,(.str ⟨#[]⟩),.nil])⟩,⟨none,none,(.store 5 (.t 9) (.t 30))⟩]) (.seq (.dreg [[],[],[],[1,2],[],[3,1,2,4],[],[6,5,3,1,2,4],[0,7,6,5,3,1,2,4],[5,3,1,2,4,8,0,7,6],[7,6,5,3,1,2,4,9,8,0]] [⟨some 31,none,.load true 5 (.t 9)⟩,⟨(some 32),none,(.mkrow 9 1 [(.str ⟨#[]⟩)] 0 [])⟩,⟨some 33,none,.mv (.t 1)⟩,⟨(some 34),none,(.append 9 1 16 [(.str ⟨#[]⟩)] (.t 32) (.t 33))⟩,⟨some 35,none,.load true 5 (.t 9)⟩,⟨some 36,none,.call 68 [(.t 34),(.t 35)]⟩,⟨some 37,none,.load true 5 (.t 9)⟩,⟨some 38,none,.call 48 [(.t 37)]⟩,⟨none,none,(.store 5 (.t 4) (.t 31))⟩,⟨some 5,none,.mv (.t 36)⟩,⟨some 6,none,.mv (.t 38)⟩]) .ret))))))
theorem Gx:codeOf Tryz.prog 51=some ⟨39,Ed,[(.cell 4 true 5),(.tmp 5),(.tmp 6)]⟩:=by kernel_rfl
theorem Bg:modes 51=⟨[],.frz,none,false⟩:=by unfold modes; rfl
def BH:SC:=(.seq (.reg [⟨some 2,none,.boxv 36 5 (.t 0)⟩,⟨(some 4),none,(.alloc 36 [(.int .i64 0),(.str ⟨#[]⟩),.nil,(.str ⟨#[]⟩),.nil])⟩,⟨some 5,none,.mv (.c (.bool false))⟩]) (.seq (.seq (.reg [⟨some 9,none,.load true 5 (.t 2)⟩,⟨some 10,none,.call 48 [(.t 9)]⟩,⟨some 11,none,.un .not (.t 10)⟩,⟨some 12,none,.mv (.t 11)⟩,⟨(some 13),(some (12,false)),(.load true 5 (.t 2))⟩,⟨(some 14),(some (12,false)),(.call 49 [(.t 13)])⟩,⟨(some 15),(some (12,false)),(.un .not (.t 14))⟩,⟨some 16,none,.pick (.t 12) (.c (.bool true)) (.t 15)⟩,⟨some 17,none,.mv (.t 16)⟩,⟨(some 18),(some (17,false)),(.load true 5 (.t 2))⟩,⟨(some 19),(some (17,false)),(.call 50 [(.t 18)])⟩,⟨(some 20),(some (17,false)),(.un .not (.t 19))⟩,⟨some 21,none,.pick (.t 17) (.c (.bool true)) (.t 20)⟩]) (.cond (.t 21) (.seq (.reg [⟨(some 22),none,(.build [(.int .i64 0),(.str ⟨#[]⟩),.nil,(.str ⟨#[]⟩),.nil] [])⟩,⟨none,none,(.store 5 (.t 4) (.t 22))⟩,⟨some 5,none,.mv (.c (.bool false))⟩]) .ret) .skip)) (.seq (.reg [⟨some 24,none,.load true 5 (.t 2)⟩,⟨some 25,none,.mv (.t 1)⟩,⟨some 26,none,.call 51 [(.t 24),(.t 25)]⟩,⟨some 23,none,.mv (.t 26)⟩,⟨some 27,none,.ext (.t 23) 0⟩,⟨some 28,none,.ext (.t 23) 1⟩,⟨some 29,none,.ext (.t 23) 2⟩,⟨(some 6),none,(.alloc 36 [(.int .i64 0),(.str ⟨#[]⟩),.nil,(.str ⟨#[]⟩),.nil])⟩,⟨none,none,(.store 5 (.t 6) (.t 27))⟩,⟨some 7,none,.mv (.t 28)⟩,⟨some 8,none,.mv (.t 29)⟩]) (.seq (.seq (.reg [⟨some 30,none,.mv (.t 8)⟩,⟨some 31,none,.un .not (.t 30)⟩]) (.cond (.t 31) (.seq (.reg [⟨(some 32),none,(.build [(.int .i64 0),(.str ⟨#[]⟩),.nil,(.str ⟨#[]⟩),.nil] [])⟩,⟨none,none,(.store 5 (.t 4) (.t 32))⟩,⟨some 5,none,.mv (.c (.bool false))⟩]) .ret) .skip)) (.seq (.reg [⟨some 33,none,.load true 5 (.t 6)⟩,⟨none,none,(.store 5 (.t 4) (.t 33))⟩,⟨some 5,none,.mv (.c (.bool true))⟩]) .ret)))))
theorem Cb:codeOf Tryz.prog 11=some ⟨34,BH,[(.cell 4 true 5),(.tmp 5)]⟩:=by kernel_rfl
theorem AV:modes 11=⟨[],.frz,none,false⟩:=by unfold modes; rfl
theorem NW (x:Fm) (us:List ByteArray) (hta:x.tame) (hn:x.nodes≤1099511627776) (hu:us.length≤1048576):E 14 [x.sv,.arr (us.map fun s=>[D.str s])] []=some (.tup [(Mi x us).osv,.bool (G0 x us)],(Mi x us).obs):=by
  have h1:=ES x hta hn
  have hz1:Fm.zero.osv=.agg [.int .i64 0,.str ⟨#[]⟩,.ref 0,.str ⟨#[]⟩,.ref 1]:=rfl
  have hz2:Fm.zero.obs=[.row 33 2 [],.row 36 5 []]:=rfl
  have hxs:x.sv=.agg [.int .i64 x.op,.str x.atom.name,.arr (x.atom.args.map Tm.d),.str x.var,.arr (x.parts.map Fm.d)]:=rfl
  cases hv:x.valid with
  | false =>
    rw [hv] at h1
    have ho:G0 x us=false:=by unfold G0 skP; rw [hv]; rfl
    unfold Mi
    rw [ho,cond_false,hz1,hz2]
    refine Ai Ca AU (of_decide_eq_true rfl) ?_
    simp (disch:=omega) only [BG,go_sem,Ab,h1,A9,Bn,A3,BE,Cu,Bv,Az,Ar,Fm.osv,Fm.obs]
  | true =>
  rw [hv] at h1
  obtain ⟨hva1,hva2⟩:=J5 hv
  obtain ⟨b1,b2,b3,b4⟩:=J6 x hva2 hva1
  have h2:=Qv x hva2 (by omega) (by omega)
  have h3:=Gs x hva2 (by omega)
  cases hs:x.sepd with
  | false =>
    rw [hs] at h2
    have ho:G0 x us=false:=by unfold G0 skP; rw [hv,hs]; rfl
    unfold Mi
    rw [ho,cond_false,hz1,hz2]
    refine Ai Ca AU (of_decide_eq_true rfl) ?_
    simp (disch:=omega) only [BG,go_sem,Ab,h1,h2,A9,Bn,A3,BE,Cu,Bv,Az,Ar,Fm.osv,Fm.obs]
  | true =>
  rw [hs] at h2
  cases hin:x.isN with
  | false =>
    rw [hin] at h3
    have ho:G0 x us=false:=by unfold G0 skP; rw [hv,hs,hin]; rfl
    unfold Mi
    rw [ho,cond_false,hz1,hz2]
    refine Ai Ca AU (of_decide_eq_true rfl) ?_
    simp (disch:=omega) only [BG,go_sem,Ab,h1,h2,h3,A9,Bn,A3,BE,Cu,Bv,Az,Ar,Fm.osv,Fm.obs]
  | true =>
  rw [hin] at h3
  have hok:G0 x us=skB x us:=by unfold G0 skP; rw [hv,hs,hin]; rfl
  unfold Mi
  rw [hok]
  have h4:=Me us hu
  have h5:=UL x (by omega) (by omega) us (by omega)
  have h6:=Qah x hva2 (by omega) (by omega)
  have htk:(Ke x us).length≤1050000:=by
    have:=Dp (syA x.ats) us
    unfold Ke; omega
  have hmul:(x.nodes:Int)*((Ke x us).length+2:Nat)≤42000080:=by
    have h:=Nat.mul_le_mul hva1 (show (Ke x us).length+2≤1050002 by omega)
    rw [←Int.natCast_mul]; omega
  have h7:=N9 (Ke x us) x.free x hva2 [] (fun _=>none) 0 false FinT.none (TB.none _) (by rw [zB]; omega) (Int.le_refl 0) (by omega)
  obtain ⟨hp1,hp2⟩:=Fm.PL (Ke x us) x.free x hva2 [] (fun _=>none) 0 (by rw [zB]; omega) (TB.none _)
  unfold SkE at h7
  rw [WB,List.map_nil,zB,Nat.add_zero,Bool.false_or] at h7
  unfold skB
  have e0:(x.sk (Ke x us) x.free [] (fun _=>none) 0).1=skF x us:=rfl
  rw [e0] at hp1 hp2 h7
  generalize (x.sk (Ke x us) x.free [] (fun _=>none) 0).2=c1 at h7
  have h5:E 56 [.ref 0,x.sv] [.row 9 1 (us.map fun s=>[OT.str s])]=some (bif dec (us.length<(Ke x us).length) then .ref 1 else .ref 0,bif dec (us.length<(Ke x us).length) then [.gone,.row 9 1 ((Ke x us).map fun s=>[OT.str s])] else [.row 9 1 ((Ke x us).map fun s=>[OT.str s])]):=h5
  unfold Bm at h7
  obtain ⟨tk,htk2⟩:∃ tk,tk=Ke x us:=⟨_,rfl⟩
  rw [←htk2] at h5 h7
  generalize skF x us=y at *
  obtain ⟨bb,hbb⟩:∃ bb,bb=x.bad x.free.length:=⟨_,rfl⟩
  rw [←hbb] at h7 ⊢
  clear htk htk2 hmul hbb
  rcases zG us.length tk.length with q | q
  all_goals
    first
      | rw [An q] at h5
      | rw [Aj (zH.2 q)] at h5
    simp only [cond_true,cond_false] at h5
    cases bb with
    | true =>
      rw [Bool.not_true,Bool.false_and,cond_false,hz1,hz2]
      refine Ai Ca AU (of_decide_eq_true rfl) ?_
      simp (disch:=omega) only [BG,go_sem,Ab,h1,h2,h3,h4,h5,h6,h7,A9,Bn,A3,BE,Cu,Bv,Az,Ar,Fm.osv,Fm.obs]
    | false =>
      rw [Bool.not_false,Bool.true_and]
      cases hq:y.valid with
      | true =>
        have hi:=Qs y hp1 (by omega) hq
        rw [cond_true]
        refine Ai Ca AU (of_decide_eq_true rfl) ?_
        simp (disch:=omega) only [BG,go_sem,Ab,h1,h2,h3,h4,h5,h6,h7,hi,A9,Bn,A3,BE,Cu,Bv,Az,Ar,Fm.osv,Fm.obs]
      | false =>
        have hi:=SD y hp1 (by omega) hq
        rw [cond_false,hz1,hz2]
        refine Ai Ca AU (of_decide_eq_true rfl) ?_
        simp (disch:=omega) only [BG,go_sem,Ab,h1,h2,h3,h4,h5,h6,h7,hi,A9,Bn,A3,BE,Cu,Bv,Az,Ar,Fm.osv,Fm.obs]
theorem NX (x:Fm) (us:List ByteArray) (hx:x.forms=true) (hn:x.nodes≤40) (hu:us.length≤1048576) (hbb:x.bad x.free.length=true):E 51 [x.sv,.arr (us.map fun s=>[D.str s])] []=some (.tup [Fm.zero.sv,.arr (us.map fun s=>[D.str s]),.bool false],[]):=by
 obtain ⟨b1,b2,b3,b4⟩:=J6 x hx hn
 have hxs:x.sv=.agg [.int .i64 x.op,.str x.atom.name,.arr (x.atom.args.map Tm.d),.str x.var,.arr (x.parts.map Fm.d)]:=rfl
 have hz1:Fm.zero.sv=.agg [.int .i64 0,.str ⟨#[]⟩,.arr [],.str ⟨#[]⟩,.arr []]:=rfl
 have h1:=PP x hx (by omega) (by omega)
 have h2:=JU x (by omega) us (by omega)
 have h3:=Nc x x.free.length (by omega) x.free.length rfl
 rw [hbb] at h3
 have hbf:(us.map fun s=>[D.str s]).map (fun x=>x.map D.ot)=us.map fun s=>[OT.str s]:=by rw [List.map_map]; rfl
 have haf:=Di us
 have hadf:=Ep us
 rw [hz1]
 rcases zG us.length (us++x.sy2).length with q | q
 all_goals
  first
   |rw [An q] at h2
   |rw [Aj (zH.2 q)] at h2
  simp only [cond_true,cond_false] at h2
  refine Ai Gx Bg (of_decide_eq_true rfl) ?_
  simp (disch:=omega) only [Ed,go_sem,Ab,h1,h2,h3,hbf,haf,hadf,List.nil_append,DN,Ez,AR,AS,Bz]
theorem Qx (x:Fm) (us:List ByteArray) (hx:x.forms=true) (hn:x.nodes≤40) (hu:us.length≤1048576) (hbb:x.bad x.free.length=false) (hqs:x.qs.Nodup):E 51 [x.sv,.arr (us.map fun s=>[D.str s])] []=some (.tup [(skF x us).sv,.arr ((us++(skF x us).sy2).map fun s=>[D.str s]),.bool (skF x us).valid],[]):=by
 obtain ⟨b1,b2,b3,b4⟩:=J6 x hx hn
 have hxs:x.sv=.agg [.int .i64 x.op,.str x.atom.name,.arr (x.atom.args.map Tm.d),.str x.var,.arr (x.parts.map Fm.d)]:=rfl
 have h1:=PP x hx (by omega) (by omega)
 have h2:=JU x (by omega) us (by omega)
 have h3:=Nc x x.free.length (by omega) x.free.length rfl
 rw [hbb] at h3
 have hbf:(us.map fun s=>[D.str s]).map (fun x=>x.map D.ot)=us.map fun s=>[OT.str s]:=by rw [List.map_map]; rfl
 have haf:=Di us
 have hadf:=Ep us
 have htl:(us++x.sy2).length≤1050000:=by rw [zD]; omega
 have hmul:(x.nodes:Int)*((us++x.sy2).length+2:Nat)≤42000080:=by
  have h:=Nat.mul_le_mul hn (show (us++x.sy2).length+2≤1050002 by omega)
  rw [←Int.natCast_mul]; omega
 have hem:(Sb.mk []).look=fun _=>none:=funext WQ
 have h7:=PR (us++x.sy2) x.free x hx [] ⟨[]⟩ (fun _=>none) 0 WP hem (TB.none _) hqs (fun v _=>rfl) (by show 0+_≤_; omega) (by rw [zB]; omega) (Int.le_refl 0) (by omega)
 obtain ⟨hp1,hp2⟩:=Fm.PL (us++x.sy2) x.free x hx [] (fun _=>none) 0 (by rw [zB]; omega) (TB.none _)
 unfold SsE at h7
 rw [List.append_nil] at h7
 have hsb:(Sb.mk []).sv=.agg [.arr []]:=rfl
 rw [hsb] at h7
 rw [Qbg x hx us] at hp1 hp2 h7
 generalize (x.sk (us++x.sy2) x.free [] (fun _=>none) 0).2=c1 at h7
 unfold Bm at h7
 obtain ⟨y,hy⟩:∃ y,y=skF x us:=⟨_,rfl⟩
 rw [←hy] at hp1 hp2 h7 ⊢
 have hys:y.sv=.agg [.int .i64 y.op,.str y.atom.name,.arr (y.atom.args.map Tm.d),.str y.var,.arr (y.parts.map Fm.d)]:=rfl
 have hyn:y.nodes≤40:=by omega
 have h8:=UE y hp1 (by omega)
 have h9:=JU y (by omega) us (by
  have:=QbT x hx hn us
  rw [hy]; omega)
 rw [hys] at h7 h8 h9 ⊢
 rcases zG us.length (us++x.sy2).length with q | q <;> rcases zG us.length (us++y.sy2).length with q' | q'
 all_goals
  first
   |rw [An q] at h2
   |rw [Aj (zH.2 q)] at h2
  first
   |rw [An q'] at h9
   |rw [Aj (zH.2 q')] at h9
  simp only [cond_true,cond_false] at h2 h9
  obtain ⟨u1,hu1⟩:∃ u1,u1=us++x.sy2:=⟨_,rfl⟩
  obtain ⟨u2,hu2⟩:∃ u2,u2=us++y.sy2:=⟨_,rfl⟩
  rw [←hu1] at h2 h7
  rw [←hu2] at h9 ⊢
  refine Ai Gx Bg (of_decide_eq_true rfl) ?_
  simp (disch:=omega) only [Ed,go_sem,Ab,h1,h2,h3,h7,h8,h9,hbf,haf,hadf,List.nil_append,Cp,DN,Ez,AR,AS,Bz]
theorem NY (x:Fm) (us:List ByteArray) (hta:x.tame) (hn:x.nodes≤1099511627776) (hu:us.length≤1048576):E 11 [x.sv,.arr (us.map fun s=>[D.str s])] []=some (.tup [(Mi x us).sv,.bool (G0 x us)],[]):=by
 have h1:=UE x hta hn
 have hz1:Fm.zero.sv=.agg [.int .i64 0,.str ⟨#[]⟩,.arr [],.str ⟨#[]⟩,.arr []]:=rfl
 have hxs:x.sv=.agg [.int .i64 x.op,.str x.atom.name,.arr (x.atom.args.map Tm.d),.str x.var,.arr (x.parts.map Fm.d)]:=rfl
 cases hv:x.valid with
 | false =>
  rw [hv] at h1
  have ho:G0 x us=false:=by unfold G0 skP; rw [hv]; rfl
  unfold Mi
  rw [ho,cond_false,hz1]
  refine Ai Cb AV (of_decide_eq_true rfl) ?_
  simp (disch:=omega) only [BH,go_sem,Ab,h1,Bz,AJ,Bo,Bg]
 | true =>
 rw [hv] at h1
 obtain ⟨hva1,hva2⟩:=J5 hv
 obtain ⟨b1,b2,b3,b4⟩:=J6 x hva2 hva1
 have h2:=R7 x hva2 (by omega)
 have h3:=Qw x hva2 (by omega) (by omega)
 cases hin:x.isN with
 | false =>
  rw [hin] at h2
  have ho:G0 x us=false:=by unfold G0 skP; rw [hv,hin,Bool.and_false]; rfl
  unfold Mi
  rw [ho,cond_false,hz1]
  refine Ai Cb AV (of_decide_eq_true rfl) ?_
  simp (disch:=omega) only [BH,go_sem,Ab,h1,h2,Bz,AJ,Bo,Bg]
 | true =>
 rw [hin] at h2
 cases hs:x.sepd with
 | false =>
  rw [hs] at h3
  have ho:G0 x us=false:=by unfold G0 skP; rw [hv,hs]; rfl
  unfold Mi
  rw [ho,cond_false,hz1]
  refine Ai Cb AV (of_decide_eq_true rfl) ?_
  simp (disch:=omega) only [BH,go_sem,Ab,h1,h2,h3,Bz,AJ,Bo,Bg]
 | true =>
 rw [hs] at h3
 have hok:G0 x us=skB x us:=by unfold G0 skP; rw [hv,hs,hin]; rfl
 unfold Mi
 rw [hok]
 unfold skB
 cases hbb:x.bad x.free.length with
 | true =>
  have h4:=NX x us hva2 hva1 hu hbb
  rw [hz1] at h4
  rw [Bool.not_true,Bool.false_and,cond_false,hz1]
  refine Ai Cb AV (of_decide_eq_true rfl) ?_
  simp (disch:=omega) only [BH,go_sem,Ab,h1,h2,h3,h4,Bz,AJ,Bo,Bg]
 | false =>
  have h4:=Qx x us hva2 hva1 hu hbb (Qbh hs)
  rw [Bool.not_false,Bool.true_and]
  generalize skF x us=y at *
  have hys:y.sv=.agg [.int .i64 y.op,.str y.atom.name,.arr (y.atom.args.map Tm.d),.str y.var,.arr (y.parts.map Fm.d)]:=rfl
  rw [hys] at h4
  cases hq:y.valid with
  | true =>
   rw [hq] at h4
   rw [cond_true,hys]
   refine Ai Cb AV (of_decide_eq_true rfl) ?_
   simp (disch:=omega) only [BH,go_sem,Ab,h1,h2,h3,h4,Bz,AJ,Bo,Bg]
  | false =>
   rw [hq] at h4
   rw [cond_false,hz1]
   refine Ai Cb AV (of_decide_eq_true rfl) ?_
   simp (disch:=omega) only [BH,go_sem,Ab,h1,h2,h3,h4,Bz,AJ,Bo,Bg]
theorem Fm.RA (x:Fm) (h:x.bulk≤1048576):x.tame∧x.nodes≤1+x.bulk:=by
 have hb:=Fm.bulk_eq x
 have ha:=Tm.Px x.atom
 have key:∀ xs:List Fm,(∀ y∈xs,y.bulk≤1048576→y.tame∧y.nodes≤1+y.bulk)→Fm.sumB xs≤1048576→Fm.Gb xs∧Fm.nodeS xs≤xs.length+Fm.sumB xs:=by
  intro xs
  induction xs with
  | nil=>intro _ _; rw [Fm.Gb,Fm.nodeS]; exact ⟨trivial,by simp⟩
  | cons y ys ih =>
   intro hh hs
   rw [Fm.sumB] at hs
   have h1:=hh y (by simp) (by omega)
   have h2:=ih (fun z hz=>hh z (by simp [hz])) (by omega)
   rw [Fm.Gb,Fm.nodeS,Fm.sumB,List.length_cons]
   exact ⟨⟨h1.1,h2.1⟩,by omega⟩
 have hk:=key x.parts (fun y hy hby=>Fm.RA y hby) (by omega)
 rw [Fm.Oj,Fm.nodes_eq]
 exact ⟨⟨by omega,hk.1⟩,by omega⟩
termination_by SizeOf.sizeOf x
decreasing_by exact Fm.lt_of_mem hy
theorem Tm.YB {x:Tm} (h:x.atom=true):x.bulk≤300:=by
 have hn:=Tm.KU h
 have h1:=Tm.KT x.args fun y hy=>Tm.Py y ((Tm.JQ h).2 y hy)
 have h2:x.name.size≤6:=by
  unfold Tm.atom at h
  split at h
  ·rename_i he
   unfold Tm.eqn at he
   rw [Ao.1 he]; decide
  ·rw [zA] at h; exact Rm h.1
 rw [Tm.nodes_eq] at hn
 rw [Tm.bulk_eq]
 omega
theorem Fm.PS (x:Fm) (h:x.forms=true):x.bulk+1≤320*x.nodes:=by
  have hf:=Fm.BB h
  have key:∀ xs:List Fm,(∀ y∈xs,y.bulk+1≤320*y.nodes)→xs.length+Fm.sumB xs≤320*Fm.nodeS xs:=by
    intro xs
    induction xs with
    | nil=>intro _; simp [Fm.sumB]
    | cons y ys ih =>
      intro hh
      have h1:=hh y (by simp)
      have h2:=ih fun z hz=>hh z (by simp [hz])
      rw [Fm.nodeS,Fm.sumB,List.length_cons]; omega
  have hk:=key x.parts fun y hy=>Fm.PS y (Fm.Be h hy)
  have ha:x.atom.bulk≤300:=by
    by_cases ho:x.op=3
    · exact Tm.YB (Fm.EJ hf ho).2.1
    · rw [Fm.Gc hf ho,Tm.bulk_eq]
      show 0+_≤_
      simp [Tm.args,Tm.sumB]
  have hv : x.var.size≤6:=by
    by_cases hq:qB x.op=true
    · exact Rl (Fm.BA hf hq).1
    · have hq2:qB x.op=false:=by simpa using hq
      have e:x.var=⟨#[]⟩:=by
        unfold qB at hq2
        rw [Bool.or_eq_false_iff] at hq2
        have o8:=Cj.1 hq2.1
        have o9:=Cj.1 hq2.2
        unfold Fm.form at hf
        split at hf
        · rw [zA] at hf; exact Ao.1 hf.2
        · split at hf
          · rw [zA] at hf; exact Ao.1 hf.2
          · split at hf
            · rw [zA] at hf; exact Ao.1 hf.2
            · split at hf
              · rw [zA] at hf; exact Ao.1 hf.2
              · rw [if_neg (by omega)] at hf; cases hf
      rw [e]
      decide
  rw [Fm.bulk_eq,Fm.nodes_eq]
  omega
termination_by SizeOf.sizeOf x
decreasing_by exact Fm.lt_of_mem hy
def BS:SC:=(.seq (.reg [⟨some 2,none,.boxv 27 5 (.t 0)⟩,⟨some 4,none,.mv (.c (.bool false))⟩]) (.seq (.reg [⟨some 5,none,.mv (.c (.int .i64 1048576))⟩]) (.seq (.reg [⟨some 17,none,.load true 5 (.t 2)⟩,⟨some 18,none,.mv (.t 5)⟩,⟨some 19,none,.call 9 [(.t 17),(.t 18)]⟩,⟨some 5,none,.mv (.t 19)⟩]) (.seq (.seq (.reg [⟨some 20,none,.mv (.t 5)⟩,⟨some 21,none,.bin .lss false (.t 20) (.c (.int .i64 0))⟩]) (.cond (.t 21) (.seq (.reg [⟨some 4,none,.mv (.c (.bool true))⟩]) .ret) .skip)) (.seq (.reg [⟨some 22,none,.mv (.t 1)⟩,⟨some 23,none,.mv (.t 5)⟩,⟨some 24,none,.call 10 [(.t 22),(.t 23)]⟩,⟨some 5,none,.mv (.t 24)⟩]) (.seq (.seq (.reg [⟨some 25,none,.mv (.t 5)⟩,⟨some 26,none,.bin .lss false (.t 25) (.c (.int .i64 0))⟩]) (.cond (.t 26) (.seq (.reg [⟨some 4,none,.mv (.c (.bool true))⟩]) .ret) .skip)) (.seq (.reg [⟨some 28,none,.load true 5 (.t 2)⟩,⟨some 29,none,.call 12 [(.t 28)]⟩,⟨some 30,none,.mv (.t 1)⟩,⟨some 31,none,.call 13 [(.t 30)]⟩,⟨some 32,none,.call 11 [(.t 29),(.t 31)]⟩,⟨some 27,none,.mv (.t 32)⟩,⟨some 33,none,.ext (.t 27) 0⟩,⟨some 34,none,.ext (.t 27) 1⟩,⟨(some 6),none,(.alloc 36 [(.int .i64 0),(.str ⟨#[]⟩),.nil,(.str ⟨#[]⟩),.nil])⟩,⟨none,none,(.store 5 (.t 6) (.t 33))⟩,⟨some 7,none,.mv (.t 34)⟩]) (.seq (.reg [⟨some 35,none,.load true 5 (.t 2)⟩,⟨some 36,none,.call 12 [(.t 35)]⟩,⟨(some 8),none,(.alloc 36 [(.int .i64 0),(.str ⟨#[]⟩),.nil,(.str ⟨#[]⟩),.nil])⟩,⟨none,none,(.store 5 (.t 8) (.t 36))⟩]) (.seq (.reg [⟨some 37,none,.mv (.t 1)⟩,⟨some 38,none,.call 13 [(.t 37)]⟩,⟨some 9,none,.mv (.t 38)⟩]) (.seq (.reg [⟨some 40,none,.load true 5 (.t 8)⟩,⟨some 41,none,.mv (.t 9)⟩,⟨some 42,none,.call 14 [(.t 40),(.t 41)]⟩,⟨some 39,none,.mv (.t 42)⟩,⟨some 43,none,.ext (.t 39) 0⟩,⟨some 44,none,.ext (.t 39) 1⟩,⟨(some 10),none,(.alloc 36 [(.int .i64 0),(.str ⟨#[]⟩),.nil,(.str ⟨#[]⟩),.nil])⟩,⟨none,none,(.store 5 (.t 10) (.t 43))⟩,⟨some 11,none,.mv (.t 44)⟩]) (.seq (.seq (.reg [⟨some 45,none,.load true 5 (.t 10)⟩,⟨some 46,none,.load true 5 (.t 6)⟩,⟨some 47,none,.call 15 [(.t 45),(.t 46)]⟩,⟨some 48,none,.un .not (.t 47)⟩,⟨some 49,none,.mv (.t 48)⟩,⟨(some 50),(some (49,false)),(.mv (.t 11))⟩,⟨(some 51),(some (49,false)),(.mv (.t 7))⟩,⟨(some 52),(some (49,false)),(.bin .neq true (.t 50) (.t 51))⟩,⟨some 53,none,.pick (.t 49) (.c (.bool true)) (.t 52)⟩]) (.cond (.t 53) (.seq (.reg [⟨some 4,none,.mv (.c (.bool false))⟩]) .ret) .skip)) (.seq (.seq (.dreg [[],[],[1],[0,2,1],[3,0,2,1]] [⟨some 54,none,.load true 5 (.t 8)⟩,⟨some 55,none,.load true 5 (.t 2)⟩,⟨some 56,none,.call 12 [(.t 55)]⟩,⟨some 57,none,.call 15 [(.t 54),(.t 56)]⟩,⟨some 58,none,.un .not (.t 57)⟩]) (.cond (.t 58) (.seq (.reg [⟨some 4,none,.mv (.c (.bool false))⟩]) .ret) .skip)) (.seq (.seq (.reg [⟨some 59,none,.mv (.t 9)⟩,⟨some 60,none,.mv (.t 1)⟩,⟨some 61,none,.call 13 [(.t 60)]⟩,⟨some 62,none,.call 16 [(.t 59),(.t 61)]⟩,⟨some 63,none,.un .not (.t 62)⟩]) (.cond (.t 63) (.seq (.reg [⟨some 4,none,.mv (.c (.bool false))⟩]) .ret) .skip)) (.seq (.reg [⟨some 12,none,.mv (.c (.int .i64 1))⟩]) (.seq (.reg [⟨some 64,none,.load true 5 (.t 8)⟩,⟨some 65,none,.mv (.t 12)⟩,⟨some 66,none,.call 17 [(.t 64),(.t 65)]⟩,⟨some 12,none,.mv (.t 66)⟩]) (.seq (.reg [⟨some 67,none,.mv (.t 9)⟩,⟨some 68,none,.mv (.t 12)⟩,⟨some 69,none,.call 18 [(.t 67),(.t 68)]⟩,⟨some 12,none,.mv (.t 69)⟩]) (.seq (.seq (.reg [⟨some 70,none,.mv (.t 12)⟩,⟨some 71,none,.bin .lss false (.t 70) (.c (.int .i64 0))⟩,⟨some 72,none,.mv (.t 71)⟩,⟨(some 73),(some (72,false)),(.load true 5 (.t 10))⟩,⟨(some 74),(some (72,false)),(.load true 5 (.t 6))⟩,⟨(some 75),(some (72,false)),(.call 15 [(.t 73),(.t 74)])⟩,⟨(some 76),(some (72,false)),(.un .not (.t 75))⟩,⟨some 77,none,.pick (.t 72) (.c (.bool true)) (.t 76)⟩,⟨some 78,none,.mv (.t 77)⟩,⟨(some 79),(some (78,false)),(.mv (.t 11))⟩,⟨(some 80),(some (78,false)),(.mv (.t 7))⟩,⟨(some 81),(some (78,false)),(.bin .neq true (.t 79) (.t 80))⟩,⟨some 82,none,.pick (.t 78) (.c (.bool true)) (.t 81)⟩]) (.cond (.t 82) (.seq (.reg [⟨some 4,none,.mv (.c (.bool false))⟩]) .ret) .skip)) (.seq (.reg [⟨some 13,none,.mv (.c (.int .i64 1))⟩]) (.seq (.reg [⟨some 83,none,.load true 5 (.t 10)⟩,⟨some 84,none,.mv (.t 13)⟩,⟨some 85,none,.call 17 [(.t 83),(.t 84)]⟩,⟨some 13,none,.mv (.t 85)⟩]) (.seq (.reg [⟨some 14,none,.mv (.c (.int .i64 1))⟩]) (.seq (.reg [⟨some 86,none,.load true 5 (.t 10)⟩,⟨some 87,none,.mv (.t 14)⟩,⟨some 88,none,.call 19 [(.t 86),(.t 87)]⟩,⟨some 14,none,.mv (.t 88)⟩]) (.seq (.seq (.reg [⟨some 89,none,.mv (.t 14)⟩,⟨some 90,none,.bin .lss false (.t 89) (.c (.int .i64 0))⟩]) (.cond (.t 90) (.seq (.reg [⟨some 4,none,.mv (.c (.bool false))⟩]) .ret) .skip)) (.seq (.seq (.reg [⟨some 91,none,.mv (.t 14)⟩,⟨some 92,none,.mv (.t 13)⟩,⟨some 93,none,.bin .neq false (.t 91) (.t 92)⟩]) (.cond (.t 93) (.seq (.reg [⟨some 4,none,.mv (.c (.bool false))⟩]) .ret) .skip)) (.seq (.reg [⟨some 95,none,.load true 5 (.t 2)⟩,⟨some 96,none,.call 12 [(.t 95)]⟩,⟨some 97,none,.mv (.t 1)⟩,⟨some 98,none,.call 13 [(.t 97)]⟩,⟨some 99,none,.call 14 [(.t 96),(.t 98)]⟩,⟨some 94,none,.mv (.t 99)⟩,⟨some 100,none,.ext (.t 94) 0⟩,⟨some 101,none,.ext (.t 94) 1⟩,⟨(some 15),none,(.alloc 36 [(.int .i64 0),(.str ⟨#[]⟩),.nil,(.str ⟨#[]⟩),.nil])⟩,⟨none,none,(.store 5 (.t 15) (.t 100))⟩,⟨some 16,none,.mv (.t 101)⟩]) (.seq (.seq (.reg [⟨some 102,none,.load true 5 (.t 15)⟩,⟨some 103,none,.load true 5 (.t 6)⟩,⟨some 104,none,.call 15 [(.t 102),(.t 103)]⟩,⟨some 105,none,.un .not (.t 104)⟩,⟨some 106,none,.mv (.t 105)⟩,⟨(some 107),(some (106,false)),(.mv (.t 16))⟩,⟨(some 108),(some (106,false)),(.mv (.t 7))⟩,⟨(some 109),(some (106,false)),(.bin .neq true (.t 107) (.t 108))⟩,⟨some 110,none,.pick (.t 106) (.c (.bool true)) (.t 109)⟩]) (.cond (.t 110) (.seq (.reg [⟨some 4,none,.mv (.c (.bool false))⟩]) .ret) .skip)) (.seq (.reg [⟨some 14,none,.mv (.c (.int .i64 1))⟩]) (.seq (.reg [⟨some 111,none,.load true 5 (.t 10)⟩,⟨some 112,none,.mv (.t 14)⟩,⟨some 113,none,.call 19 [(.t 111),(.t 112)]⟩,⟨some 14,none,.mv (.t 113)⟩]) (.seq (.seq (.reg [⟨some 114,none,.mv (.t 14)⟩,⟨some 115,none,.bin .lss false (.t 114) (.c (.int .i64 0))⟩]) (.cond (.t 115) (.seq (.reg [⟨some 4,none,.mv (.c (.bool false))⟩]) .ret) .skip)) (.seq (.seq (.reg [⟨some 116,none,.mv (.t 14)⟩,⟨some 117,none,.mv (.t 13)⟩,⟨some 118,none,.bin .neq false (.t 116) (.t 117)⟩]) (.cond (.t 118) (.seq (.reg [⟨some 4,none,.mv (.c (.bool false))⟩]) .ret) .skip)) (.seq (.reg [⟨some 4,none,.mv (.c (.bool true))⟩]) .ret))))))))))))))))))))))))))))))
theorem CB:codeOf Tryz.prog 3=some ⟨119,BS,[(.tmp 4)]⟩:=by kernel_rfl
theorem CC:modes 3=⟨[],.asis,none,false⟩:=by unfold modes; rfl
theorem Fm.YC:Fm.zero.bulk=0:=by
 rw [Fm.bulk_eq]
 show Tm.zero.bulk+0+(0+Fm.sumB [])=_
 rw [Tm.bulk_eq,Fm.sumB]
 show (0+(0+Tm.sumB []))+0+0=_
 rw [Tm.sumB]
theorem YD (x:Fm) (us:List ByteArray):(Mi x us).bulk≤1048576:=by
 unfold Mi
 cases h:G0 x us with
 | false=>rw [cond_false,Fm.YC]; omega
 | true =>
  rw [cond_true]
  unfold G0 skB at h
  rw [zA,zA] at h
  have h2:=h.2.2
  obtain ⟨h3,h4⟩:=J5 h2
  have:=Fm.PS _ h4
  omega
theorem Qbi (x:Fm) (us:List ByteArray) (hfx:D.fits x.d) (hfus:D.fit (.arr (us.map (fun s=>[D.str s])))):E 3 [x.sv,.arr (us.map (fun s=>[D.str s]))] []=some (.bool true,[]):=by
 have s0:=N5 x hfx 1048576 (by omega) (by omega)
 have q0:=AW 1048576 x.bulk
 obtain ⟨l0,hl0⟩:∃ l,l=szR 1048576 (x.bulk:Nat):=⟨_,rfl⟩
 rw [←hl0] at s0 q0
 rcases Int.lt_or_le l0 0 with h0 | h0_0
 ·refine Ai CB CC (of_decide_eq_true rfl) ?_
  simp (disch:=omega) only [BS,go_sem,Ab,s0,Bs]
 have s1:=Ut us hfus l0 (by omega) (by omega)
 have q1:=AW l0 (us.length+HY us)
 obtain ⟨l1,hl1⟩:∃ l,l=szR l0 ((us.length+HY us):Nat):=⟨_,rfl⟩
 rw [←hl1] at s1 q1
 rcases Int.lt_or_le l1 0 with h0 | h0_1
 ·refine Ai CB CC (of_decide_eq_true rfl) ?_
  simp (disch:=omega) only [BS,go_sem,Ab,s0,s1,Bs,BX]
 have hb_x:x.bulk≤1048576:=by omega
 have hb_us:(us.length+HY us)≤1048576:=by omega
 have t_x:=N6 x hb_x
 have t_us:=Ux us hb_us
 obtain ⟨htx,hnx⟩:=Fm.RA x hb_x
 have a1:=NY x us htx (by omega) (by omega)
 have a2:=NW x us htx (by omega) (by omega)
 have hb_r:=YD x us
 obtain ⟨r,hr_r⟩:∃ r,r=Mi x us:=⟨_,rfl⟩
 rw [←hr_r] at a1 a2 hb_r
 obtain ⟨o,hr_o⟩:∃ r,r=G0 x us:=⟨_,rfl⟩
 rw [←hr_o] at a1 a2
 have eq_x:=Jx x (by omega)
 have be_x:=Fm.bulk_eq x
 have be_x_atom:=Tm.bulk_eq x.atom
 have w_x_atom_args:=Tm.wtS_bulk x.atom.args
 have w_x_parts:=Fm.wtS_bulk x.parts
 have eq_us:=U1 us (by omega)
 have w_us:=St.wtS_bulk us
 have eq_r:=Jx r (by omega)
 have be_r:=Fm.bulk_eq r
 have be_r_atom:=Tm.bulk_eq r.atom
 have w_r_atom_args:=Tm.wtS_bulk r.atom.args
 have w_r_parts:=Fm.wtS_bulk r.parts
 have k_x_0:=Tm.mkS_end x.atom.args (1)
 have k_x_1:=Fm.mkS_end x.parts ((Tm.mkS x.atom.args (1)).2)
 have m_x:=Kt x (1) (.row 33 2 (x.atom.args.map Tm.o)) (.row 36 5 (x.parts.map Fm.o)) (by omega) (by omega) rfl rfl
 obtain ⟨n_x,hn_x⟩:∃ n1,n1=(x.mkr (1)).2:=⟨_,rfl⟩
 have hn'_x:n_x=(Fm.mkS x.parts ((Tm.mkS x.atom.args (1)).2)).2:=hn_x
 rw [←hn_x] at m_x
 have k_us:=St.mkS_end us (n_x)
 have m_us:=Ql us (n_x) [.row 9 1 (us.map (fun s=>[OT.str s]))] (by omega) (by omega) rfl
 obtain ⟨n_us,hn_us⟩:∃ n1,n1=(St.mkS us (n_x)).2:=⟨_,rfl⟩
 rw [←hn_us] at k_us m_us
 have k_r_0:=Tm.mkS_end r.atom.args (1)
 have k_r_1:=Fm.mkS_end r.parts ((Tm.mkS r.atom.args (1)).2)
 have m_r:=Kt r (1) (.row 33 2 (r.atom.args.map Tm.o)) (.row 36 5 (r.parts.map Fm.o)) (by omega) (by omega) rfl rfl
 have hd_r:=Qm r (1) (by omega) (by omega)
 obtain ⟨n_r,hn_r⟩:∃ n1,n1=(r.mkr (1)).2:=⟨_,rfl⟩
 have hn'_r:n_r=(Fm.mkS r.parts ((Tm.mkS r.atom.args (1)).2)).2:=hn_r
 rw [←hn_r] at m_r hd_r
 refine Ai CB CC (of_decide_eq_true rfl) ?_
 simp (disch:=omega) only [BS,go_sem,s0,s1,t_x,t_us,a1,a2,eq_x,eq_us,eq_r,m_x,m_us,hd_r,m_r,DH,Bs,BX,BY,C6,BZ,C7,Cg,Cf,Ch,AV,AU,Fm.osv,Fm.obs,Tm.osv,Tm.obs,Tm.erss,Tm.noss,Fm.erss,Fm.noss]
 repeat ((first | (refine A5 ?_ ?_; (focus (simp (disch:=omega) only [go_sem,s0,s1,t_x,t_us,a1,a2,eq_x,eq_us,eq_r,m_x,m_us,hd_r,m_r,DH,Bs,BX,BY,C6,BZ,C7,Cg,Cf,Ch,AV,AU,Fm.osv,Fm.obs,Tm.osv,Tm.obs,Tm.erss,Tm.noss,Fm.erss,Fm.noss]; done))) | (refine A6 ?_ ?_; (focus (simp (disch:=omega) only [go_sem,s0,s1,t_x,t_us,a1,a2,eq_x,eq_us,eq_r,m_x,m_us,hd_r,m_r,DH,Bs,BX,BY,C6,BZ,C7,Cg,Cf,Ch,AV,AU,Fm.osv,Fm.obs,Tm.osv,Tm.obs,Tm.erss,Tm.noss,Fm.erss,Fm.noss]; done)))); (try simp (disch:=omega) only [go_sem,s0,s1,t_x,t_us,a1,a2,eq_x,eq_us,eq_r,m_x,m_us,hd_r,m_r,DH,Bs,BX,BY,C6,BZ,C7,Cg,Cf,Ch,AV,AU,Fm.osv,Fm.obs,Tm.osv,Tm.obs,Tm.erss,Tm.noss,Fm.erss,Fm.noss]))
end Go.Proofs.YtepbennkcbmgoaaGreatDoor
set_option maxRecDepth 100000
set_option linter.unusedSimpArgs false
set_option linter.unusedVariables false
set_option linter.unusedSectionVars false
namespace Go.Proofs.YtepbennkcbmgoaaGreatDoor
open Go.RowKit Go.ChangeShapes Go.WideShapes Go.ChangeAt Go.Deep
section
variable {H:Type} {enc:TypeId × Value→H} {P:Program} {w:World} {base:Nat} {spare:Nat→Bool} {held:Bool}
theorem J7 {b o k:Nat}:(⟨b,o,none⟩:Addr).add k=⟨b,o+k,none⟩:=by
 unfold Addr.add; split
 ·subst_vars; rfl
 ·rfl
theorem Qbj {a:Addr} {v:Value} (h:w.cell? a=some v):a.block<w.heap.size:=by
 unfold World.cell? at h
 cases hb:w.heap[a.block]? with
 | none=>rw [hb] at h; cases h
 | some o=>exact (zF.1 hb).1
end
section
variable {H:Type} {enc:TypeId × Value→H} {w:World} {base:Nat} {spare:Nat→Bool} {held:Bool}
end
end Go.Proofs.YtepbennkcbmgoaaGreatDoor
set_option maxRecDepth 100000
set_option linter.unusedSimpArgs false
set_option linter.unusedVariables false
set_option linter.unusedSectionVars false
namespace Go.Proofs.YtepbennkcbmgoaaGreatDoor
open Go.RowKit Go.ChangeShapes Go.WideShapes Go.ChangeAt Go.Deep
section
variable {H:Type} {enc:TypeId × Value→H} {P:Program} {w:World} {base:Nat} {spare:Nat→Bool} {held:Bool}
theorem PT {t e:TypeId} {fuel:Nat} {v:Value} {x:DataW H × List MemPlace} (sz:Nat) (hsz:P.cellsOf e=sz) (h0:0<sz) (ht:P.underlying t=some (.slice e)) (h:DataW.trod enc P w base spare held fuel t [v]=some x) :
    ∃ (a:Option Addr) (len cap:Nat) (f:Nat→Nat→Value),v=.slice a len cap∧len≤cap∧cap≤9223372036854775807∧SlA w 0 sz len f a ∧
      ∀ i,i<len→∃ n x',n<fuel∧DataW.trod enc P w base spare held n e ((zE sz).map (f i))=some x':=by
  rcases DataW.trod_slice ht h with ⟨hcs,_⟩ | ⟨a,len,cap,elems,rest,n,hf,hcs,hx,hb,hl,hm,hlen,hel,_,_⟩
  · simp only [List.cons.injEq,and_true] at hcs
    exact ⟨none,0,0,fun _ _=>undef,hcs,Nat.le_refl _,by omega,.inl rfl,fun i hi=>absurd hi (by omega)⟩
  · have hi:∀ i,i<len→∃ cs' x',w.cells? base (a.add (i*sz)) sz=some cs'∧DataW.trod enc P w base spare held n e cs'=some x':=by
      intro i hi
      have h1:=hel i hi
      rw [hsz,zC (by omega)] at h1
      obtain ⟨cs',h2,h3⟩:=Option.bind_eq_some_iff.1 h1
      exact ⟨cs',_,h2,h3⟩
    have hcell:∀ i j,i<len→j<sz→∃ v,w.cell? (a.add (i*sz+j))=some v:=by
      intro i j hil hj
      obtain ⟨cs',x',hc,_⟩:=hi i hil
      obtain ⟨_,hcl,hat⟩:=World.cells?_some hc
      have h1:=hat j hj
      rw [Go.Deep.add_add,zC (by omega)] at h1
      exact ⟨_,h1⟩
    simp only [List.cons.injEq,and_true] at hcs
    refine ⟨some a,len,cap,fun i j=>(w.cell? (a.add (i*sz+j))).getD undef,hcs,hl,hm,?_,?_⟩
    · rcases Nat.eq_zero_or_pos len with h | h
      · exact .inl h
      · obtain ⟨v,hv⟩:=hcell 0 0 h h0
        rw [Nat.zero_mul,Nat.zero_add] at hv
        have hsp:a.spot=none:=by simpa [Addr.add] using World.cell?_spot hv
        have hlt:=Qbj hv
        obtain ⟨b,off,spot⟩:=a
        simp only at hsp
        subst hsp
        refine .inr ⟨b,off,rfl,Nat.zero_le _,by simpa [Addr.add] using hlt,fun i j hil hj=>?_⟩
        obtain ⟨v',hv'⟩:=hcell i j hil hj
        rw [J7] at hv'
        show _=some ((w.cell? ((⟨b,off,none⟩:Addr).add (i*sz+j))).getD undef)
        rw [J7,Nat.add_assoc,hv']
        rfl
    · intro i hil
      obtain ⟨cs',x',hc,ht'⟩:=hi i hil
      obtain ⟨_,hcl,hat⟩:=World.cells?_some hc
      refine ⟨n,x',by omega,?_⟩
      have hcs':(zE sz).map (fun j=>(w.cell? (a.add (i*sz+j))).getD undef)=cs':=by
        apply List.ext_getElem?
        intro j
        by_cases hj:j<sz
        · rw [List.getElem?_map,List.getElem?_range hj]
          have h1:=hat j hj
          rw [Go.Deep.add_add] at h1
          rw [zC (by omega:j<cs'.length)] at h1 ⊢
          simp [h1]
        · rw [List.getElem?_eq_none (by simp; omega),List.getElem?_eq_none (by omega)]
      rw [hcs']
      exact ht'
theorem US {t:TypeId} {fs:Array Field} {fuel:Nat} {cs:List Value} {x:DataW H × List MemPlace} (ht:P.underlying t=some (.struct fs)) (h:DataW.trod enc P w base spare held fuel t cs=some x) :
  ∃ n,n<fuel∧cs.length=P.cellsOf t∧∀ (i:Nat) (f:Field),fs[i]?=some f→∃ y,DataW.trod enc P w base spare held n f.type ((cs.drop f.offset).take (P.cellsOf f.type))=some y:=by
 obtain ⟨xs,n,hn,hx,hlen,hxl,hf⟩:=DataW.trod_struct ht h
 refine ⟨n,by omega,hlen,fun i f hi=>?_⟩
 have hil:i<fs.size:=(zF.1 hi).1
 have h1:=hf i f hi
 rw [zC (by omega:i<xs.length)] at h1
 exact ⟨_,h1⟩
end
inductive Lvs (w:World):List D→List Value→Prop
 |nil:Lvs w [] []
 |cons {d:D} {v:Value} {ds:List D} {vs:List Value} (h:DAt w d v) (hs:Lvs w ds vs):Lvs w (d :: ds) (v :: vs)
theorem Lvs.len {w:World} {ds:List D} {vs:List Value} (h:Lvs w ds vs):ds.length=vs.length:=by
 induction h with
 | nil=>rfl
 | cons h hs ih=>simp [ih]
theorem Lvs.get {w:World} {ds:List D} {vs:List Value} (h:Lvs w ds vs):∀ j (h1:j<ds.length) (h2:j<vs.length),DAt w ds[j] vs[j]:=by
 induction h with
 | nil=>intro j h1; simp at h1
 | cons h hs ih =>
  intro j h1 h2
  cases j with
  | zero=>exact h
  | succ j=>exact ih j (by simpa using h1) (by simpa using h2)
theorem PU {α:Type} [Inhabited α] (dd:α→List D) {w:World} {m len cap:Nat} {f:Nat→Nat→Value} {a:Option Addr} (hl:len≤cap) (hm:cap≤9223372036854775807) (hS:SlA w 0 m len f a)
  (hel:∀ i,i<len→∃ X:α,Lvs w (dd X) ((zE m).map (f i))):∃ xs:List α,DAt w (.arr (xs.map dd)) (.slice a len cap):=by
 obtain ⟨g,hg⟩:∃ g:Nat→α,∀ i,i<len→Lvs w (dd (g i)) ((zE m).map (f i)) :=
  ⟨fun i=>if h:i<len then (hel i h).choose else default,fun i hi=>by simp only [hi,dif_pos]; exact (hel i hi).choose_spec⟩
 refine ⟨(zE len).map g,?_⟩
 have hlen:(((zE len).map g).map dd).length=len:=by simp
 have:=DAt.Qbw (w:=w) (es:=((zE len).map g).map dd) (sz:=m) (cap:=cap) (a:=a) (f:=f) (by rw [hlen]; exact hl) hm (by rw [hlen]; exact hS) (fun i hi=>by
  rw [hlen] at hi
  have:=(hg i hi).len
  simpa using this) (fun i j hi hj=>by
  rw [hlen] at hi
  have h1:=hg i hi
  have h2:=h1.len
  simp only [List.length_map,List.length_range] at h2
  simp only [List.getElem_map,List.getElem_range] at hj ⊢
  have:=h1.get j hj (by simp; omega)
  simpa using this)
 rw [hlen] at this
 exact this
instance:Inhabited Tm:=⟨Tm.zero⟩
instance:Inhabited Fm:=⟨Fm.zero⟩
section
variable {H:Type} {enc:TypeId × Value→H} {w:World} {base:Nat} {spare:Nat→Bool} {held:Bool}
end
end Go.Proofs.YtepbennkcbmgoaaGreatDoor
set_option maxRecDepth 100000
set_option linter.unusedSimpArgs false
set_option linter.unusedVariables false
set_option linter.unusedSectionVars false
namespace Go.Proofs.YtepbennkcbmgoaaGreatDoor
open Go.RowKit
theorem DRep.lt_ {own:Bool} {w:World} {S:Nat→Prop} {d:D} {v:Value} (h:DRep own w S d v):DRep own w (fun b=>S b∧b<w.heap.size) d v:=by
 induction h with
 | int S n=>exact .int _ n
 | bool S b=>exact .bool _ b
 | str S s h=>exact .str _ s h
 | arr S sz es a cap f Sub h1 h2 h3 h4 h5 h6 h7 ih =>
  refine .arr _ sz es a cap f (fun i j x=>Sub i j x∧x<w.heap.size) h1 h2 ?_ h4 (fun i j x h=>⟨h5 i j x h.1,h.2⟩) (fun ho i j i' j' x h h'=>h6 ho i j i' j' x h.1 h'.1) ih
  rcases h3 with h3 | ⟨b,off,ha,hS,hl,hc,ho⟩
  ·exact .inl h3
  ·exact .inr ⟨b,off,ha,⟨hS,hl⟩,hl,hc,fun h=>⟨fun i j hx=>(ho h).1 i j hx.1,(ho h).2⟩⟩
theorem DAt.rep {w:World} {es:List (List D)} {v:Value} (h:DAt w (.arr es) v):RepV w (fun b=>b<w.heap.size) (fun _=>none) (.arr es) v:=by
 simp only [RepV]
 exact (DRep.lt_ h).up fun b hb=>hb.2
theorem Fun.yes {f:FuncId} {args:List SV} (h:Fun Tryz.prog f args [] (.bool true) []) {w:World} {vs:List Value} (hgl:GL w fun b=>b<w.heap.size) (hvs:RepVs w (fun b=>b<w.heap.size) (fun _=>none) args vs):Calls Tryz.prog f vs.toArray w (Ret w (.bool true)):=by
 have nl:∀ g,¬ (Aq [] g).live:=fun g hg=>by simp [Aq,Ob.live] at hg
 refine (h w (fun b=>b<w.heap.size) (fun _=>none) (fun _ _=>False) vs ⟨fun b hb=>hb,fun g hg=>absurd hg (nl g),fun g b hg=>absurd hg (nl g),fun g b hg=>absurd hg (nl g),fun g g' b hg=>absurd hg (nl g),fun g _=>rfl,hgl⟩ hvs).mono ?_
 rintro e w' ⟨v,I',V',B',rfl,hr,hp⟩
 simp only [RepV] at hr
 subst hr
 exact ⟨rfl,hp.fr.os,hp.fr.tape.1,hp.fr.output,hp.fr.size,fun b hb=>hp.fr.block b hb fun ⟨g,hg,_⟩=>absurd hg (nl g)⟩
theorem UT {w:World} {d:D} {ds:List D} {v:Value} {vs:List Value} (h:Lvs w (d :: ds) (v :: vs)):DAt w d v∧Lvs w ds vs:=by
 cases h with
 | cons h1 h2=>exact ⟨h1,h2⟩
theorem DAt.rep_sv {w:World} {d:D} {v:Value} (h:DAt w d v):RepV w (fun b=>b<w.heap.size) (fun _=>none) d.sv v :=
 D.rep_sv ((DRep.lt_ h).up fun b hb=>hb.2)
theorem Lvs.reps {w:World} {ds:List D} {vs:List Value} (h:Lvs w ds vs):RepVs w (fun b=>b<w.heap.size) (fun _=>none) (ds.map D.sv) vs:=by
 induction h with
 | nil=>simp [RepVs]
 | cons h hs ih=>simp only [List.map_cons,RepVs]; exact ⟨_,_,rfl,h.rep_sv,ih⟩
theorem Lvs.agg {w:World} {ds:List D} {vs:List Value} (h:Lvs w ds vs):RepV w (fun b=>b<w.heap.size) (fun _=>none) (.agg (ds.map D.sv)) (.agg vs.toArray):=by
 simp only [RepV]; exact ⟨vs,rfl,h.reps⟩
theorem Lvs.fits {w:World} {ds:List D} {vs:List Value} (h:Lvs w ds vs):D.fits ds:=by
 induction h with
 | nil=>trivial
 | cons h hs ih=>exact ⟨DRep.fit h,ih⟩
theorem DAt.fit {w:World} {d:D} {v:Value} (h:DAt w d v):D.fit d:=DRep.fit h
theorem Qap {w:World} {I:Nat→Prop} {V:Nat→Option Value}:RepVs w I V [] []:=by simp [RepVs]
theorem RB {w:World} {I:Nat→Prop} {V:Nat→Option Value} {x:SV} {xs:List SV} {v:Value} {vs:List Value} (h:RepV w I V x v) (hs:RepVs w I V xs vs):RepVs w I V (x :: xs) (v :: vs):=by
 simp only [RepVs]; exact ⟨v,vs,rfl,h,hs⟩
instance:Inhabited Lt:=⟨Lt.zero⟩
instance:Inhabited Cl:=⟨Cl.zero⟩
section
variable {H:Type} {enc:TypeId × Value→H} {w:World} {base:Nat} {spare:Nat→Bool} {held:Bool}
theorem UU {fuel:Nat} {v:Value} {x:DataW H × List MemPlace} (h:DataW.trod enc Tryz.prog w base spare held fuel 28 [v]=some x):∃ xs:List ByteArray,DAt w (.arr (xs.map fun s=>[D.str s])) v:=by
 obtain ⟨a,len,cap,f,rfl,hl,hm,hS,hr⟩:=PT (P:=Tryz.prog) 1 (by kernel_rfl) (by omega) Tryz.underlying28 h
 exact PU (fun s=>[D.str s]) hl hm hS fun i hi=>by
  obtain ⟨n,x',hn,h1⟩:=hr i hi
  obtain ⟨z,q,_,s⟩:=DataW.trod_string Tryz.underlying9 h1
  rw [q]
  exact ⟨z,.cons (.str _ z s) .nil⟩
theorem NC {fuel:Nat} (ih:∀ n,n<fuel→∀ v x,DataW.trod enc Tryz.prog w base spare held n 22 [v]=some x→∃ xs:List Tm,DAt w (.arr (xs.map Tm.d)) v) {cs:List Value} {x:DataW H × List MemPlace} (h:DataW.trod enc Tryz.prog w base spare held fuel 24 cs=some x):∃ X:Tm,Lvs w X.d cs:=by
 obtain ⟨n,hn,hlen,hf⟩:=US Tryz.underlying24 h
 rw [show Tryz.prog.cellsOf 24=2 by kernel_rfl] at hlen
 match cs,hlen with
 | [c0,c1],_ =>
  obtain ⟨y0,k0⟩:=hf 0 _ rfl
  have e0:(([c0,c1].drop 0).take (Tryz.prog.cellsOf 9))=[c0]:=by rw [show Tryz.prog.cellsOf 9=1 by kernel_rfl]; rfl
  obtain ⟨z0,q0,_,s0⟩:=DataW.trod_string Tryz.underlying9 k0
  have q0':c0=.string z0:=by
   have:[c0]=[.string z0]:=by rw [←e0]; exact q0
   simpa using this
  obtain ⟨y1,k1⟩:=hf 1 _ rfl
  have e1:(([c0,c1].drop 1).take (Tryz.prog.cellsOf 22))=[c1]:=by rw [show Tryz.prog.cellsOf 22=1 by kernel_rfl]; rfl
  have k1':DataW.trod enc Tryz.prog w base spare held n 22 [c1]=some y1:=by rw [←e1]; exact k1
  obtain ⟨z1,g1⟩:=ih n hn c1 y1 k1'
  subst q0'
  exact ⟨.mk z0 z1,by rw [Tm.d_eq]; exact (.cons (.str _ z0 s0) (.cons g1 .nil))⟩
theorem Qy:∀ (fuel:Nat) (v:Value) (x:DataW H × List MemPlace),DataW.trod enc Tryz.prog w base spare held fuel 22 [v]=some x→∃ xs:List Tm,DAt w (.arr (xs.map Tm.d)) v:=by
  intro fuel
  induction fuel using Nat.strongRecOn with
  | _ fuel ih =>
    intro v x h
    obtain ⟨a,len,cap,f,rfl,hl,hm,hS,hr⟩:=PT (P:=Tryz.prog) 2 (by kernel_rfl) (by omega) Tryz.underlying22 h
    exact PU Tm.d hl hm hS fun i hi=>by
      obtain ⟨n,x',hn,h1⟩:=hr i hi
      exact NC (fun n' hn'=>ih n' (by omega)) h1
theorem Qaq {fuel:Nat} {cs:List Value} {x:DataW H × List MemPlace} (h:DataW.trod enc Tryz.prog w base spare held fuel 24 cs=some x):∃ X:Tm,Lvs w X.d cs :=
 NC (fun n _=>Qy n) h
theorem J8 {fuel:Nat} (ih:∀ n,n<fuel→∀ v x,DataW.trod enc Tryz.prog w base spare held n 25 [v]=some x→∃ xs:List Fm,DAt w (.arr (xs.map Fm.d)) v) {cs:List Value} {x:DataW H × List MemPlace} (h:DataW.trod enc Tryz.prog w base spare held fuel 27 cs=some x):∃ X:Fm,Lvs w X.d cs:=by
 obtain ⟨n,hn,hlen,hf⟩:=US Tryz.underlying27 h
 rw [show Tryz.prog.cellsOf 27=5 by kernel_rfl] at hlen
 match cs,hlen with
 | [c0,c1,c2,c3,c4],_ =>
  obtain ⟨y0,k0⟩:=hf 0 _ rfl
  have e0:(([c0,c1,c2,c3,c4].drop 0).take (Tryz.prog.cellsOf 3))=[c0]:=by rw [show Tryz.prog.cellsOf 3=1 by kernel_rfl]; rfl
  obtain ⟨z0,q0,_,_⟩:=DataW.trod_int Tryz.underlying3 k0
  have q0':c0=.int .i64 z0:=by
   have:[c0]=[.int .i64 z0]:=by rw [←e0]; exact q0
   simpa using this
  obtain ⟨y1,k1⟩:=hf 1 _ rfl
  have e1:(([c0,c1,c2,c3,c4].drop 1).take (Tryz.prog.cellsOf 24))=[c1,c2]:=by rw [show Tryz.prog.cellsOf 24=2 by kernel_rfl]; rfl
  have k1':DataW.trod enc Tryz.prog w base spare held n 24 [c1,c2]=some y1:=by rw [←e1]; exact k1
  obtain ⟨z1,g1⟩:=Qaq k1'
  rw [Tm.d_eq] at g1
  obtain ⟨g1_0,g1⟩:=UT g1
  obtain ⟨g1_1,g1⟩:=UT g1
  obtain ⟨y2,k2⟩:=hf 2 _ rfl
  have e2:(([c0,c1,c2,c3,c4].drop 3).take (Tryz.prog.cellsOf 9))=[c3]:=by rw [show Tryz.prog.cellsOf 9=1 by kernel_rfl]; rfl
  obtain ⟨z2,q2,_,s2⟩:=DataW.trod_string Tryz.underlying9 k2
  have q2':c3=.string z2:=by
   have:[c3]=[.string z2]:=by rw [←e2]; exact q2
   simpa using this
  obtain ⟨y3,k3⟩:=hf 3 _ rfl
  have e3:(([c0,c1,c2,c3,c4].drop 4).take (Tryz.prog.cellsOf 25))=[c4]:=by rw [show Tryz.prog.cellsOf 25=1 by kernel_rfl]; rfl
  have k3':DataW.trod enc Tryz.prog w base spare held n 25 [c4]=some y3:=by rw [←e3]; exact k3
  obtain ⟨z3,g3⟩:=ih n hn c4 y3 k3'
  subst q0' q2'
  exact ⟨.mk z0 z1 z2 z3,by rw [Fm.d_eq]; exact (.cons (.int _ z0) (.cons g1_0 (.cons g1_1 (.cons (.str _ z2 s2) (.cons g3 .nil)))))⟩
theorem Nf:∀ (fuel:Nat) (v:Value) (x:DataW H × List MemPlace),DataW.trod enc Tryz.prog w base spare held fuel 25 [v]=some x→∃ xs:List Fm,DAt w (.arr (xs.map Fm.d)) v:=by
  intro fuel
  induction fuel using Nat.strongRecOn with
  | _ fuel ih =>
    intro v x h
    obtain ⟨a,len,cap,f,rfl,hl,hm,hS,hr⟩:=PT (P:=Tryz.prog) 5 (by kernel_rfl) (by omega) Tryz.underlying25 h
    exact PU Fm.d hl hm hS fun i hi=>by
      obtain ⟨n,x',hn,h1⟩:=hr i hi
      exact J8 (fun n' hn'=>ih n' (by omega)) h1
theorem UV {fuel:Nat} {cs:List Value} {x:DataW H × List MemPlace} (h:DataW.trod enc Tryz.prog w base spare held fuel 27 cs=some x):∃ X:Fm,Lvs w X.d cs :=
 J8 (fun n _=>Nf n) h
end
end Go.Proofs.YtepbennkcbmgoaaGreatDoor
