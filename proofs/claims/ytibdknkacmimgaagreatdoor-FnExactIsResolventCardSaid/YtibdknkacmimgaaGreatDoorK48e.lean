/-
  Texts of this claim, one behind the other, each built on those ahead of it. No condition.
-/
import Derived.Test.YtibdknkacmimgaaGreatDoorK48b
import Derived.Test.YtibdknkacmimgaaGreatDoorK48c
import Derived.Test.YtibdknkacmimgaaGreatDoorK48d
set_option maxHeartbeats 16000000
open Bool renaming and_eq_true → zA, and_self → zJ, false_and → yC, not_eq_true' → yD, not_not → yG, and_false → yJ, true_and → yK
open List renaming length_cons → zB, drop_eq_getElem_cons → zC, length_append → zD, drop_eq_nil_of_le → zE, map_cons → zF, getElem_of_mem → zG, eq_nil_or_concat → zH, map_nil → zI, drop_zero → zK, all_eq_true → zL, length_map → zN, mem_cons → zO, cons_append → zQ, mergeSort_perm → zR, mem_append → zS, length_nil → zT, map_map → zV, append_assoc → zW, all_map → zX, getElem_mem → zY, filterMap_cons → z7, mergeSort_nil → z8, map_append → yH, nil_append → yI
open Nat renaming lt_or_ge → zM, zero_le → zP, le_refl → zU, eq_zero_or_pos → yB
open List.cons renaming injEq → zZ
open Int renaming toNat_zero → yA
open Option renaming getD_none → yF
set_option maxRecDepth 100000
set_option linter.unusedSimpArgs false
set_option linter.unusedVariables false
set_option linter.unusedSectionVars false
namespace Go.Proofs.YtibdknkacmimgaaGreatDoor
open Go.RowKit
theorem A6:modes 134=⟨[true],.asis,some D4,false⟩:=by unfold modes; rfl
theorem Qef (l:List Bd) (hl:l.length≤1099511627776) (hn:(l.map Bd.var).Nodup):E 134 [.ref 0,.fn 135 []] [.row 139 3 (l.map Bd.o)]=some (.tup [],[.row 139 3 ((l.mergeSort bdLe).map Bd.o)]):=by
 rw [Ho (g:=D4) (congrArg FM.ext A6)]
 unfold D4
 simp only
 have e1:(l.map Bd.o).map W4=l.map Bd.var:=by rw [zV]; rfl
 rw [As ⟨by first | trivial | rfl,by first | trivial | rfl,fun e he=>by obtain ⟨b,_,rfl⟩:=List.mem_map.1 he; exact ⟨_,_,_,rfl⟩,by rw [e1]; exact hn,by simpa using hl⟩,cond_true]
 have e2:(l.mergeSort bdLe).map Bd.o=(l.map Bd.o).mergeSort rowLe:=List.map_mergeSort fun a _ b _=>rfl
 rw [e2]
theorem Qbt:E 134 [.nil,.fn 135 []] []=some (.tup [],[]):=by
 rw [Ho (g:=D4) (congrArg FM.ext A6)]
 unfold D4
 simp only
 rw [As (by first | trivial | rfl),cond_true]
def Ka:SC:=(.seq (.reg [⟨some 2,none,.boxv 76 1 (.t 0)⟩,⟨some 3,none,.boxv 76 1 (.t 1)⟩,⟨some 4,none,.alloc 76 [.nil]⟩,⟨some 5,none,.mv (.c (.bool false))⟩]) (.seq (.reg [⟨some 14,none,.build [.nil] []⟩,⟨some 6,none,.alloc 76 [.nil]⟩,⟨none,none,(.store 1 (.t 6) (.t 14))⟩]) (.seq (.seq (.reg [⟨some 15,none,.faddr 0 (.t 2)⟩,⟨some 16,none,.load false 1 (.t 15)⟩,⟨some 17,none,.len false (.t 16)⟩,⟨some 18,none,.mv (.c (.int .i64 0))⟩]) (.block 0 (.loop [0,0,1,1,1,0,1,0,0,0,0,0,0,0,0,0,1,1,1,0,0,0,0,0,0,0,0,0,0,0,0,0,0,0,0,0,0,0,0,0,0,0,0,0,0,0,0,0,0,0,0,0,0,0,0,0,0,0,0,0,0,0,0,0,0,0,0,0,0,0,0,0,0,0,0,0,0] (.seq (.reg [⟨some 19,none,.bin .lss false (.t 18) (.t 17)⟩]) (.seq (.cond (.t 19) .skip (.exit 0)) (.seq (.block 1 (.seq (.reg [⟨some 20,none,.iaddr 3 (.t 16) (.t 18)⟩,⟨some 21,none,.load true 3 (.t 20)⟩,⟨(some 8),none,(.alloc 139 [(.str ⟨#[]⟩),(.str ⟨#[]⟩),.nil])⟩,⟨none,none,(.store 3 (.t 8) (.t 21))⟩]) (.seq (.reg [⟨some 22,none,.load true 1 (.t 3)⟩,⟨some 23,none,.faddr 1 (.t 8)⟩,⟨some 24,none,.load true 2 (.t 23)⟩,⟨some 25,none,.call 126 [(.t 22),(.t 24)]⟩,⟨(some 9),none,(.alloc 71 [(.str ⟨#[]⟩),.nil])⟩,⟨none,none,(.store 2 (.t 9) (.t 25))⟩]) (.seq (.reg [⟨some 26,none,.faddr 0 (.t 9)⟩,⟨some 27,none,.load false 1 (.t 26)⟩,⟨some 28,none,.faddr 0 (.t 8)⟩,⟨some 29,none,.load false 1 (.t 28)⟩,⟨some 30,none,.bin .neq false (.t 27) (.t 29)⟩]) (.cond (.t 30) (.reg [⟨some 31,none,.faddr 0 (.t 6)⟩,⟨some 32,none,.load false 1 (.t 31)⟩,⟨some 33,none,.faddr 0 (.t 8)⟩,⟨some 34,none,.load false 1 (.t 33)⟩,⟨some 35,none,.load true 2 (.t 9)⟩,⟨(some 36),none,(.build [(.str ⟨#[]⟩),(.str ⟨#[]⟩),.nil] [(0,(1,(.t 34))),(1,(2,(.t 35)))])⟩,⟨(some 37),none,(.mkrow 139 3 [(.str ⟨#[]⟩),(.str ⟨#[]⟩),.nil] 1 [(0,(.t 36))])⟩,⟨(some 38),none,(.append 139 3 56 [(.str ⟨#[]⟩),(.str ⟨#[]⟩),.nil] (.t 32) (.t 37))⟩,⟨some 39,none,.faddr 0 (.t 6)⟩,⟨none,none,(.store 1 (.t 39) (.t 38))⟩]) .skip))))) (.reg [⟨some 40,none,.bin .add false (.t 18) (.c (.int .i64 1))⟩,⟨some 18,none,.mv (.t 40)⟩]))))))) (.seq (.seq (.reg [⟨some 41,none,.faddr 0 (.t 3)⟩,⟨some 42,none,.load false 1 (.t 41)⟩,⟨some 43,none,.len false (.t 42)⟩,⟨some 44,none,.mv (.c (.int .i64 0))⟩]) (.block 2 (.loop [0,0,1,0,1,0,1,0,0,0,0,0,0,0,0,0,0,0,0,0,0,0,0,0,0,0,0,0,0,0,0,0,0,0,0,0,0,0,0,0,0,0,1,1,1,0,0,0,0,0,0,0,0,0,0,0,0,0,0,0,0,0,0,0,0,0,0,0,0,0,0,0,0,0,0,0,0] (.seq (.reg [⟨some 45,none,.bin .lss false (.t 44) (.t 43)⟩]) (.seq (.cond (.t 45) .skip (.exit 2)) (.seq (.block 3 (.seq (.reg [⟨some 46,none,.iaddr 3 (.t 42) (.t 44)⟩,⟨some 47,none,.load true 3 (.t 46)⟩,⟨(some 11),none,(.alloc 139 [(.str ⟨#[]⟩),(.str ⟨#[]⟩),.nil])⟩,⟨none,none,(.store 3 (.t 11) (.t 47))⟩]) (.seq (.reg [⟨some 49,none,.load true 1 (.t 2)⟩,⟨some 50,none,.faddr 0 (.t 11)⟩,⟨some 51,none,.load false 1 (.t 50)⟩,⟨some 52,none,.call 132 [(.t 49),(.t 51)]⟩,⟨some 48,none,.mv (.t 52)⟩,⟨some 53,none,.ext (.t 48) 0⟩,⟨some 54,none,.ext (.t 48) 1⟩,⟨(some 12),none,(.alloc 71 [(.str ⟨#[]⟩),.nil])⟩,⟨none,none,(.store 2 (.t 12) (.t 53))⟩,⟨some 13,none,.mv (.t 54)⟩]) (.seq (.reg [⟨some 55,none,.mv (.t 13)⟩,⟨some 56,none,.un .not (.t 55)⟩]) (.cond (.t 56) (.dreg [[],[0],[],[2],[],[4],[5,4],[3,2,6,5,4],[7,3,2,6,5,4],[1,0,8,7,3,2,6,5,4],[0,1,2,3,4,5,6,7,8,9],[10,0,1,2,3,4,5,6,7,8,9]] [⟨some 57,none,.faddr 0 (.t 6)⟩,⟨some 58,none,.load false 1 (.t 57)⟩,⟨some 59,none,.faddr 0 (.t 11)⟩,⟨some 60,none,.load false 1 (.t 59)⟩,⟨some 61,none,.faddr 1 (.t 11)⟩,⟨some 62,none,.load true 2 (.t 61)⟩,⟨some 63,none,.call 133 [(.t 62)]⟩,⟨(some 64),none,(.build [(.str ⟨#[]⟩),(.str ⟨#[]⟩),.nil] [(0,(1,(.t 60))),(1,(2,(.t 63)))])⟩,⟨(some 65),none,(.mkrow 139 3 [(.str ⟨#[]⟩),(.str ⟨#[]⟩),.nil] 1 [(0,(.t 64))])⟩,⟨(some 66),none,(.append 139 3 56 [(.str ⟨#[]⟩),(.str ⟨#[]⟩),.nil] (.t 58) (.t 65))⟩,⟨some 67,none,.faddr 0 (.t 6)⟩,⟨none,none,(.store 1 (.t 67) (.t 66))⟩]) .skip))))) (.reg [⟨some 68,none,.bin .add false (.t 44) (.c (.int .i64 1))⟩,⟨some 44,none,.mv (.t 68)⟩]))))))) (.seq (.reg [⟨some 69,none,.faddr 0 (.t 6)⟩,⟨some 70,none,.load false 1 (.t 69)⟩,⟨some 71,none,.call 134 [(.t 70),(.c (.fn 135 []))]⟩]) (.seq (.seq (.reg [⟨some 72,none,.load true 1 (.t 6)⟩,⟨some 73,none,.call 131 [(.t 72)]⟩,⟨some 74,none,.un .not (.t 73)⟩]) (.cond (.t 74) (.seq (.reg [⟨some 75,none,.build [.nil] []⟩,⟨none,none,(.store 1 (.t 4) (.t 75))⟩,⟨some 5,none,.mv (.c (.bool false))⟩]) .ret) .skip)) (.seq (.reg [⟨some 76,none,.load true 1 (.t 6)⟩,⟨none,none,(.store 1 (.t 4) (.t 76))⟩,⟨some 5,none,.mv (.c (.bool true))⟩]) .ret)))))))
theorem PY:codeOf Tryz.prog 91=some ⟨77,Ka,[(.cell 4 true 1),(.tmp 5)]⟩:=by kernel_rfl
theorem Aj:modes 91=⟨[],.own [some (139,3),none],none,false⟩:=by unfold modes; rfl
theorem Sb.Sn {u:Sb} (hu:u.ok=true) {t:Tm} (ht:t.valid=true):(t.ap u.look).nodes≤900:=by
 have h:=Tm.IY (Sb.Fx hu) t
 have h2:t.nodes≤30:=Tm.Ar (by unfold Tm.expr; rw [ht]; rfl)
 omega
theorem Xu {t:Tm} (h:t.valid=true):t.names=true:=by
 unfold Tm.valid at h; rw [zA] at h; exact h.2
theorem Et {t:Tm} (h:t.valid=true):t.nodes≤30:=Tm.Ar (by unfold Tm.expr; rw [h]; rfl)
theorem ok_len {s:Sb} (h:s.ok=true):s.binds.length≤12:=by
 unfold Sb.ok at h; rw [zA,decide_eq_true_eq] at h; exact h.1
theorem QcL (s u:Sb):(Cv s u).binds.length≤s.binds.length+u.binds.length:=by
 unfold Cv
 show ((C0 s u).mergeSort bdLe).length≤_
 rw [(zR _ _).length_eq]
 exact Sd s u
theorem Zr {s u:Sb} (hs:s.ok=true) (hu:u.ok=true) {b:Bd} (h:b∈C0 s u):b.term.nodes≤900:=by
 unfold C0 at h
 rcases zS.1 h with h | h
 ·obtain ⟨c,hc,_,e⟩:=Uf h
  obtain ⟨k,hk,rfl⟩:=zG hc
  rw [e]
  exact Sb.Sn hu (D8 (Sb.JR hs hk))
 ·have hc:=(List.mem_filter.1 h).1
  obtain ⟨k,hk,rfl⟩:=zG hc
  have:=Et (D8 (Sb.JR hu hk))
  omega
theorem Uj {s u:Sb} (hs:s.ok=true) (hu:u.ok=true):(Cv s u).tame:=by
 have h1:=QcL s u
 have h2:=ok_len hs
 have h3:=ok_len hu
 refine ⟨by omega,fun y hy=>?_⟩
 have:=Zr hs hu ((zR (C0 s u) bdLe).mem_iff.1 hy)
 omega
noncomputable def C1 (s u:Sb):Bool:=(Cv s u).ok
noncomputable def F5 (s u:Sb):Sb:=bif C1 s u then Cv s u else ⟨[]⟩
theorem JC (s u:Sb) (hs:s.ok=true) (hu:u.ok=true) (hts:s.tame) (htu:u.tame):E 91 [s.sv,u.sv] []=some (.tup [(F5 s u).osv,.bool (C1 s u)],(F5 s u).obs):=by
 have hsl:=ok_len hs
 have hul:=ok_len hu
 have hnil:(([]:List Bd)=[])=True:=eq_self _
 refine Ae PY Aj (of_decide_eq_true rfl) ?_
 simp (disch:=omega) only [Ka,go_sem,Aa]
 refine go_loop (α:=Int × List Bd) (fun a=>⟨slots 77 0 [(2,.ptr 0 0),(3,.ptr 1 0),(4,.ptr 2 0),(6,.ptr 3 0),(16,.arr (s.binds.map Bd.d)),(17,.int .i64 s.binds.length),(18,.int .i64 a.1)],(if a.2=[] then [.box 76 [.arr (s.binds.map Bd.d)],.box 76 [.arr (u.binds.map Bd.d)],.box 76 [.nil],.box 76 [.nil]] else [.box 76 [.arr (s.binds.map Bd.d)],.box 76 [.arr (u.binds.map Bd.d)],.box 76 [.nil],.box 76 [.ref 4],.row 139 3 (a.2.map Bd.o)])⟩) (fun a=>∃ k:Nat,a.1=k∧k≤s.binds.length∧a.2++(s.binds.drop k).filterMap (CR u)=H4 s u∧a.2.length≤k) (fun a=>s.binds.length-a.1.toNat) (0,[]) ⟨0,rfl,zP _,by rw [zK]; rfl,zU _⟩ (by simp (disch:=omega) only [go_sem,Aa,hnil,if_true]) ?_
 rintro ⟨i,acc⟩ ⟨k,hi,hk,hR,hal⟩
 dsimp only at hi hR hal
 have hni:i.toNat=k:=by omega
 have hni1:(i+1).toNat=k+1:=by omega
 rcases zM k s.binds.length with hlt | hge
 ·have hg:=get_at Bd.d hlt
  rw [Bd.d_eq] at hg
  have hval:=D8 (Sb.JR hs hlt)
  have hc:=Qal u hu htu s.binds[k].term (Xu hval) (by have:=Et hval; omega)
  rw [zC hlt,z7] at hR
  cases hq:dec ((s.binds[k].term.ap u.look).name=s.binds[k].var) with
  | true =>
   have ho:CR u s.binds[k]=none:=by unfold CR; rw [hq]; rfl
   rw [ho] at hR
   rcases zH acc with ha | ⟨ys,y,ha⟩
   ·subst ha
    simp (disch:=omega) only [go_sem,Aa,hni,hg,hc,hq,hnil,if_true,Tm.osv,Tm.obs,Aw,A7,Ba]
    exact ⟨(i+1,[]),⟨k+1,by dsimp only; omega,hlt,hR,by dsimp only; omega⟩,by dsimp only; omega,by first | trivial | rfl | simp only [hnil,if_true,and_self]⟩
   ·have hne:(acc=[])=False:=eq_false (by rw [ha]; simp)
    simp (disch:=omega) only [go_sem,Aa,hni,hg,hc,hq,hne,if_false,Tm.osv,Tm.obs,zN,Aw,A7,Ba]
    exact ⟨(i+1,acc),⟨k+1,by dsimp only; omega,hlt,hR,by dsimp only; omega⟩,by dsimp only; omega,by first | trivial | rfl | simp only [hne,if_false,and_self]⟩
  | false =>
   have ho:CR u s.binds[k]=some ⟨s.binds[k].var,s.binds[k].term.ap u.look⟩:=by unfold CR; rw [hq]; rfl
   rw [ho] at hR
   obtain ⟨b,hb⟩:∃ b:Bd,b=⟨s.binds[k].var,s.binds[k].term.ap u.look⟩:=⟨_,rfl⟩
   have hbo:[OT.str s.binds[k].var,.str (s.binds[k].term.ap u.look).name,.ow ((s.binds[k].term.ap u.look).args.map Tm.o)]=b.o:=by rw [hb]; rfl
   have hR':(acc++[b])++(s.binds.drop (k+1)).filterMap (CR u)=H4 s u:=by rw [hb,zW]; exact hR
   have hnea:(acc++[b]=[])=False:=eq_false (by simp)
   have hlen:(acc++[b]).length≤k+1:=by rw [zD]; simp only [zB,zT]; omega
   rcases zH acc with ha | ⟨ys,y,ha⟩
   ·subst ha
    have hneb:([b]=[])=False:=eq_false (by simp)
    simp (disch:=omega) only [go_sem,Aa,hni,hg,hc,hq,hnil,if_true,Tm.osv,Tm.obs,Aw,A7,Ba]
    exact ⟨(i+1,[b]),⟨k+1,by dsimp only; omega,hlt,hR',by simp⟩,by dsimp only; omega,by simp only [hneb,if_false,← hbo,zF,zI,and_self]⟩
   ·have hne:(acc=[])=False:=eq_false (by rw [ha]; simp)
    simp (disch:=omega) only [go_sem,Aa,hni,hg,hc,hq,hne,if_false,Tm.osv,Tm.obs,zN,Aw,A7,Ba]
    exact ⟨(i+1,acc++[b]),⟨k+1,by dsimp only; omega,hlt,hR',by dsimp only; omega⟩,by dsimp only; omega,by simp only [hnea,if_false,← hbo,yH,zF,zI,and_self]⟩
 rw [zE hge,List.filterMap_nil,List.append_nil] at hR
 subst hR
 have hl1:(H4 s u).length≤12:=by omega
 have htame:=Uj hs hu
 have hvalid:=DV (Cv s u) htame
 have hnd:=NK (Sb.JQ hs) (Sb.JQ hu)
 have hcl:=Sd s u
 have hsort:=Qef (C0 s u) (by omega) hnd
 have hsn:=Qbt
 have hosv:(Cv s u).sv=.agg [.arr (((C0 s u).mergeSort bdLe).map Bd.d)]:=rfl
 rw [hosv] at hvalid
 have hor:((H4 s u=[])=True)∨((H4 s u=[])=False):=by
  by_cases h:H4 s u=[]
  ·exact .inl (eq_true h)
  ·exact .inr (eq_false h)
 rcases hor with hE | hE
 all_goals
  simp (disch:=omega) only [go_sem,Aa,hni,hE,if_true,if_false]
  refine go_loop (α:=Int × List Bd) (fun a=>⟨slots 77 0 [(2,.ptr 0 0),(4,.ptr 1 0),(6,.ptr 2 0),(42,.arr (u.binds.map Bd.d)),(43,.int .i64 u.binds.length),(44,.int .i64 a.1)],(if a.2=[] then [.box 76 [.arr (s.binds.map Bd.d)],.box 76 [.nil],.box 76 [.nil]] else [.box 76 [.arr (s.binds.map Bd.d)],.box 76 [.nil],.box 76 [.ref 3],.row 139 3 (a.2.map Bd.o)])⟩) (fun a=>∃ k:Nat,a.1=k∧k≤u.binds.length∧a.2++(u.binds.drop k).filter (fun b=>!DW s.binds b.var)=C0 s u∧a.2.length≤12+k) (fun a=>u.binds.length-a.1.toNat) (0,H4 s u) ⟨0,rfl,zP _,by rw [zK]; rfl,by dsimp only; omega⟩ (by simp (disch:=omega) only [go_sem,Aa,hE,if_true,if_false]) ?_
  rintro ⟨i,acc⟩ ⟨k,hi,hk,hR,hal⟩
  dsimp only at hi hR hal
  have hni:i.toNat=k:=by omega
  have hni1:(i+1).toNat=k+1:=by omega
  rcases zM k u.binds.length with hlt | hge
  ·have hg:=get_at Bd.d hlt
   rw [Bd.d_eq] at hg
   have hval:=D8 (Sb.JR hu hlt)
   have hc:=J7 u.binds[k].term (by have:=Et hval; omega)
   rw [zC hlt,List.filter_cons] at hR
   cases hh:DW s.binds u.binds[k].var with
   | true =>
    have hq:=Zf s hs u.binds[k].var (by omega) hh (HW hh)
    rw [hh,if_neg (by simp)] at hR
    rcases zH acc with ha | ⟨ys,y,ha⟩
    ·subst ha
     simp (disch:=omega) only [go_sem,Aa,hni,hg,hc,hq,hnil,if_true,Tm.osv,Tm.obs,Aw,A7,Ba]
     exact ⟨(i+1,[]),⟨k+1,by dsimp only; omega,hlt,hR,by simp⟩,by dsimp only; omega,by first | trivial | rfl | simp only [hnil,if_true,and_self]⟩
    ·have hne:(acc=[])=False:=eq_false (by rw [ha]; simp)
     simp (disch:=omega) only [go_sem,Aa,hni,hg,hc,hq,hne,if_false,Tm.osv,Tm.obs,zN,Aw,A7,Ba]
     exact ⟨(i+1,acc),⟨k+1,by dsimp only; omega,hlt,hR,by dsimp only; omega⟩,by dsimp only; omega,by first | trivial | rfl | simp only [hne,if_false,and_self]⟩
   | false =>
    have hq:=Qbo s hs u.binds[k].var (by omega) hh
    rw [hh,if_pos (by simp)] at hR
    have hbo:[OT.str u.binds[k].var,.str u.binds[k].term.name,.ow (u.binds[k].term.args.map Tm.o)]=u.binds[k].o:=rfl
    have hR':(acc++[u.binds[k]])++(u.binds.drop (k+1)).filter (fun b=>!DW s.binds b.var)=C0 s u:=by rw [zW]; exact hR
    have hnea:(acc++[u.binds[k]]=[])=False:=eq_false (by simp)
    have hlen:(acc++[u.binds[k]]).length≤12+(k+1):=by rw [zD]; simp only [zB,zT]; omega
    rcases zH acc with ha | ⟨ys,y,ha⟩
    ·subst ha
     have hneb:([u.binds[k]]=[])=False:=eq_false (by simp)
     simp (disch:=omega) only [go_sem,Aa,hni,hg,hc,hq,hnil,if_true,Tm.osv,Tm.obs,Aw,A7,Ba]
     exact ⟨(i+1,[u.binds[k]]),⟨k+1,by dsimp only; omega,hlt,hR',by simp; omega⟩,by dsimp only; omega,by simp only [hneb,if_false,← hbo,zF,zI,and_self]⟩
    ·have hne:(acc=[])=False:=eq_false (by rw [ha]; simp)
     simp (disch:=omega) only [go_sem,Aa,hni,hg,hc,hq,hne,if_false,Tm.osv,Tm.obs,zN,Aw,A7,Ba]
     exact ⟨(i+1,acc++[u.binds[k]]),⟨k+1,by dsimp only; omega,hlt,hR',by dsimp only; omega⟩,by dsimp only; omega,by simp only [hnea,if_false,← hbo,yH,zF,zI,and_self]⟩
  ·rw [zE hge,List.filter_nil,List.append_nil] at hR
   subst hR
   unfold F5
   cases hok:C1 s u with
   | false =>
    have hok':(Cv s u).ok=false:=hok
    rw [hok'] at hvalid
    simp only [cond_false]
    rcases zH (C0 s u) with ha | ⟨ys,y,ha⟩
    ·have hz:(C0 s u=[])=True:=eq_true ha
     rw [ha,z8,zI] at hvalid
     simp (disch:=omega) only [go_sem,Aa,hni,hz,if_true,hsn,hvalid,Ax,A6]
     try rfl
    ·have hz:(C0 s u=[])=False:=eq_false (by rw [ha]; simp)
     simp (disch:=omega) only [go_sem,Aa,hni,hz,if_false,hsort,hvalid,Bd.erss,Bd.fus,Ax,A6]
     try rfl
   | true =>
    have hok':(Cv s u).ok=true:=hok
    rw [hok'] at hvalid
    simp only [cond_true]
    rcases zH (C0 s u) with ha | ⟨ys,y,ha⟩
    ·have hz:(C0 s u=[])=True:=eq_true ha
     have hcs:Cv s u=⟨[]⟩:=by unfold Cv; rw [ha,z8]
     rw [hcs]
     rw [ha,z8,zI] at hvalid
     simp (disch:=omega) only [go_sem,Aa,hni,hz,if_true,hsn,hvalid,Ax,A6]
     try rfl
    ·have hz:(C0 s u=[])=False:=eq_false (by rw [ha]; simp)
     simp (disch:=omega) only [go_sem,Aa,hni,hz,if_false,hsort,hvalid,Bd.erss,Bd.fus,Ax,A6]
     try rfl
def JD:SC:=(.seq (.reg [⟨some 3,none,.boxv 76 1 (.t 0)⟩,⟨some 5,none,.boxv 71 2 (.t 2)⟩,⟨some 6,none,.alloc 76 [.nil]⟩]) (.seq (.seq (.reg [⟨some 9,none,.faddr 0 (.t 5)⟩,⟨some 10,none,.load false 1 (.t 9)⟩,⟨some 11,none,.mv (.t 1)⟩,⟨some 12,none,.bin .eql false (.t 10) (.t 11)⟩]) (.cond (.t 12) (.seq (.reg [⟨some 13,none,.load true 1 (.t 3)⟩,⟨none,none,(.store 1 (.t 6) (.t 13))⟩]) .ret) .skip)) (.seq (.reg [⟨some 7,none,.mv (.c (.int .i64 0))⟩]) (.seq (.block 0 (.loop [0,1,0,1,0,1,1,1,0,0,0,0,0,0,0,0,0,0,0,0,0,0,0,0,0,0,0,0,0,0,0,0,0,0,0,0,0,0,0,0,0,0,0,0,0,0,0,0,0,0,0] (.seq (.seq (.reg [⟨some 14,none,.mv (.t 7)⟩,⟨some 15,none,.faddr 0 (.t 3)⟩,⟨some 16,none,.load false 1 (.t 15)⟩,⟨some 17,none,.len false (.t 16)⟩,⟨some 18,none,.bin .lss false (.t 14) (.t 17)⟩,⟨some 19,none,.mv (.t 18)⟩,⟨(some 20),(some (19,true)),(.faddr 0 (.t 3))⟩,⟨(some 21),(some (19,true)),(.load false 1 (.t 20))⟩,⟨(some 22),(some (19,true)),(.mv (.t 7))⟩,⟨(some 23),(some (19,true)),(.iaddr 3 (.t 21) (.t 22))⟩,⟨(some 24),(some (19,true)),(.faddr 0 (.t 23))⟩,⟨(some 25),(some (19,true)),(.load false 1 (.t 24))⟩,⟨(some 26),(some (19,true)),(.mv (.t 1))⟩,⟨(some 27),(some (19,true)),(.bin .lss false (.t 25) (.t 26))⟩,⟨some 28,none,.pick (.t 19) (.t 27) (.c (.bool false))⟩]) (.cond (.t 28) .skip (.exit 0))) (.block 1 (.reg [⟨some 29,none,.mv (.t 7)⟩,⟨some 30,none,.bin .add false (.t 29) (.c (.int .i64 1))⟩,⟨some 7,none,.mv (.t 30)⟩]))))) (.seq (.reg [⟨(some 31),none,(.mkrow 139 3 [(.str ⟨#[]⟩),(.str ⟨#[]⟩),.nil] 0 [])⟩,⟨some 32,none,.faddr 0 (.t 3)⟩,⟨some 33,none,.load false 1 (.t 32)⟩,⟨some 34,none,.mv (.t 7)⟩,⟨some 35,none,.slice false 3 (.t 33) none (some (.t 34))⟩,⟨(some 36),none,(.append 139 3 56 [(.str ⟨#[]⟩),(.str ⟨#[]⟩),.nil] (.t 31) (.t 35))⟩,⟨some 8,none,.mv (.t 36)⟩]) (.seq (.reg [⟨some 37,none,.mv (.t 8)⟩,⟨some 38,none,.mv (.t 1)⟩,⟨some 39,none,.load true 2 (.t 5)⟩,⟨some 40,none,.call 148 [(.t 39)]⟩,⟨(some 41),none,(.build [(.str ⟨#[]⟩),(.str ⟨#[]⟩),.nil] [(0,(1,(.t 38))),(1,(2,(.t 40)))])⟩,⟨(some 42),none,(.mkrow 139 3 [(.str ⟨#[]⟩),(.str ⟨#[]⟩),.nil] 1 [(0,(.t 41))])⟩,⟨(some 43),none,(.append 139 3 56 [(.str ⟨#[]⟩),(.str ⟨#[]⟩),.nil] (.t 37) (.t 42))⟩,⟨some 8,none,.mv (.t 43)⟩]) (.seq (.reg [⟨some 44,none,.mv (.t 8)⟩,⟨some 45,none,.faddr 0 (.t 3)⟩,⟨some 46,none,.load false 1 (.t 45)⟩,⟨some 47,none,.mv (.t 7)⟩,⟨some 48,none,.slice false 3 (.t 46) (some (.t 47)) none⟩,⟨(some 49),none,(.append 139 3 56 [(.str ⟨#[]⟩),(.str ⟨#[]⟩),.nil] (.t 44) (.t 48))⟩,⟨some 50,none,.build [.nil] [(0,(1,(.t 49)))]⟩,⟨none,none,(.store 1 (.t 6) (.t 50))⟩]) .ret)))))))
theorem NU:codeOf Tryz.prog 116=some ⟨51,JD,[(.cell 6 true 1)]⟩:=by kernel_rfl
theorem CG:modes 116=⟨[],.frz,none,false⟩:=by unfold modes; rfl
def Jg:SC:=(.seq (.reg [⟨some 2,none,.boxv 76 1 (.t 0)⟩,⟨some 3,none,.boxv 76 1 (.t 1)⟩,⟨some 4,none,.alloc 76 [.nil]⟩]) (.seq (.reg [⟨some 8,none,.build [.nil] []⟩,⟨some 5,none,.alloc 76 [.nil]⟩,⟨none,none,(.store 1 (.t 5) (.t 8))⟩]) (.seq (.seq (.reg [⟨some 6,none,.mv (.c (.int .i64 0))⟩]) (.block 0 (.loop [0,0,1,1,1,1,1,0,0,0,0,0,0,0,0,0,0,0,0,0,0,0,0,0,0,0,0,0,0,0,0,0,0,0,0,0,0,0,0,0,0,0,0,0,0,0,0,0,0,0,0,0,0,0,0,0,0,0,0,0,0,0,0] (.seq (.seq (.reg [⟨some 9,none,.mv (.t 6)⟩,⟨some 10,none,.faddr 0 (.t 2)⟩,⟨some 11,none,.load false 1 (.t 10)⟩,⟨some 12,none,.len false (.t 11)⟩,⟨some 13,none,.bin .lss false (.t 9) (.t 12)⟩]) (.cond (.t 13) .skip (.exit 0))) (.seq (.block 1 (.dreg [[],[],[1],[],[2,1,3],[4,2,1,3],[5,4,2,1,3],[],[],[8],[],[9,8,10],[11,9,8,10],[12,11,9,8,10],[7,13,12,11,9,8,10],[0,6,5,4,2,1,3,14,7,13,12,11,9,8,10],[15,0,6,5,4,2,1,3,14,7,13,12,11,9,8,10]] [⟨some 16,none,.load true 1 (.t 5)⟩,⟨some 17,none,.faddr 0 (.t 2)⟩,⟨some 18,none,.load false 1 (.t 17)⟩,⟨some 19,none,.mv (.t 6)⟩,⟨some 20,none,.iaddr 3 (.t 18) (.t 19)⟩,⟨some 21,none,.faddr 0 (.t 20)⟩,⟨some 22,none,.load false 1 (.t 21)⟩,⟨some 23,none,.load true 1 (.t 3)⟩,⟨some 24,none,.faddr 0 (.t 2)⟩,⟨some 25,none,.load false 1 (.t 24)⟩,⟨some 26,none,.mv (.t 6)⟩,⟨some 27,none,.iaddr 3 (.t 25) (.t 26)⟩,⟨some 28,none,.faddr 1 (.t 27)⟩,⟨some 29,none,.load true 2 (.t 28)⟩,⟨some 30,none,.call 111 [(.t 23),(.t 29)]⟩,⟨some 31,none,.call 116 [(.t 16),(.t 22),(.t 30)]⟩,⟨none,none,(.store 1 (.t 5) (.t 31))⟩])) (.reg [⟨some 14,none,.mv (.t 6)⟩,⟨some 15,none,.bin .add false (.t 14) (.c (.int .i64 1))⟩,⟨some 6,none,.mv (.t 15)⟩])))))) (.seq (.seq (.reg [⟨some 7,none,.mv (.c (.int .i64 0))⟩]) (.block 2 (.loop [0,0,1,1,1,1,0,1,0,0,0,0,0,0,0,0,0,0,0,0,0,0,0,0,0,0,0,0,0,0,0,0,0,0,0,0,0,0,0,0,0,0,0,0,0,0,0,0,0,0,0,0,0,0,0,0,0,0,0,0,0,0,0] (.seq (.seq (.reg [⟨some 32,none,.mv (.t 7)⟩,⟨some 33,none,.faddr 0 (.t 3)⟩,⟨some 34,none,.load false 1 (.t 33)⟩,⟨some 35,none,.len false (.t 34)⟩,⟨some 36,none,.bin .lss false (.t 32) (.t 35)⟩]) (.cond (.t 36) .skip (.exit 2))) (.seq (.block 3 (.seq (.dreg [[],[],[1],[],[2,1,3],[4,2,1,3],[5,4,2,1,3],[0,6,5,4,2,1,3],[7,0,6,5,4,2,1,3]] [⟨some 39,none,.load true 1 (.t 2)⟩,⟨some 40,none,.faddr 0 (.t 3)⟩,⟨some 41,none,.load false 1 (.t 40)⟩,⟨some 42,none,.mv (.t 7)⟩,⟨some 43,none,.iaddr 3 (.t 41) (.t 42)⟩,⟨some 44,none,.faddr 0 (.t 43)⟩,⟨some 45,none,.load false 1 (.t 44)⟩,⟨some 46,none,.call 147 [(.t 39),(.t 45)]⟩,⟨some 47,none,.bin .lss false (.t 46) (.c (.int .i64 0))⟩]) (.cond (.t 47) (.dreg [[],[],[1],[],[2,1,3],[4,2,1,3],[5,4,2,1,3],[],[7],[],[8,7,9],[10,8,7,9],[11,10,8,7,9],[0,6,5,4,2,1,3,12,11,10,8,7,9],[13,0,6,5,4,2,1,3,12,11,10,8,7,9]] [⟨some 48,none,.load true 1 (.t 5)⟩,⟨some 49,none,.faddr 0 (.t 3)⟩,⟨some 50,none,.load false 1 (.t 49)⟩,⟨some 51,none,.mv (.t 7)⟩,⟨some 52,none,.iaddr 3 (.t 50) (.t 51)⟩,⟨some 53,none,.faddr 0 (.t 52)⟩,⟨some 54,none,.load false 1 (.t 53)⟩,⟨some 55,none,.faddr 0 (.t 3)⟩,⟨some 56,none,.load false 1 (.t 55)⟩,⟨some 57,none,.mv (.t 7)⟩,⟨some 58,none,.iaddr 3 (.t 56) (.t 57)⟩,⟨some 59,none,.faddr 1 (.t 58)⟩,⟨some 60,none,.load true 2 (.t 59)⟩,⟨some 61,none,.call 116 [(.t 48),(.t 54),(.t 60)]⟩,⟨none,none,(.store 1 (.t 5) (.t 61))⟩]) .skip))) (.reg [⟨some 37,none,.mv (.t 7)⟩,⟨some 38,none,.bin .add false (.t 37) (.c (.int .i64 1))⟩,⟨some 7,none,.mv (.t 38)⟩])))))) (.seq (.reg [⟨some 62,none,.load true 1 (.t 5)⟩,⟨none,none,(.store 1 (.t 4) (.t 62))⟩]) .ret)))))
theorem Pc:codeOf Tryz.prog 150=some ⟨63,Jg,[(.cell 4 true 1)]⟩:=by kernel_rfl
theorem FT:modes 150=⟨[],.frz,none,false⟩:=by unfold modes; rfl
def Bu:SC:=(.seq (.reg [⟨some 2,none,.boxv 76 1 (.t 0)⟩,⟨some 3,none,.boxv 76 1 (.t 1)⟩,⟨some 4,none,.alloc 76 [.nil]⟩,⟨some 5,none,.mv (.c (.bool false))⟩]) (.seq (.seq (.reg [⟨some 7,none,.load true 1 (.t 2)⟩,⟨some 8,none,.call 109 [(.t 7)]⟩,⟨some 9,none,.un .not (.t 8)⟩,⟨some 10,none,.mv (.t 9)⟩,⟨(some 11),(some (10,false)),(.load true 1 (.t 3))⟩,⟨(some 12),(some (10,false)),(.call 109 [(.t 11)])⟩,⟨(some 13),(some (10,false)),(.un .not (.t 12))⟩,⟨some 14,none,.pick (.t 10) (.c (.bool true)) (.t 13)⟩]) (.cond (.t 14) (.seq (.reg [⟨some 15,none,.build [.nil] []⟩,⟨none,none,(.store 1 (.t 4) (.t 15))⟩,⟨some 5,none,.mv (.c (.bool false))⟩]) .ret) .skip)) (.seq (.reg [⟨some 16,none,.load true 1 (.t 2)⟩,⟨some 17,none,.load true 1 (.t 3)⟩,⟨some 18,none,.call 150 [(.t 16),(.t 17)]⟩,⟨some 6,none,.alloc 76 [.nil]⟩,⟨none,none,(.store 1 (.t 6) (.t 18))⟩]) (.seq (.seq (.reg [⟨some 19,none,.load true 1 (.t 6)⟩,⟨some 20,none,.call 109 [(.t 19)]⟩,⟨some 21,none,.un .not (.t 20)⟩]) (.cond (.t 21) (.seq (.reg [⟨some 22,none,.build [.nil] []⟩,⟨none,none,(.store 1 (.t 4) (.t 22))⟩,⟨some 5,none,.mv (.c (.bool false))⟩]) .ret) .skip)) (.seq (.reg [⟨some 23,none,.load true 1 (.t 6)⟩,⟨none,none,(.store 1 (.t 4) (.t 23))⟩,⟨some 5,none,.mv (.c (.bool true))⟩]) .ret)))))
theorem BO:codeOf Tryz.prog 115=some ⟨24,Bu,[(.cell 4 true 1),(.tmp 5)]⟩:=by kernel_rfl
theorem Bv:modes 115=⟨[],.frz,none,false⟩:=by unfold modes; rfl
noncomputable def Sb.put (x:Sb) (b:Bd):Sb:=bif dec (b.term.name=b.var) then x else ⟨Gv x.binds b⟩
theorem Bd.ot_take (xs:List Bd) (k:Nat):((xs.map Bd.d).take k).map (fun x=>x.map D.ot)=(xs.take k).map fun b=>b.d.map D.ot:=by
 rw [←List.map_take,zV]; rfl
theorem Bd.ot_drop (xs:List Bd) (k:Nat):((xs.map Bd.d).drop k).map (fun x=>x.map D.ot)=(xs.drop k).map fun b=>b.d.map D.ot:=by
 rw [←List.map_drop,zV]; rfl
theorem Bd.al3 (xs:List Bd):((xs.map fun b=>b.d.map D.ot).all fun l=>l.length == 3)=true:=by
 rw [zX,zL]
 intro x _
 show ((x.d.map D.ot).length == 3)=true
 rw [Bd.d_eq]; rfl
theorem Bd.ald3 (xs:List Bd):((xs.map Bd.d).all fun l=>l.length == 3)=true:=by
 rw [zX,zL]
 intro x _
 show (x.d.length == 3)=true
 rw [Bd.d_eq]; rfl
theorem Bd.dfu:∀ xs:List Bd,OT.AO (xs.map fun b=>b.d.map D.ot)=true
 | []=>rfl
 | x :: xs=>by rw [zF,Bd.d_eq]; simp [OT.AO,OT.D0,OT.full,D.ot,Bd.dfu xs]
theorem Bd.der:∀ xs:List Bd,OT.erss (xs.map fun b=>b.d.map D.ot)=xs.map Bd.d
 | []=>rfl
 | x :: xs=>by rw [zF,zF,Bd.d_eq]; simp [OT.erss,OT.ers,OT.er,D.ot,Bd.der xs]
theorem Qbu {xs:List Bd} {n:ByteArray} {k:Nat} (h:k+Bp (xs.drop k) n=Bp xs n) (hk:k<xs.length):(strLt xs[k].var n=true∧k+1+Bp (xs.drop (k+1)) n=Bp xs n)∨(strLt xs[k].var n=false∧k=Bp xs n):=by
 rw [zC hk,Bp] at h
 cases hq:strLt xs[k].var n with
 | true=>rw [hq] at h; simp only [cond_true,if_true] at h; exact .inl ⟨rfl,by omega⟩
 | false=>rw [hq] at h; simp only [cond_false,Bool.false_eq_true,if_false] at h; exact .inr ⟨rfl,by omega⟩
theorem Vo (x:Sb) (n:ByteArray) (t:Tm) (hl:x.binds.length≤1048576) (ht:t.nodes≤1099511627776):E 116 [x.sv,.str n,t.sv] []=some ((x.put ⟨n,t⟩).sv,[]):=by
 have ho:=Qj t ht
 have e1:=Bd.ot_take x.binds (Bp x.binds n)
 have e2:=Bd.ot_drop x.binds (Bp x.binds n)
 have e3:=Bd.al3 (x.binds.take (Bp x.binds n))
 have e4:=Bd.al3 (x.binds.drop (Bp x.binds n))
 have e5:=Bd.ald3 x.binds
 have l1:=UZ n x.binds
 have e6:(x.binds.map Bd.d).take x.binds.length=x.binds.map Bd.d:=List.take_of_length_le (by simp)
 have e7:(x.binds.take (Bp x.binds n)).length=Bp x.binds n:=by rw [List.length_take]; omega
 have e8:(x.binds.drop (Bp x.binds n)).length=x.binds.length-Bp x.binds n:=List.length_drop
 have hin:=Xj ⟨n,t⟩ x.binds
 have hx2:(x.binds.take (Bp x.binds n)).map (fun b=>b.d.map D.ot)++[[OT.str n,.str t.name,.sh (t.args.map Tm.d)]]++(x.binds.drop (Bp x.binds n)).map (fun b=>b.d.map D.ot)=(Gv x.binds ⟨n,t⟩).map fun b=>b.d.map D.ot:=by
  rw [hin]
  simp only [yH,zF,zW,zQ,yI]
  rw [Bd.d_eq]; rfl
 have hfu:=Bd.dfu (Gv x.binds ⟨n,t⟩)
 have her:=Bd.der (Gv x.binds ⟨n,t⟩)
 have hsv:(Sb.mk (Gv x.binds ⟨n,t⟩)).sv=.agg [.arr ((Gv x.binds ⟨n,t⟩).map Bd.d)]:=rfl
 unfold Sb.put
 cases hq:dec (t.name=n) with
 | true =>
  simp only [hq,cond_true]
  refine Ae NU CG (of_decide_eq_true rfl) ?_
  simp (disch:=omega) only [JD,go_sem,Aa,hq]
  try rfl
 | false =>
  simp only [hq,cond_false]
  rw [hsv]
  refine Ae NU CG (of_decide_eq_true rfl) ?_
  simp (disch:=omega) only [JD,go_sem,Aa,hq]
  refine go_loop (α:=Int) (fun a=>⟨slots 51 0 [(1,.str n),(3,.ptr 0 0),(5,.ptr 1 0),(6,.ptr 2 0),(7,.int .i64 a)],[.box 76 [.arr (x.binds.map Bd.d)],.box 71 [.str t.name,.arr (t.args.map Tm.d)],.box 76 [.nil]]⟩) (fun a=>∃ k:Nat,a=k∧k≤(x.binds).length∧k+Bp (x.binds.drop k) n=Bp x.binds n) (fun a=>(x.binds).length-(a).toNat) 0 ⟨0,rfl,zP _,by rw [zK,Nat.zero_add]⟩ (by simp (disch:=omega) only [go_sem,Aa]) ?_
  rintro i ⟨k,hi,hk,hR⟩
  have hni:i.toNat=k:=by omega
  have hni1:(i+1).toNat=k+1:=by omega
  rcases zM k (x.binds).length with hlt | hge
  ·have hg:=get_at Bd.d hlt
   rw [Bd.d_eq] at hg
   rcases Qbu hR hlt with ⟨q,hR'⟩ | ⟨q,hk'⟩
   ·simp (disch:=omega) only [go_sem,Aa,hni,hg,q]
    exact ⟨i+1,⟨k+1,by omega,hlt,hR'⟩,by omega,by first | trivial | rfl⟩
   ·subst hk'
    simp (disch:=omega) only [go_sem,Aa,hni,hg,q,ho,e1,e2,e3,e4,e5,e6,e7,e8,hx2,hfu,her,zD,yA,Db]
  ·obtain rfl:k=x.binds.length:=by omega
   have hk':x.binds.length=Bp x.binds n:=by rw [←hR,zE (zU _)]; simp [Bp]
   rw [hk'] at hni
   simp (disch:=omega) only [go_sem,Aa,hni,ho,e1,e2,e3,e4,e5,e6,e7,e8,hx2,hfu,her,zD,yA,Db]
theorem QcM (b:Bd) (xs:List Bd):(Gv xs b).length=xs.length+1:=by rw [(LH b xs).length_eq]; rfl
theorem Qeg (u:Sb) (acc:List Bd) (b:Bd):(Sb.mk acc).put ⟨b.var,b.term.ap u.look⟩=⟨I7 acc (match CR u b with | some c=>[c] | none=>[])⟩:=by
 unfold Sb.put CR
 cases dec ((b.term.ap u.look).name=b.var) with
 | true=>rfl
 | false=>rfl
theorem Qeh {acc:List Bd} {b:Bd} (h:HH b=true):(Sb.mk acc).put b=⟨Gv acc b⟩:=by
 unfold HH at h
 rw [zA,zA,yD] at h
 unfold Sb.put
 rw [h.2.2]; rfl
theorem Xv (s u:Sb) (hs:s.ok=true) (hu:u.ok=true) (hts:s.tame) (htu:u.tame):E 150 [s.sv,u.sv] []=some ((Cv s u).sv,[]):=by
 have hsl:=ok_len hs
 have hul:=ok_len hu
 have hend:I7 [] (C0 s u)=(Cv s u).binds:=Qbs (NK (Sb.JQ hs) (Sb.JQ hu))
 have h00:((0:Int)=0)=True:=eq_self _
 have hsv:(Cv s u).sv=.agg [.arr ((Cv s u).binds.map Bd.d)]:=rfl
 rw [hsv]
 refine Ae Pc FT (of_decide_eq_true rfl) ?_
 simp (disch:=omega) only [Jg,go_sem,Aa]
 refine go_loop (α:=Int × List Bd) (fun a=>⟨slots 63 0 [(2,.ptr 0 0),(3,.ptr 1 0),(4,.ptr 2 0),(5,.ptr 3 0),(6,.int .i64 a.1)],[.box 76 [.arr (s.binds.map Bd.d)],.box 76 [.arr (u.binds.map Bd.d)],.box 76 [.nil],.box 76 [if a.1=0 then .nil else .arr (a.2.map Bd.d)]]⟩) (fun a=>∃ k:Nat,a.1=k∧k≤s.binds.length∧I7 a.2 ((s.binds.drop k).filterMap (CR u))=I7 [] (H4 s u)∧a.2.length≤k∧(k=0→a.2=[])) (fun a=>s.binds.length-a.1.toNat) (0,[]) ⟨0,rfl,zP _,by rw [zK]; rfl,zU _,fun _=>rfl⟩ (by simp (disch:=omega) only [go_sem,Aa,h00,if_true]) ?_
 rintro ⟨i,acc⟩ ⟨k,hi,hk,hR,hal,hz⟩
 dsimp only at hi hR hal hz
 have hni:i.toNat=k:=by omega
 have hni1:(i+1).toNat=k+1:=by omega
 have hi1:(i+1=0)=False:=eq_false (by omega)
 rcases zM k s.binds.length with hlt | hge
 ·have hg:=get_at Bd.d hlt
  rw [Bd.d_eq] at hg
  have hval:=D8 (Sb.JR hs hlt)
  have hc:=OO u hu htu s.binds[k].term (by have:=Et hval; omega)
  have hn9:=Sb.Sn hu hval
  have hp:=Vo ⟨acc⟩ s.binds[k].var (s.binds[k].term.ap u.look) (by show acc.length≤_; omega) (by omega)
  rw [Qeg] at hp
  obtain ⟨acc2,ha2⟩:∃ acc2,acc2=I7 acc (match CR u s.binds[k] with | some c=>[c] | none=>[]):=⟨_,rfl⟩
  rw [←ha2] at hp
  have hp:E 116 [.agg [.arr (acc.map Bd.d)],.str s.binds[k].var,(s.binds[k].term.ap u.look).sv] []=some (.agg [.arr (acc2.map Bd.d)],[]):=hp
  have hl2:acc2.length≤k+1:=by
   rw [ha2,(OY _ acc).length_eq,zD]
   cases CR u s.binds[k] with
   | none=>simp only [zT]; omega
   | some c=>simp only [zB,zT]; omega
  have hR2:I7 acc2 ((s.binds.drop (k+1)).filterMap (CR u))=I7 [] (H4 s u):=by
   rw [←hR,zC hlt,z7,ha2]
   cases CR u s.binds[k] with
   | none=>rfl
   | some c=>rfl
  rcases yB k with h0 | h0
  ·have hi0:(i=0)=True:=eq_true (by omega)
   obtain rfl:=hz h0
   rw [zI] at hp
   simp (disch:=omega) only [go_sem,Aa,hni,hg,hc,hp,hi0,if_true,AI,CG,BQ]
   exact ⟨(i+1,acc2),⟨k+1,by dsimp only; omega,hlt,hR2,by dsimp only; omega,by intro h; omega⟩,by dsimp only; omega,by simp only [hi1,if_false,and_self]⟩
  ·have hi0:(i=0)=False:=eq_false (by omega)
   simp (disch:=omega) only [go_sem,Aa,hni,hg,hc,hp,hi0,if_false,AI,CG,BQ]
   exact ⟨(i+1,acc2),⟨k+1,by dsimp only; omega,hlt,hR2,by dsimp only; omega,by intro h; omega⟩,by dsimp only; omega,by simp only [hi1,if_false,and_self]⟩
 rw [zE hge,List.filterMap_nil] at hR
 have hR:acc=I7 [] (H4 s u):=hR
 have hor:∃ fl:Bool,(if i=0 then SV.nil else SV.arr (acc.map Bd.d))=(bif fl then SV.arr (acc.map Bd.d) else SV.nil)∧(fl=false→acc=[]):=by
  rcases yB k with h0 | h0
  ·exact ⟨false,by rw [if_pos (by omega)]; rfl,fun _=>hz h0⟩
  ·exact ⟨true,by rw [if_neg (by omega)]; rfl,fun h=>by cases h⟩
 obtain ⟨fl,hfl,hfz⟩:=hor
 rw [hfl]
 simp (disch:=omega) only [go_sem,Aa,hni]
 refine go_loop (α:=Int × Bool × List Bd) (fun a=>⟨slots 63 0 [(2,.ptr 0 0),(3,.ptr 1 0),(4,.ptr 2 0),(5,.ptr 3 0),(7,.int .i64 a.1)],[.box 76 [.arr (s.binds.map Bd.d)],.box 76 [.arr (u.binds.map Bd.d)],.box 76 [.nil],.box 76 [bif a.2.1 then .arr (a.2.2.map Bd.d) else .nil]]⟩) (fun a=>∃ k:Nat,a.1=k∧k≤u.binds.length∧I7 a.2.2 ((u.binds.drop k).filter (fun b=>!DW s.binds b.var))=I7 [] (C0 s u)∧a.2.2.length≤12+k∧(a.2.1=false→a.2.2=[])) (fun a=>u.binds.length-a.1.toNat) (0,fl,acc) ⟨0,rfl,zP _,by rw [zK,hR,← QcK]; rfl,by dsimp only; omega,hfz⟩ (by cases fl <;> (simp (disch:=omega) only [go_sem,Aa])) ?_
 clear hR hfl hfz hal hz
 rintro ⟨i,fl,acc⟩ ⟨k,hi,hk,hR,hal,hfz⟩
 dsimp only at hi hR hal hfz
 have hni:i.toNat=k:=by omega
 have hni1:(i+1).toNat=k+1:=by omega
 rcases zM k u.binds.length with hlt | hge
 ·have hg:=get_at Bd.d hlt
  rw [Bd.d_eq] at hg
  have hbok:=Sb.JR hu hlt
  have hval:=D8 hbok
  have hf:=WQ s u.binds[k].var (by omega)
  rw [RG (Sb.JQ hs)] at hf
  rw [zC hlt,List.filter_cons] at hR
  cases hh:DW s.binds u.binds[k].var with
  | true =>
   rw [hh,if_pos rfl] at hf
   rw [hh,if_neg (by simp)] at hR
   cases fl with
   | false =>
    simp (disch:=omega) only [go_sem,Aa,hni,hg,hf,AI,CG,BQ]
    exact ⟨(i+1,false,acc),⟨k+1,by dsimp only; omega,hlt,hR,by dsimp only; omega,hfz⟩,by dsimp only; omega,by first | trivial | rfl⟩
   | true =>
    simp (disch:=omega) only [go_sem,Aa,hni,hg,hf,AI,CG,BQ]
    exact ⟨(i+1,true,acc),⟨k+1,by dsimp only; omega,hlt,hR,by dsimp only; omega,hfz⟩,by dsimp only; omega,by first | trivial | rfl⟩
  | false =>
   rw [hh,if_neg (by simp)] at hf
   rw [hh,if_pos (by simp)] at hR
   have hp:=Vo ⟨acc⟩ u.binds[k].var u.binds[k].term (by show acc.length≤_; omega) (by have:=Et hval; omega)
   have hpt:(Sb.mk acc).put ⟨u.binds[k].var,u.binds[k].term⟩=⟨Gv acc u.binds[k]⟩:=Qeh hbok
   rw [hpt] at hp
   have hp:E 116 [.agg [.arr (acc.map Bd.d)],.str u.binds[k].var,u.binds[k].term.sv] []=some (.agg [.arr ((Gv acc u.binds[k]).map Bd.d)],[]):=hp
   have hl2:(Gv acc u.binds[k]).length≤12+(k+1):=by rw [QcM]; omega
   cases fl with
   | false =>
    obtain rfl:=hfz rfl
    rw [zI] at hp
    simp (disch:=omega) only [go_sem,Aa,hni,hg,hf,hp,AI,CG,BQ]
    exact ⟨(i+1,true,Gv [] u.binds[k]),⟨k+1,by dsimp only; omega,hlt,hR,hl2,by intro h; cases h⟩,by dsimp only; omega,by first | trivial | rfl⟩
   | true =>
    simp (disch:=omega) only [go_sem,Aa,hni,hg,hf,hp,AI,CG,BQ]
    exact ⟨(i+1,true,Gv acc u.binds[k]),⟨k+1,by dsimp only; omega,hlt,hR,hl2,by intro h; cases h⟩,by dsimp only; omega,by first | trivial | rfl⟩
 ·rw [zE hge,List.filter_nil] at hR
  have hR:acc=I7 [] (C0 s u):=hR
  rw [←hend,← hR]
  cases fl with
  | false =>
   obtain rfl:=hfz rfl
   simp (disch:=omega) only [go_sem,Aa,hni,zI]
  | true =>
   simp (disch:=omega) only [go_sem,Aa,hni,zI]
noncomputable def Tc (s u:Sb):Bool:=s.ok&&(u.ok&&C1 s u)
noncomputable def Xw (s u:Sb):Sb:=bif Tc s u then Cv s u else ⟨[]⟩
theorem Td (s u:Sb) (hts:s.tame) (htu:u.tame):E 115 [s.sv,u.sv] []=some (.tup [(Xw s u).sv,.bool (Tc s u)],[]):=by
 have h1:=NA s hts
 have h2:=NA u htu
 have z1:(Sb.mk []).osv=.agg [.ref 0]:=rfl
 have z2:(Sb.mk []).obs=[.row 139 3 []]:=rfl
 have z3:(Sb.mk []).sv=.agg [.arr []]:=rfl
 cases hs:s.ok with
 | false =>
  have e:Tc s u=false:=by unfold Tc; rw [hs]; rfl
  rw [hs] at h1
  unfold Xw
  rw [e]
  simp only [cond_false,z1,z2,z3]
  refine Ae BO Bv (of_decide_eq_true rfl) ?_
  simp (disch:=omega) only [Bu,go_sem,Aa,h1,h2,Ct]
 | true =>
  rw [hs] at h1
  cases hu:u.ok with
  | false =>
   have e:Tc s u=false:=by unfold Tc; rw [hu,yC,yJ]
   rw [hu] at h2
   unfold Xw
   rw [e]
   simp only [cond_false,z1,z2,z3]
   refine Ae BO Bv (of_decide_eq_true rfl) ?_
   simp (disch:=omega) only [Bu,go_sem,Aa,h1,h2,Ct]
  | true =>
   rw [hu] at h2
   have e:Tc s u=C1 s u:=by unfold Tc; rw [hs,hu]; rfl
   have h3:=Xv s u hs hu hts htu
   unfold Xw
   rw [e]
   have h4:=NA (Cv s u) (Uj hs hu)
   have z6:(Cv s u).sv=.agg [.arr ((Cv s u).binds.map Bd.d)]:=rfl
   have e2:C1 s u=(Cv s u).ok:=rfl
   rw [←e2] at h4
   rw [z6] at h3 h4
   cases hq:C1 s u with
   | false =>
    rw [hq] at h4
    simp only [cond_false,z3]
    refine Ae BO Bv (of_decide_eq_true rfl) ?_
    simp (disch:=omega) only [Bu,go_sem,Aa,h1,h2,h3,h4,Ct,FT]
   | true =>
    rw [hq] at h4
    simp only [cond_true,z6]
    refine Ae BO Bv (of_decide_eq_true rfl) ?_
    simp (disch:=omega) only [Bu,go_sem,Aa,h1,h2,h3,h4,Ct,FT]
noncomputable def HJ:List ByteArray→ByteArray→List ByteArray
 | [],n=>[n]
 | x :: xs,n=>bif strLt x n then x :: HJ xs n else bif dec (x=n) then x :: xs else n :: x :: xs
noncomputable def Dz:List ByteArray→ByteArray→Nat
 | [],_=>0
 | x :: xs,n=>bif strLt x n then Dz xs n+1 else 0
theorem Xx:∀ {xs:List ByteArray} {n m:ByteArray},m∈HJ xs n ↔ m∈xs∨m=n
 | [],n,m=>by simp [HJ]
 | x :: xs,n,m=>by
  rw [HJ]
  cases strLt x n with
  | true=>rw [cond_true,zO,Xx,zO,or_assoc]
  | false =>
   rw [cond_false]
   by_cases h:x=n
   ·rw [As h,cond_true]
    exact ⟨.inl,fun h'=>h'.elim id fun e=>by subst e; subst h; simp⟩
   ·rw [Ay h,cond_false,zO]
    exact or_comm
theorem Xy:∀ (xs:List ByteArray) (n:ByteArray),(HJ xs n).length≤xs.length+1
 | [],n=>by simp [HJ]
 | x :: xs,n=>by
  have h:=Xy xs n
  rw [HJ]
  cases strLt x n with
  | true=>simp only [cond_true,zB]; omega
  | false =>
   rw [cond_false]
   cases dec (x=n) with
   | true=>simp only [cond_true,zB]; omega
   | false=>simp only [cond_false,zB]; omega
theorem Qay:∀ (xs:List ByteArray) (n:ByteArray),Dz xs n≤xs.length
 | [],n=>by simp [Dz]
 | x :: xs,n=>by
  have h:=Qay xs n
  rw [Dz]
  cases strLt x n with
  | true=>simp only [cond_true,zB]; omega
  | false=>simp only [cond_false,zB]; omega
theorem So:∀ {xs:List ByteArray} {n:ByteArray} (h:Dz xs n<xs.length),xs[Dz xs n]=n→HJ xs n=xs
 | [],n,h,_=>by simp at h
 | x :: xs,n,h,e=>by
  rw [HJ]
  cases hq:strLt x n with
  | true =>
   simp only [Dz,hq,cond_true,zB,List.getElem_cons_succ] at h e
   rw [cond_true,So (by omega) e]
  | false =>
   simp only [Dz,hq,cond_false,List.getElem_cons_zero] at e
   rw [cond_false,As e]; rfl
theorem Sp:∀ {xs:List ByteArray} {n:ByteArray},(∀ h:Dz xs n<xs.length,¬ xs[Dz xs n]=n)→HJ xs n=xs.take (Dz xs n)++n :: xs.drop (Dz xs n)
 | [],n,_=>by simp [HJ,Dz]
 | x :: xs,n,h=>by
  rw [HJ]
  cases hq:strLt x n with
  | true =>
   simp only [Dz,hq,cond_true,zB,List.getElem_cons_succ] at h ⊢
   rw [Sp fun h'=>h (by omega)]
   simp
  | false =>
   simp only [Dz,hq,cond_false,List.getElem_cons_zero] at h ⊢
   rw [Ay (h (by simp))]
   simp
theorem Qbv {xs:List ByteArray} {n:ByteArray} {k:Nat} (h:k+Dz (xs.drop k) n=Dz xs n) (hk:k<xs.length):(strLt xs[k] n=true∧k+1+Dz (xs.drop (k+1)) n=Dz xs n)∨(strLt xs[k] n=false∧k=Dz xs n):=by
 rw [zC hk,Dz] at h
 cases hq:strLt xs[k] n with
 | true=>rw [hq,cond_true] at h; exact .inl ⟨rfl,by omega⟩
 | false=>rw [hq,cond_false] at h; exact .inr ⟨rfl,by omega⟩
theorem ot_take (xs:List ByteArray) (k:Nat):((xs.map fun s=>[D.str s]).take k).map (fun x=>x.map D.ot)=(xs.take k).map fun s=>[OT.str s]:=by
 rw [←List.map_take,zV]; rfl
theorem ot_drop (xs:List ByteArray) (k:Nat):((xs.map fun s=>[D.str s]).drop k).map (fun x=>x.map D.ot)=(xs.drop k).map fun s=>[OT.str s]:=by
 rw [←List.map_drop,zV]; rfl
theorem Qaz (xs:List ByteArray):((xs.map fun s=>[OT.str s]).all fun l=>l.length == 1)=true:=by
 rw [zX,zL]
 intro x _; rfl
theorem QcN (xs:List ByteArray):((xs.map fun s=>[D.str s]).all fun l=>l.length == 1)=true:=by
 rw [zX,zL]
 intro x _; rfl
def NV:SC:=(.seq (.reg [⟨some 4,none,.mv (.c .nil)⟩]) (.seq (.reg [⟨some 5,none,.mv (.c (.int .i64 0))⟩]) (.seq (.block 0 (.loop [1,1,0,0,0,1,0,0,0,0,0,0,0,0,0,0,0,0,0,0,0,0,0,0,0,0,0,0,0,0,0,0,0,0,0,0,0,0,0,0,0,0,0,0,0] (.seq (.seq (.reg [⟨some 6,none,.mv (.t 5)⟩,⟨some 7,none,.mv (.t 0)⟩,⟨some 8,none,.len false (.t 7)⟩,⟨some 9,none,.bin .lss false (.t 6) (.t 8)⟩,⟨some 10,none,.mv (.t 9)⟩,⟨(some 11),(some (10,true)),(.mv (.t 0))⟩,⟨(some 12),(some (10,true)),(.mv (.t 5))⟩,⟨(some 13),(some (10,true)),(.iaddr 1 (.t 11) (.t 12))⟩,⟨(some 14),(some (10,true)),(.load false 1 (.t 13))⟩,⟨(some 15),(some (10,true)),(.mv (.t 1))⟩,⟨(some 16),(some (10,true)),(.bin .lss false (.t 14) (.t 15))⟩,⟨some 17,none,.pick (.t 10) (.t 16) (.c (.bool false))⟩]) (.cond (.t 17) .skip (.exit 0))) (.block 1 (.reg [⟨some 18,none,.mv (.t 5)⟩,⟨some 19,none,.bin .add false (.t 18) (.c (.int .i64 1))⟩,⟨some 5,none,.mv (.t 19)⟩]))))) (.seq (.seq (.reg [⟨some 20,none,.mv (.t 5)⟩,⟨some 21,none,.mv (.t 0)⟩,⟨some 22,none,.len false (.t 21)⟩,⟨some 23,none,.bin .lss false (.t 20) (.t 22)⟩,⟨some 24,none,.mv (.t 23)⟩,⟨(some 25),(some (24,true)),(.mv (.t 0))⟩,⟨(some 26),(some (24,true)),(.mv (.t 5))⟩,⟨(some 27),(some (24,true)),(.iaddr 1 (.t 25) (.t 26))⟩,⟨(some 28),(some (24,true)),(.load false 1 (.t 27))⟩,⟨(some 29),(some (24,true)),(.mv (.t 1))⟩,⟨(some 30),(some (24,true)),(.bin .eql false (.t 28) (.t 29))⟩,⟨some 31,none,.pick (.t 24) (.t 30) (.c (.bool false))⟩]) (.cond (.t 31) (.seq (.reg [⟨some 32,none,.mv (.t 0)⟩,⟨some 4,none,.mv (.t 32)⟩]) .ret) .skip)) (.seq (.dreg [[],[],[],[1,2],[0,3,1,2],[],[5],[4,0,3,1,2,6,5],[],[],[8,9],[7,4,0,3,1,2,6,5,10,8,9],[11,7,4,0,3,1,2,6,5,10,8,9]] [⟨(some 33),none,(.mkrow 9 1 [(.str ⟨#[]⟩)] 0 [])⟩,⟨some 34,none,.mv (.t 0)⟩,⟨some 35,none,.mv (.t 5)⟩,⟨some 36,none,.slice false 1 (.t 34) none (some (.t 35))⟩,⟨(some 37),none,(.append 9 1 16 [(.str ⟨#[]⟩)] (.t 33) (.t 36))⟩,⟨some 38,none,.mv (.t 1)⟩,⟨(some 39),none,(.mkrow 9 1 [(.str ⟨#[]⟩)] 1 [(0,(.t 38))])⟩,⟨(some 40),none,(.append 9 1 16 [(.str ⟨#[]⟩)] (.t 37) (.t 39))⟩,⟨some 41,none,.mv (.t 0)⟩,⟨some 42,none,.mv (.t 5)⟩,⟨some 43,none,.slice false 1 (.t 41) (some (.t 42)) none⟩,⟨(some 44),none,(.append 9 1 16 [(.str ⟨#[]⟩)] (.t 40) (.t 43))⟩,⟨some 4,none,.mv (.t 44)⟩]) .ret)))))
theorem Vp:codeOf Tryz.prog 173=some ⟨45,NV,[(.tmp 4)]⟩:=by kernel_rfl
theorem NW:modes 173=⟨[],.frz,none,false⟩:=by unfold modes; rfl
theorem Qei (xs:List ByteArray) (n:ByteArray) (hl:xs.length≤1048576):E 173 [.arr (xs.map fun s=>[D.str s]),.str n] []=some (.arr ((HJ xs n).map fun s=>[D.str s]),[]):=by
 have e1:=ot_take xs (Dz xs n)
 have e2:=ot_drop xs (Dz xs n)
 have e3:=Qaz (xs.take (Dz xs n))
 have e4:=Qaz (xs.drop (Dz xs n))
 have e5:=QcN xs
 have l1:=Qay xs n
 have e6:(xs.map fun s=>[D.str s]).take xs.length=xs.map fun s=>[D.str s]:=List.take_of_length_le (by simp)
 have e7:(xs.take (Dz xs n)).length=Dz xs n:=by rw [List.length_take]; omega
 have e8:(xs.drop (Dz xs n)).length=xs.length-Dz xs n:=List.length_drop
 have hf:∀ ys:List ByteArray,ys=HJ xs n→(ys.map fun s=>[OT.str s])=(HJ xs n).map fun s=>[OT.str s]:=fun ys h=>by rw [h]
 refine Ae Vp NW (of_decide_eq_true rfl) ?_
 simp (disch:=omega) only [NV,go_sem,Aa]
 refine go_loop (α:=Int) (fun a=>⟨slots 45 0 [(0,.arr (xs.map fun s=>[D.str s])),(1,.str n),(5,.int .i64 a)],[]⟩) (fun a=>∃ k:Nat,a=k∧k≤(xs).length∧k+Dz (xs.drop k) n=Dz xs n) (fun a=>(xs).length-(a).toNat) 0 ⟨0,rfl,zP _,by rw [zK,Nat.zero_add]⟩ (by simp (disch:=omega) only [go_sem,Aa]) ?_
 rintro i ⟨k,hi,hk,hR⟩
 have hni:i.toNat=k:=by omega
 have hni1:(i+1).toNat=k+1:=by omega
 rcases zM k (xs).length with hlt | hge
 ·have hg:=get_at (fun s=>[D.str s]) hlt
  rcases Qbv hR hlt with ⟨q,hR'⟩ | ⟨q,hk'⟩
  ·simp (disch:=omega) only [go_sem,Aa,hni,hg,q]
   exact ⟨i+1,⟨k+1,by omega,hlt,hR'⟩,by omega,by first | trivial | rfl⟩
  ·subst hk'
   by_cases h0:xs[Dz xs n]=n
   ·have hi0:=So hlt h0
    rw [hi0]
    simp (disch:=omega) only [go_sem,Aa,hni,hg,q,h0,e6,Ht,EH]
   ·have hi0:=Sp (fun _=>h0)
    have hx:(xs.take (Dz xs n)).map (fun s=>[OT.str s])++([[OT.str n]]++(xs.drop (Dz xs n)).map (fun s=>[OT.str s]))=(HJ xs n).map fun s=>[OT.str s]:=by rw [hi0]; simp
    have hx2:(xs.take (Dz xs n)).map (fun s=>[OT.str s])++[[OT.str n]]++(xs.drop (Dz xs n)).map (fun s=>[OT.str s])=(HJ xs n).map fun s=>[OT.str s]:=by rw [hi0]; simp
    simp (disch:=omega) only [go_sem,Aa,hni,hg,q,h0,e1,e2,e3,e4,e5,e6,e7,e8,hx2,zD,yA]
 ·obtain rfl:k=xs.length:=by omega
  have hk':xs.length=Dz xs n:=by rw [←hR,zE (zU _)]; simp [Dz]
  have hi0:=Sp (xs:=xs) (n:=n) (fun h=>by omega)
  have hx2:(xs.take (Dz xs n)).map (fun s=>[OT.str s])++[[OT.str n]]++(xs.drop (Dz xs n)).map (fun s=>[OT.str s])=(HJ xs n).map fun s=>[OT.str s]:=by rw [hi0]; simp
  rw [hk'] at hni
  simp (disch:=omega) only [go_sem,Aa,hni,e1,e2,e3,e4,e5,e6,e7,e8,hx2,zD,yA]
noncomputable def Ki (l ns:List ByteArray):List ByteArray:=ns.foldl HJ l
theorem Sq:∀ (ns l:List ByteArray),(Ki l ns).length≤l.length+ns.length
 | [],l=>by simp [Ki]
 | n :: ns,l=>by
  have h:=Sq ns (HJ l n)
  have h2:=Xy l n
  simp only [Ki,List.foldl_cons,zB] at h ⊢
  omega
theorem Xz:∀ {ns l:List ByteArray} {m:ByteArray},m∈Ki l ns ↔ m∈l∨m∈ns
 | [],l,m=>by simp [Ki]
 | n :: ns,l,m=>by
  have h:=Xz (ns:=ns) (l:=HJ l n) (m:=m)
  simp only [Ki,List.foldl_cons] at h ⊢
  rw [h,Xx]
  simp only [zO]
  exact or_assoc
theorem QcO (l a b:List ByteArray):Ki l (a++b)=Ki (Ki l a) b:=List.foldl_append
def IA:SC:=(.seq (.reg [⟨some 3,none,.boxv 71 2 (.t 1)⟩,⟨some 4,none,.mv (.c .nil)⟩]) (.seq (.seq (.reg [⟨some 6,none,.faddr 0 (.t 3)⟩,⟨some 7,none,.load false 1 (.t 6)⟩,⟨some 8,none,.call 77 [(.t 7)]⟩]) (.cond (.t 8) (.seq (.reg [⟨some 9,none,.mv (.t 0)⟩,⟨some 10,none,.faddr 0 (.t 3)⟩,⟨some 11,none,.load false 1 (.t 10)⟩,⟨some 12,none,.call 173 [(.t 9),(.t 11)]⟩,⟨some 4,none,.mv (.t 12)⟩]) .ret) .skip)) (.seq (.seq (.reg [⟨some 5,none,.mv (.c (.int .i64 0))⟩]) (.block 0 (.loop [1,0,0,1,0,1,0,0,0,0,0,0,0,0,0,0,0,0,0,0,0,0,0,0,0,0,0,0] (.seq (.seq (.reg [⟨some 13,none,.mv (.t 5)⟩,⟨some 14,none,.faddr 1 (.t 3)⟩,⟨some 15,none,.load false 1 (.t 14)⟩,⟨some 16,none,.len false (.t 15)⟩,⟨some 17,none,.bin .lss false (.t 13) (.t 16)⟩]) (.cond (.t 17) .skip (.exit 0))) (.seq (.block 1 (.reg [⟨some 20,none,.mv (.t 0)⟩,⟨some 21,none,.faddr 1 (.t 3)⟩,⟨some 22,none,.load false 1 (.t 21)⟩,⟨some 23,none,.mv (.t 5)⟩,⟨some 24,none,.iaddr 2 (.t 22) (.t 23)⟩,⟨some 25,none,.load true 2 (.t 24)⟩,⟨some 26,none,.call 149 [(.t 20),(.t 25)]⟩,⟨some 0,none,.mv (.t 26)⟩])) (.reg [⟨some 18,none,.mv (.t 5)⟩,⟨some 19,none,.bin .add false (.t 18) (.c (.int .i64 1))⟩,⟨some 5,none,.mv (.t 19)⟩])))))) (.seq (.reg [⟨some 27,none,.mv (.t 0)⟩,⟨some 4,none,.mv (.t 27)⟩]) .ret))))
theorem Mj:codeOf Tryz.prog 149=some ⟨28,IA,[(.tmp 4)]⟩:=by kernel_rfl
theorem Gd:modes 149=⟨[],.asis,none,false⟩:=by unfold modes; rfl
def Mk:SC:=(.seq (.reg [⟨some 1,none,.boxv 71 2 (.t 0)⟩,⟨some 2,none,.mv (.c .nil)⟩]) (.seq (.reg [⟨(some 3),none,(.mkrow 9 1 [(.str ⟨#[]⟩)] 0 [])⟩,⟨some 4,none,.load true 2 (.t 1)⟩,⟨some 5,none,.call 149 [(.t 3),(.t 4)]⟩,⟨some 2,none,.mv (.t 5)⟩]) .ret))
theorem Te:codeOf Tryz.prog 114=some ⟨6,Mk,[(.tmp 2)]⟩:=by kernel_rfl
theorem IB:modes 114=⟨[],.frz,none,false⟩:=by unfold modes; rfl
abbrev QcP (x:Tm):Prop:=∀ l:List ByteArray,l.length+x.nodes≤1048576→E 149 [.arr (l.map fun s=>[D.str s]),x.sv] []=some (.arr ((Ki l x.vs).map fun s=>[D.str s]),[])
theorem Qbw (x:Tm) (ih:∀ y∈x.args,QcP y):QcP x:=by
 intro l hn
 have hl:=Tm.length_le x.args
 have hne:=Tm.Ao x
 have hvs:=Tm.FE x
 have hp:=Qei l x.name (by omega)
 cases hvv:An x.name with
 | true =>
  rw [hvv] at hvs
  have e:Ki l x.vs=HJ l x.name:=by rw [hvs]; rfl
  rw [e]
  refine Ae Mj Gd (of_decide_eq_true rfl) ?_
  simp (disch:=omega) only [IA,go_sem,Aa,hvv,hp,Ah,Am,NW]
 | false =>
  rw [hvv] at hvs
  simp only [cond_false] at hvs
  rw [hvs]
  refine Ae Mj Gd (of_decide_eq_true rfl) ?_
  simp (disch:=omega) only [IA,go_sem,Aa,hvv,Ah,Am]
  refine go_loop (α:=Int × (List ByteArray)) (fun a=>⟨slots 28 0 [(0,.arr ((a.2).map fun s=>[D.str s])),(3,.ptr 0 0),(5,.int .i64 (a.1))],[.box 71 [.str x.name,.arr (x.args.map Tm.d)]]⟩) (fun a=>∃ k:Nat,a.1=k∧k≤(x.args).length∧Ki (a.2) (Tm.vsL (x.args.drop k))=Ki l (Tm.vsL x.args)∧(a.2).length+Tm.Bl (x.args.drop k)≤1048576) (fun a=>(x.args).length-(a.1).toNat) (0,l) ⟨0,rfl,zP _,by rw [zK],by rw [zK]; dsimp only; omega⟩ (by simp (disch:=omega) only [go_sem,Aa]) ?_
  rintro ⟨i,acc⟩ ⟨k,hi,hk,hR⟩
  dsimp only at hi hR
  have hni:i.toNat=k:=by omega
  have hni1:(i+1).toNat=k+1:=by omega
  rcases zM k (x.args).length with hlt | hge
  ·have hg:=get_at Tm.d hlt
   rw [Tm.d_eq] at hg
   obtain ⟨hR1,hR2⟩:=hR
   rw [zC hlt,Tm.vsL,QcO] at hR1
   rw [zC hlt,Tm.Bl] at hR2
   have hc:=ih x.args[k] (zY hlt) acc (by omega)
   have hlen:=Sq x.args[k].vs acc
   have hvl:=Tm.vs_len x.args[k]
   simp (disch:=omega) only [go_sem,Aa,hni,hg,hc,Gd]
   exact ⟨(i+1,Ki acc x.args[k].vs),⟨k+1,by dsimp only; omega,hlt,hR1,by dsimp only; omega⟩,by dsimp only; omega,by first | trivial | rfl⟩
  ·rw [zE hge,Tm.vsL] at hR
   obtain ⟨hR1,hR2⟩:=hR
   have hR1:acc=Ki l (Tm.vsL x.args):=hR1
   rw [←hR1]
   simp (disch:=omega) only [go_sem,Aa,hni]
theorem X3 (x:Tm):QcP x:=Qbw x fun y hy=>X3 y
termination_by SizeOf.sizeOf x
decreasing_by exact Tm.Az hy
theorem QcQ (x:Tm) (hn:x.nodes≤1048576):E 114 [x.sv] []=some (.arr ((Ki [] x.vs).map fun s=>[D.str s]),[]):=by
 have h:=X3 x [] (by simpa using hn)
 rw [zI] at h
 refine Ae Te IB (of_decide_eq_true rfl) ?_
 simp (disch:=omega) only [Mk,go_sem,Aa,h,Gd]
theorem Sb.X4 {s:Sb} {n:ByteArray} {t:Tm} (h:s.look n=some t):(⟨n,t⟩:Bd)∈s.binds:=by
 cases hh:DW s.binds n with
 | false=>rw [Sb.Qm hh] at h; cases h
 | true =>
  have hlt:=HW hh
  rw [Sb.KO hh hlt] at h
  obtain rfl:=Option.some.inj h
  have e:=Vd hh hlt
  have h1:=zY hlt
  have h2:∀ c:Bd,c.var=n→(⟨n,c.term⟩:Bd)=c:=fun c e=>by rw [←e]
  rw [h2 _ e]; exact h1
theorem Sb.Jh {s:Sb} (hs:NB s.binds) {n:ByteArray}:s.look n=none ↔ ∀ b∈s.binds,b.var≠n:=by
 cases hh:DW s.binds n with
 | false =>
  rw [Sb.Qm hh]
  refine ⟨fun _ b hb e=>?_,fun _=>rfl⟩
  rw [Xk hs] at hh
  exact List.any_eq_false.1 hh b hb (As e)
 | true =>
  have hlt:=HW hh
  rw [Sb.KO hh hlt]
  exact ⟨fun h=>(by cases h),fun h=>absurd (Vd hh hlt) (h _ (zY hlt))⟩
theorem Sb.Le {s:Sb} (hs:NB s.binds) {b:Bd} (h:b∈s.binds):s.look b.var=some b.term:=by
 cases hq:s.look b.var with
 | none=>exact absurd rfl ((Sb.Jh hs).1 hq b h)
 | some t =>
  have h2:=Sb.X4 hq
  obtain ⟨i,hi,e1⟩:=zG h
  obtain ⟨j,hj,e2⟩:=zG h2
  have hij:i=j:=(List.getElem_inj (h₀:=by simpa using hi) (h₁:=by simpa using hj) (MH hs)).1 (by simp only [List.getElem_map,e1,e2])
  subst hij
  rw [e1] at e2
  rw [e2]
theorem Tm.QcR {f:ByteArray→Option Tm} (x:Tm) {v:ByteArray} (h:v∈(x.ap f).vs):(v∈x.vs∧f v=none)∨∃ w∈x.vs,∃ t,f w=some t∧v∈t.vs:=by
 rw [Tm.HX] at h
 by_cases hv:An x.name=true
 ·rw [if_pos hv] at h
  have hx:x.vs=[x.name]:=by rw [Tm.FE,hv]; rfl
  cases hq:f x.name with
  | none =>
   rw [hq,yF,Tm.FE] at h
   have h:v∈(bif An x.name then [x.name] else _):=h
   rw [hv,cond_true] at h
   have e:v=x.name:=by simpa using h
   subst e
   exact .inl ⟨by rw [hx]; simp,hq⟩
  | some t =>
   rw [hq,Option.getD_some] at h
   exact .inr ⟨x.name,by rw [hx]; simp,t,hq,h⟩
 ·rw [if_neg hv] at h
  have hv0:An x.name=false:=by simpa using hv
  have hx:x.vs=Tm.vsL x.args:=by rw [Tm.FE,hv0]; rfl
  rw [Tm.FE] at h
  have h:v∈(bif An x.name then [x.name] else Tm.vsL (Tm.apL f x.args)):=h
  rw [hv0,cond_false,Tm.NC,Tm.vsL_mem] at h
  obtain ⟨z,hz,hvz⟩:=h
  obtain ⟨y,hy,rfl⟩:=List.mem_map.1 hz
  rw [hx]
  rcases Tm.QcR y hvz with ⟨h1,h2⟩ | ⟨w,h1,t,h2,h3⟩
  ·exact .inl ⟨Tm.vsL_mem.2 ⟨y,hy,h1⟩,h2⟩
  ·exact .inr ⟨w,Tm.vsL_mem.2 ⟨y,hy,h1⟩,t,h2,h3⟩
termination_by SizeOf.sizeOf x
decreasing_by exact Tm.Az hy
theorem X5 {α:Type} {g:α→α}:∀ {xs:List α},(∀ x∈xs,g x=x)→xs.map g=xs
 | [],_=>rfl
 | x :: xs,h=>by rw [zF,h x (by simp),X5 fun y hy=>h y (by simp [hy])]
theorem Tm.QcS (x:Tm):Tm.mk x.name x.args=x:=by obtain ⟨n,a⟩:=x; rfl
theorem Tm.Qa0 {f:ByteArray→Option Tm} (x:Tm) (hx:x.names=true) (h:∀ v∈x.vs,f v=none):x.ap f=x:=by
 rw [Tm.HX]
 by_cases hv:An x.name=true
 ·have hx0:=Tm.E1 hx hv
  rw [if_pos hv,h x.name (by rw [Tm.FE,hv]; simp),yF]
  conv=>rhs; rw [←Tm.QcS x,hx0]
 ·have hv0:An x.name=false:=by simpa using hv
  rw [if_neg hv,Tm.NC,X5 fun y hy=>Tm.Qa0 y (Tm.E2 hx hy) fun v hvv=>h v (by
   rw [Tm.FE,hv0,cond_false]
   exact Tm.vsL_mem.2 ⟨y,hy,hvv⟩),Tm.QcS]
termination_by SizeOf.sizeOf x
decreasing_by exact Tm.Az hy
def Sb.idem (s:Sb):Prop:=∀ w t,s.look w=some t→∀ v∈t.vs,s.look v=none
theorem Sb.Vq {s:Sb} (hi:s.idem) {x:Tm} {v:ByteArray} (h:v∈(x.ap s.look).vs):s.look v=none:=by
 rcases Tm.QcR x h with ⟨_,h2⟩ | ⟨w,_,t,h2,h3⟩
 ·exact h2
 ·exact hi w t h2 v h3
theorem Tm.X6 {x y:Tm} (hx:x.expr=true) (hy:y∈x.args):y.expr=true:=by
 have h1:=Tm.RI hx
 have h2:=Tm.KP hx hy
 unfold Tm.small at h1
 rw [zA,decide_eq_true_eq,decide_eq_true_eq] at h1
 have n1:=Tm.AX hy
 have n2:=Tm.Ao x
 have d2:=Tm.L9 x
 have d1:y.deep≤Tm.E8 x.args:=by
  have key:∀ xs:List Tm,y∈xs→y.deep≤Tm.E8 xs:=by
   intro xs
   induction xs with
   | nil=>intro h; cases h
   | cons z zs ih =>
    intro h
    rw [Tm.E8]
    rcases zO.1 h with rfl | h
    ·exact Nat.le_max_left _ _
    ·exact Nat.le_trans (ih h) (Nat.le_max_right _ _)
  exact key _ hy
 unfold Tm.expr Tm.valid Tm.small
 rw [h2,decide_eq_true (by omega),decide_eq_true (by omega)]; rfl
noncomputable def A3 (x y:Tm):Bd:=bif An x.name&&!(An y.name&&strLt x.name y.name) then ⟨x.name,y⟩ else ⟨y.name,x⟩
noncomputable def BW (b:Bd):Bool:=!dec (b.var∈b.term.vs)&&(Sb.mk [b]).ok
noncomputable def BM:Nat→Sb→List (Tm × Tm)→Option (Option Sb)
 | 0,_,_=>none
 | n+1,s,l=>match l with
  | []=>some (some s)
  | p :: l=>bif Ca s p.1&&Ca s p.2 then
    (bif dec (AM s p.1=AM s p.2) then BM n s l
    else bif An (AM s p.1).name || An (AM s p.2).name then
     (bif BW (A3 (AM s p.1) (AM s p.2))&&C1 s ⟨[A3 (AM s p.1) (AM s p.2)]⟩ then BM n (Cv s ⟨[A3 (AM s p.1) (AM s p.2)]⟩) l else some none)
    else bif dec ((AM s p.1).name=(AM s p.2).name)&&dec ((AM s p.1).args.length=(AM s p.2).args.length) then BM n s ((AM s p.1).args.zip (AM s p.2).args++l)
    else some none)
   else some none
def HK:List (Tm × Tm)→Nat
 | []=>0
 | p :: l=>p.1.nodes+HK l
structure uInv (s:Sb) (l:List (Tm × Tm)):Prop where
 ok:s.ok=true
 idem:s.idem
 ex:∀ p∈l,p.1.expr=true∧p.2.expr=true
 pq:∃ P Q,l=P++Q∧(∀ p∈P,p.1.ap s.look=p.1)∧HK P≤30∧Q.length≤1+30*s.binds.length
theorem Sr:∀ P:List (Tm × Tm),P.length≤HK P
 | []=>zU _
 | p :: P=>by
  have h1:=Sr P
  have h2:=Tm.L8 p.1
  rw [HK,zB]; omega
theorem uInv.len {s:Sb} {l:List (Tm × Tm)} (h:uInv s l):l.length≤391:=by
 obtain ⟨P,Q,rfl,_,h2,h3⟩:=h.pq
 have h1:=Sr P
 have h4:=ok_len h.ok
 rw [zD]; omega
theorem uInv.pop {s:Sb} {p:Tm × Tm} {l:List (Tm × Tm)} (h:uInv s (p :: l)):uInv s l:=by
 refine ⟨h.ok,h.idem,fun q hq=>h.ex q (by simp [hq]),?_⟩
 obtain ⟨P,Q,e,h1,h2,h3⟩:=h.pq
 cases P with
 | nil =>
  cases Q with
  | nil=>cases e
  | cons q Q =>
   simp only [yI,zZ] at e
   exact ⟨[],Q,e.2,fun _ h=>by simp at h,by rw [HK]; omega,by simp only [zB] at h3; omega⟩
 | cons q P =>
  simp only [zQ,zZ] at e
  rw [HK] at h2
  exact ⟨P,Q,e.2,fun z hz=>h1 z (by simp [hz]),by omega,h3⟩
theorem Ss:∀ (xs ys:List Tm),HK (xs.zip ys)≤Tm.Bl xs
 | [],ys=>by simp [HK]
 | x :: xs,[]=>by simp [HK]
 | x :: xs,y :: ys=>by
  have h:=Ss xs ys
  rw [List.zip_cons_cons,HK,Tm.Bl]
  show x.nodes+_≤_
  omega
theorem X7:∀ (a b:List (Tm × Tm)),HK (a++b)=HK a+HK b
 | [],b=>by simp [HK]
 | p :: a,b=>by rw [zQ,HK,HK,X7 a b]; omega
theorem CH {s:Sb} {x:Tm} (h:Ca s x=true):(AM s x).expr=true:=by
 rw [Ep h]
 unfold Ca at h
 rw [zA,zA] at h
 have h2:(x.ap s.look).expr=(x.ap s.look).small:=Tm.Qc5 (Sb.Fx h.1) x h.2.1
 rw [h2]; exact h.2.2
theorem Qn {α β:Type} {a:α} {b:β}:∀ {xs:List α} {ys:List β},(a,b)∈xs.zip ys→a∈xs∧b∈ys
 | [],ys,h=>by simp at h
 | x :: xs,[],h=>by simp at h
 | x :: xs,y :: ys,h=>by
  rw [List.zip_cons_cons] at h
  rcases zO.1 h with h | h
  ·simp only [Prod.mk.injEq] at h; exact ⟨by rw [h.1]; simp,by rw [h.2]; simp⟩
  ·obtain ⟨h1,h2⟩:=Qn h; exact ⟨by simp [h1],by simp [h2]⟩
theorem Uk {s:Sb} (hi:s.idem) {x:Tm} (hx:Ca s x=true) (hv:An (AM s x).name=false) {y:Tm} (hy:y∈(AM s x).args):y.ap s.look=y:=by
 have he:=CH hx
 refine Tm.Qa0 y (Tm.KP he hy) fun v hvv=>?_
 have h1:v∈(AM s x).vs:=by
  rw [Tm.FE,hv,cond_false]
  exact Tm.vsL_mem.2 ⟨y,hy,hvv⟩
 rw [Ep hx] at h1
 exact Sb.Vq hi h1
theorem uInv.dec {s:Sb} {p:Tm × Tm} {l:List (Tm × Tm)} (h:uInv s (p :: l)) (h1:Ca s p.1=true) (h2:Ca s p.2=true) (hv:An (AM s p.1).name=false):uInv s ((AM s p.1).args.zip (AM s p.2).args++l):=by
 have e1:=CH h1
 have e2:=CH h2
 have hn:=Tm.Ar e1
 have hn2:=Tm.Ao (AM s p.1)
 have hz:=Ss (AM s p.1).args (AM s p.2).args
 refine ⟨h.ok,h.idem,fun q hq=>?_,?_⟩
 ·rcases zS.1 hq with hq | hq
  ·obtain ⟨a,b⟩:=q
   obtain ⟨k1,k2⟩:=Qn hq
   exact ⟨Tm.X6 e1 k1,Tm.X6 e2 k2⟩
  ·exact h.ex q (by simp [hq])
 ·obtain ⟨P,Q,e,g1,g2,g3⟩:=h.pq
  have hfix:∀ q∈(AM s p.1).args.zip (AM s p.2).args,q.1.ap s.look=q.1:=fun q hq=>by
   obtain ⟨a,b⟩:=q
   exact Uk h.idem h1 hv (Qn hq).1
  cases P with
  | nil =>
   cases Q with
   | nil=>cases e
   | cons q Q =>
    simp only [yI,zZ] at e
    rw [←e.2] at g3
    exact ⟨_,l,rfl,hfix,by omega,by simp only [zB,e.2] at g3 ⊢; omega⟩
  | cons q P =>
   simp only [zQ,zZ] at e
   obtain ⟨rfl,rfl⟩:=e
   rw [HK] at g2
   have hself:AM s p.1=p.1:=by rw [Ep h1]; exact g1 p (by simp)
   refine ⟨(AM s p.1).args.zip (AM s p.2).args++P,Q,by rw [zW],fun q hq=>?_,?_,g3⟩
   ·rcases zS.1 hq with hq | hq
    ·exact hfix q hq
    ·exact g1 q (by simp [hq])
   ·rw [X7]
    rw [hself] at hn2 hz ⊢
    omega
theorem Gw (x y:Tm) (h:(An x.name || An y.name)=true):(A3 x y=⟨x.name,y⟩∧An x.name=true)∨(A3 x y=⟨y.name,x⟩∧An y.name=true):=by
 unfold A3
 cases h1:An x.name with
 | true =>
  cases h2:An y.name with
  | true =>
   cases strLt x.name y.name with
   | true=>exact .inr ⟨rfl,rfl⟩
   | false=>exact .inl ⟨rfl,rfl⟩
  | false=>exact .inl ⟨rfl,rfl⟩
 | false =>
  rw [h1,Bool.false_or] at h
  rw [h]
  exact .inr ⟨rfl,rfl⟩
theorem Su {b:Bd} (hb:(Sb.mk [b]).ok=true) (n:ByteArray):(Sb.mk [b]).look n=if b.var=n then some b.term else none:=by
 have hup:=Sb.JQ hb
 by_cases h:b.var=n
 ·rw [if_pos h,← h]
  exact Sb.Le hup (by simp)
 ·rw [if_neg h]
  exact (Sb.Jh hup).2 fun c hc=>by
   have:c=b:=by simpa using hc
   rw [this]; exact h
theorem Qej {s:Sb} {b:Bd} (hs:s.ok=true) (hi:s.idem) (hb:(Sb.mk [b]).ok=true) (hv:s.look b.var=none) (ht:∀ v∈b.term.vs,s.look v=none) (ho:b.var ∉ b.term.vs) (hc:C1 s ⟨[b]⟩=true) :
  (Cv s ⟨[b]⟩).binds.length=s.binds.length+1∧(Cv s ⟨[b]⟩).idem:=by
 have hup:=Sb.JQ hs
 have hcok:(Cv s ⟨[b]⟩).ok=true:=hc
 have hcup:=Sb.JQ hcok
 have hbok:HH b=true:=Sb.JR (x:=⟨[b]⟩) hb (k:=0) (by simp)
 have hone:∀ c∈s.binds,CR ⟨[b]⟩ c=some ⟨c.var,c.term.ap (Sb.mk [b]).look⟩:=fun c hcm=>by
  have hcb:HH c=true:=by
   obtain ⟨k,hk,rfl⟩:=zG hcm
   exact Sb.JR hs hk
  have hcl:=Sb.Le hup hcm
  have hcv:=WT hcb
  unfold CR
  rw [Ay,cond_false]
  intro e
  have hne:c.term.name≠c.var:=by
   unfold HH at hcb
   rw [zA,zA,yD] at hcb
   exact CT.1 hcb.2.2
  rw [Tm.HX] at e
  by_cases hv':An c.term.name=true
  ·rw [if_pos hv',Su hb] at e
   by_cases hbn:b.var=c.term.name
   ·rw [if_pos hbn,Option.getD_some] at e
    have:c.var∈b.term.vs:=by
     rw [Tm.FE,e,hcv]; simp
    rw [ht _ this] at hcl; cases hcl
   ·rw [if_neg hbn,yF] at e
    exact hne e
  ·rw [if_neg hv'] at e
   exact hne e
 have hl1:H4 s ⟨[b]⟩=s.binds.map fun c=>⟨c.var,c.term.ap (Sb.mk [b]).look⟩:=by
  unfold H4
  have key:∀ xs:List Bd,(∀ c∈xs,CR ⟨[b]⟩ c=some ⟨c.var,c.term.ap (Sb.mk [b]).look⟩)→xs.filterMap (CR ⟨[b]⟩)=xs.map fun c=>⟨c.var,c.term.ap (Sb.mk [b]).look⟩:=by
   intro xs
   induction xs with
   | nil=>intro _; rfl
   | cons x xs ih=>intro h; rw [z7,h x (by simp),zF,ih fun c hc=>h c (by simp [hc])]
  exact key _ hone
 have hl2:Qax s ⟨[b]⟩=[b]:=by
  unfold Qax
  have hh:DW s.binds b.var=false:=by
   cases hh:DW s.binds b.var with
   | false=>rfl
   | true=>rw [Sb.KO hh (HW hh)] at hv; cases hv
  simp [hh]
 have hmem:∀ c,c∈(Cv s ⟨[b]⟩).binds ↔ (∃ d∈s.binds,c=⟨d.var,d.term.ap (Sb.mk [b]).look⟩)∨c=b:=fun c=>by
  unfold Cv
  show c∈(C0 s ⟨[b]⟩).mergeSort bdLe ↔ _
  rw [(zR _ _).mem_iff]
  unfold C0
  rw [hl1,hl2,zS,List.mem_map]
  simp only [List.mem_singleton]
  constructor
  ·rintro (⟨d,h1,h2⟩ | h)
   ·exact .inl ⟨d,h1,h2.symm⟩
   ·exact .inr h
  ·rintro (⟨d,h1,h2⟩ | h)
   ·exact .inl ⟨d,h1,h2.symm⟩
   ·exact .inr h
 refine ⟨?_,fun w t hw v hvt=>?_⟩
 ·unfold Cv
  show ((C0 s ⟨[b]⟩).mergeSort bdLe).length=_
  rw [(zR _ _).length_eq]
  unfold C0
  rw [hl1,hl2,zD,zN]; rfl
 ·have key:v≠b.var∧s.look v=none:=by
   have hterm:∀ z∈b.term.vs,z≠b.var∧s.look z=none:=fun z hz=>⟨fun e=>ho (e▸hz),ht z hz⟩
   rcases (hmem _).1 (Sb.X4 hw) with ⟨d,hd,e⟩ | e
   ·simp only [Bd.mk.injEq] at e
    obtain ⟨rfl,rfl⟩:=e
    rcases Tm.QcR d.term hvt with ⟨k1,k2⟩ | ⟨w',k1,t',k2,k3⟩
    ·rw [Su hb] at k2
     have hne:b.var≠v:=fun e=>by rw [if_pos e] at k2; cases k2
     exact ⟨fun e=>hne e.symm,hi _ _ (Sb.Le hup hd) v k1⟩
    ·rw [Su hb] at k2
     split at k2
     ·obtain rfl:=Option.some.inj k2
      exact hterm v k3
     ·cases k2
   ·have e2:t=b.term:=by rw [←e]
    rw [e2] at hvt
    exact hterm v hvt
  refine (Sb.Jh hcup).2 fun c hcm e=>?_
  rcases (hmem c).1 hcm with ⟨d,hd,e2⟩ | e2
  ·have e3:c.var=d.var:=by rw [e2]
   exact (Sb.Jh hup).1 key.2 d hd (e3.symm.trans e)
  ·rw [e2] at e
   exact key.1 e.symm
theorem Qbx {s:Sb} (hi:s.idem) {a c:Tm} (h1:Ca s a=true) (h2:Ca s c=true) (hv:(An (AM s a).name || An (AM s c).name)=true) :
  s.look (A3 (AM s a) (AM s c)).var=none∧∀ v∈(A3 (AM s a) (AM s c)).term.vs,s.look v=none:=by
 have ha:∀ v∈(AM s a).vs,s.look v=none:=fun v h=>by rw [Ep h1] at h; exact Sb.Vq hi h
 have hc:∀ v∈(AM s c).vs,s.look v=none:=fun v h=>by rw [Ep h2] at h; exact Sb.Vq hi h
 rcases Gw _ _ hv with ⟨e,k⟩ | ⟨e,k⟩
 ·rw [e]
  exact ⟨ha _ (by rw [Tm.FE,k]; simp),hc⟩
 ·rw [e]
  exact ⟨hc _ (by rw [Tm.FE,k]; simp),ha⟩
theorem uInv.bind {s:Sb} {p:Tm × Tm} {l:List (Tm × Tm)} (h:uInv s (p :: l)) (h1:Ca s p.1=true) (h2:Ca s p.2=true) (hv:(An (AM s p.1).name || An (AM s p.2).name)=true)
  (hb:BW (A3 (AM s p.1) (AM s p.2))=true) (hc:C1 s ⟨[A3 (AM s p.1) (AM s p.2)]⟩=true):uInv (Cv s ⟨[A3 (AM s p.1) (AM s p.2)]⟩) l∧(Cv s ⟨[A3 (AM s p.1) (AM s p.2)]⟩).binds.length=s.binds.length+1:=by
 obtain ⟨f1,f2⟩:=Qbx h.idem h1 h2 hv
 unfold BW at hb
 rw [zA,yD] at hb
 obtain ⟨g1,g2⟩:=Qej h.ok h.idem hb.2 f1 f2 (CT.1 hb.1) hc
 refine ⟨⟨hc,g2,fun q hq=>h.ex q (by simp [hq]),[],l,rfl,fun q hq=>by simp at hq,by rw [HK]; omega,?_⟩,g1⟩
 obtain ⟨P,Q,e,k1,k2,k3⟩:=h.pq
 have hl:(p :: l).length=P.length+Q.length:=by rw [e,zD]
 have hP:=Sr P
 simp only [zB] at hl
 rw [g1]
 omega
noncomputable def apN (s:Sb):List (Tm × Tm)→Nat
 | []=>0
 | p :: l=>(p.1.ap s.look).nodes+apN s l
theorem Qa1 (s:Sb):∀ a b:List (Tm × Tm),apN s (a++b)=apN s a+apN s b
 | [],b=>by simp [apN]
 | p :: a,b=>by rw [zQ,apN,apN,Qa1 s a b]; omega
theorem X8 (s:Sb):∀ l:List (Tm × Tm),(∀ p∈l,p.1.ap s.look=p.1)→apN s l=HK l
 | [],_=>by rw [apN,HK]
 | p :: l,h=>by rw [apN,HK,h p (by simp),X8 s l fun q hq=>h q (by simp [hq])]
theorem QcT:∀ (k m:Nat) (s:Sb) (l:List (Tm × Tm)),uInv s l→12≤s.binds.length+k→apN s l≤m→∃ n r,BM n s l=some r:=by
 intro k
 induction k with
 | zero=>exact fun m=>uEnd 0 (fun h=>absurd h (by omega)) m
 | succ k ih=>exact fun m=>uEnd (k+1) (fun _ m s l=>ih m s l) m
where
 uEnd (k:Nat) (ih:0<k→∀ (m:Nat) (s:Sb) (l:List (Tm × Tm)),uInv s l→12≤s.binds.length+(k-1)→apN s l≤m→∃ n r,BM n s l=some r):∀ (m:Nat) (s:Sb) (l:List (Tm × Tm)),uInv s l→12≤s.binds.length+k→apN s l≤m→∃ n r,BM n s l=some r
  | m,s,[],h,hk,hm=>⟨1,some s,by rw [BM]⟩
  | m,s,p :: l,h,hk,hm=>by
   have hp:=Tm.L8 (p.1.ap s.look)
   rw [apN] at hm
   obtain ⟨m,rfl⟩:∃ m',m=m'+1:=⟨m-1,by omega⟩
   cases h1:Ca s p.1 with
   | false=>exact ⟨1,none,by rw [BM]; simp only [h1,yC,cond_false]⟩
   | true =>
    cases h2:Ca s p.2 with
    | false=>exact ⟨1,none,by rw [BM]; simp only [h2,yJ,cond_false]⟩
    | true =>
     cases h3:dec (AM s p.1=AM s p.2) with
     | true =>
      obtain ⟨n,r,hr⟩:=uEnd k ih m s l h.pop hk (by omega)
      exact ⟨n+1,r,by rw [BM]; simp only [h1,h2,h3,zJ,cond_true]; exact hr⟩
     | false =>
      cases h4:An (AM s p.1).name || An (AM s p.2).name with
      | true =>
       cases h5:BW (A3 (AM s p.1) (AM s p.2))&&C1 s ⟨[A3 (AM s p.1) (AM s p.2)]⟩ with
       | false=>exact ⟨1,none,by rw [BM]; simp only [h1,h2,h3,h4,h5,zJ,cond_true,cond_false]⟩
       | true =>
        have h5':=h5
        rw [zA] at h5'
        obtain ⟨g1,g2⟩:=h.bind h1 h2 h4 h5'.1 h5'.2
        have g3:=ok_len g1.ok
        obtain ⟨n,r,hr⟩:=ih (by omega) _ _ l g1 (by omega) (zU _)
        exact ⟨n+1,r,by rw [BM]; simp only [h1,h2,h3,h4,h5,zJ,cond_true,cond_false]; exact hr⟩
      | false =>
       have h4':=h4
       rw [Bool.or_eq_false_iff] at h4'
       cases h5:dec ((AM s p.1).name=(AM s p.2).name)&&dec ((AM s p.1).args.length=(AM s p.2).args.length) with
       | false=>exact ⟨1,none,by rw [BM]; simp only [h1,h2,h3,h4,h5,zJ,cond_true,cond_false]⟩
       | true =>
        have hz:=Ss (AM s p.1).args (AM s p.2).args
        have hs:=X8 s ((AM s p.1).args.zip (AM s p.2).args) fun q hq=>by
         obtain ⟨a,b⟩:=q
         exact Uk h.idem h1 h4'.1 (Qn hq).1
        have hn:=Tm.Ao (AM s p.1)
        rw [Ep h1] at hn
        rw [Ep h1] at hs hz
        obtain ⟨n,r,hr⟩:=uEnd k ih m s _ (h.dec h1 h2 h4'.1) hk (by rw [Qa1,Ep h1,hs]; omega)
        exact ⟨n+1,r,by rw [BM]; simp only [h1,h2,h3,h4,h5,zJ,cond_true,cond_false]; exact hr⟩
theorem uInv.start {a b:Tm} (ha:a.expr=true) (hb:b.expr=true):uInv ⟨[]⟩ [(a,b)]:=by
 have hok:(Sb.mk []).ok=true:=by unfold Sb.ok; simp [IW]
 have hl:∀ n,(Sb.mk []).look n=none:=fun n=>(Sb.Jh (Sb.JQ hok)).2 fun c hc=>by simp at hc
 exact ⟨hok,(fun w t h=>by rw [hl] at h; cases h),(fun p hp=>by
  have:p=(a,b):=by simpa using hp
  rw [this]; exact ⟨ha,hb⟩),[],[(a,b)],rfl,fun q hq=>absurd hq (by simp),by rw [HK]; omega,by simp⟩
theorem Zs {a b:Tm} (ha:a.expr=true) (hb:b.expr=true):∃ n r,BM n ⟨[]⟩ [(a,b)]=some r:=QcT 12 _ _ _ (uInv.start ha hb) (by omega) (zU _)
def Ji:SC:=(.seq (.reg [⟨some 2,none,.boxv 71 2 (.t 0)⟩,⟨some 4,none,.mv (.c (.int .i64 0))⟩]) (.seq (.reg [⟨some 5,none,.mv (.c (.int .i64 0))⟩]) (.seq (.seq (.reg [⟨some 8,none,.faddr 0 (.t 2)⟩,⟨some 9,none,.load false 1 (.t 8)⟩,⟨some 10,none,.mv (.t 1)⟩,⟨some 11,none,.bin .eql false (.t 9) (.t 10)⟩]) (.cond (.t 11) (.reg [⟨some 5,none,.mv (.c (.int .i64 1))⟩]) .skip)) (.seq (.seq (.reg [⟨some 12,none,.faddr 1 (.t 2)⟩,⟨some 13,none,.load false 1 (.t 12)⟩,⟨some 14,none,.len false (.t 13)⟩,⟨some 15,none,.mv (.c (.int .i64 0))⟩]) (.block 0 (.loop [0,1,0,0,0,1,0,0,0,0,0,0,0,1,1,1,0,0,0,0,0,0,0,0,0,0] (.seq (.reg [⟨some 16,none,.bin .lss false (.t 15) (.t 14)⟩]) (.seq (.cond (.t 16) .skip (.exit 0)) (.seq (.block 1 (.seq (.reg [⟨some 17,none,.iaddr 2 (.t 13) (.t 15)⟩,⟨some 18,none,.load true 2 (.t 17)⟩,⟨(some 7),none,(.alloc 71 [(.str ⟨#[]⟩),.nil])⟩,⟨none,none,(.store 2 (.t 7) (.t 18))⟩]) (.reg [⟨some 19,none,.mv (.t 5)⟩,⟨some 20,none,.load true 2 (.t 7)⟩,⟨some 21,none,.mv (.t 1)⟩,⟨some 22,none,.call 161 [(.t 20),(.t 21)]⟩,⟨some 23,none,.bin .add false (.t 19) (.t 22)⟩,⟨some 5,none,.mv (.t 23)⟩]))) (.reg [⟨some 24,none,.bin .add false (.t 15) (.c (.int .i64 1))⟩,⟨some 15,none,.mv (.t 24)⟩]))))))) (.seq (.reg [⟨some 25,none,.mv (.t 5)⟩,⟨some 4,none,.mv (.t 25)⟩]) .ret)))))
theorem Pd:codeOf Tryz.prog 161=some ⟨26,Ji,[(.tmp 4)]⟩:=by kernel_rfl
theorem FU:modes 161=⟨[],.asis,none,false⟩:=by unfold modes; rfl
mutual
noncomputable def Tm.cnt (n:ByteArray):Tm→Nat
 | .mk name args=>(bif dec (name=n) then 1 else 0)+Tm.Pe n args
noncomputable def Tm.Pe (n:ByteArray):List Tm→Nat
 | []=>0
 | x :: xs=>Tm.cnt n x+Tm.Pe n xs
end
theorem Tm.Zt (n:ByteArray) (x:Tm):x.cnt n=(bif dec (x.name=n) then 1 else 0)+Tm.Pe n x.args:=by
 obtain ⟨a,b⟩:=x
 rw [Tm.cnt]; rfl
theorem Tm.Qa2 (n:ByteArray):∀ xs:List Tm,(∀ x∈xs,x.cnt n≤x.nodes)→Tm.Pe n xs≤Tm.Bl xs
 | [],_=>by rw [Tm.Pe]; omega
 | x :: xs,h=>by
  have h1:=h x (by simp)
  have h2:=Tm.Qa2 n xs fun y hy=>h y (by simp [hy])
  rw [Tm.Pe,Tm.Bl]; omega
theorem Tm.QcU (n:ByteArray) (x:Tm):x.cnt n≤x.nodes:=by
 have h:=Tm.Qa2 n x.args fun y hy=>Tm.QcU n y
 rw [Tm.Zt,Tm.Ao]
 cases dec (x.name=n) with
 | true=>simp only [cond_true]; omega
 | false=>simp only [cond_false]; omega
termination_by SizeOf.sizeOf x
decreasing_by exact Tm.Az hy
theorem Tm.X9 {n:ByteArray}:∀ {xs:List Tm},0<Tm.Pe n xs ↔ ∃ x∈xs,0<x.cnt n
 | []=>by rw [Tm.Pe]; simp
 | x :: xs=>by
  have h:=Tm.X9 (n:=n) (xs:=xs)
  rw [Tm.Pe]
  constructor
  ·intro hp
   rcases yB (x.cnt n) with h0 | h0
   ·obtain ⟨y,h1,h2⟩:=h.1 (by omega)
    exact ⟨y,by simp [h1],h2⟩
   ·exact ⟨x,by simp,h0⟩
  ·rintro ⟨y,h1,h2⟩
   rcases zO.1 h1 with rfl | h1
   ·omega
   ·have:=h.2 ⟨y,h1,h2⟩; omega
theorem Vr (x:Tm) (n:ByteArray) (hn:x.nodes≤1099511627776) (ih:∀ y∈x.args,E 161 [y.sv,.str n] []=some (.int .i64 (y.cnt n:Nat),[])):E 161 [x.sv,.str n] []=some (.int .i64 (x.cnt n:Nat),[]):=by
 have hx:=Tm.Ao x
 have hl:=Tm.length_le x.args
 have hle:=Tm.QcU n x
 have hc0:=Tm.Zt n x
 have hsv:x.sv=.agg [.str x.name,.arr (x.args.map Tm.d)]:=rfl
 rw [hsv]
 obtain ⟨c0,hc0'⟩:∃ c0:Nat,c0=bif dec (x.name=n) then 1 else 0:=⟨_,rfl⟩
 rw [←hc0'] at hc0
 by_cases he:x.name=n
 all_goals
  have hq:=he
  first
   |rw [As he,cond_true] at hc0'
   |rw [Ay he,cond_false] at hc0'
  first
   |have hq:=eq_true he
   |have hq:=eq_false he
  refine Ae Pd FU (of_decide_eq_true rfl) ?_
  simp (disch:=omega) only [Ji,go_sem,Aa,hq]
  refine go_loop (α:=Int × (Nat)) (fun a=>⟨slots 26 0 [(1,.str n),(5,.int .i64 (((a.2):Nat):Int)),(13,.arr (x.args.map Tm.d)),(14,.int .i64 x.args.length),(15,.int .i64 (a.1))],[]⟩) (fun a=>∃ k:Nat,a.1=k∧k≤(x.args).length∧(a.2)+Tm.Pe n (x.args.drop k)=x.cnt n) (fun a=>(x.args).length-(a.1).toNat) (0,c0) ⟨0,rfl,zP _,by rw [zK]; exact hc0.symm⟩ (by simp (disch:=omega) only [go_sem,Aa,hc0',Int.natCast_zero,Int.natCast_one]) ?_
  rintro ⟨i,acc⟩ ⟨k,hi,hk,hR⟩
  dsimp only at hi hR
  have hni:i.toNat=k:=by omega
  have hni1:(i+1).toNat=k+1:=by omega
  rcases zM k (x.args).length with hlt | hge
  ·have hg:=get_at Tm.d hlt
   rw [Tm.d_eq] at hg
   have hc:=ih x.args[k] (zY hlt)
   rw [zC hlt,Tm.Pe] at hR
   simp (disch:=omega) only [go_sem,Aa,hni,hg,hc,FU]
   exact ⟨(i+1,acc+x.args[k].cnt n),⟨k+1,by dsimp only; omega,hlt,by omega⟩,by dsimp only; omega,by simp⟩
  ·rw [zE hge,Tm.Pe] at hR
   simp (disch:=omega) only [go_sem,Aa,hni]
   try omega
theorem PD (x:Tm) (n:ByteArray) (hn:x.nodes≤1099511627776):E 161 [x.sv,.str n] []=some (.int .i64 (x.cnt n:Nat),[]) :=
 Vr x n hn fun y hy=>PD y n (by have:=Tm.AX hy; have:=Tm.Ao x; omega)
termination_by SizeOf.sizeOf x
decreasing_by exact Tm.Az hy
def Ml:SC:=(.seq (.reg [⟨some 3,none,.boxv 71 2 (.t 1)⟩,⟨some 4,none,.mv (.c (.bool false))⟩]) (.seq (.reg [⟨some 5,none,.load true 2 (.t 3)⟩,⟨some 6,none,.mv (.t 0)⟩,⟨some 7,none,.call 161 [(.t 5),(.t 6)]⟩,⟨some 8,none,.bin .gtr false (.t 7) (.c (.int .i64 0))⟩,⟨some 4,none,.mv (.t 8)⟩]) .ret))
theorem Tf:codeOf Tryz.prog 130=some ⟨9,Ml,[(.tmp 4)]⟩:=by kernel_rfl
theorem Cw:modes 130=⟨[],.asis,none,false⟩:=by unfold modes; rfl
theorem Tm.Qa3 {n:ByteArray} (hn:An n=true) (x:Tm) (hx:An x.name=true→x.args=[]) (ih:∀ y∈x.args,(0<y.cnt n ↔ n∈y.vs)):0<x.cnt n ↔ n∈x.vs:=by
 rw [Tm.Zt,Tm.FE]
 cases hv:An x.name with
 | true =>
  rw [hx hv,Tm.Pe,cond_true]
  by_cases h:x.name=n
  ·rw [As h,h]; simp
  ·rw [Ay h]
   simp only [cond_false,List.mem_singleton]
   exact ⟨fun k=>absurd k (by omega),fun k=>absurd k.symm h⟩
 | false =>
  have h:¬ x.name=n:=fun e=>by rw [e,hn] at hv; cases hv
  rw [Ay h,cond_false,cond_false,Nat.zero_add,Tm.X9,Tm.vsL_mem]
  constructor
  ·rintro ⟨y,h1,h2⟩; exact ⟨y,h1,(ih y h1).1 h2⟩
  ·rintro ⟨y,h1,h2⟩; exact ⟨y,h1,(ih y h1).2 h2⟩
theorem Tm.QcV {n:ByteArray} (hn:An n=true) (x:Tm) (hx:x.names=true):0<x.cnt n ↔ n∈x.vs :=
 Tm.Qa3 hn x (Tm.E1 hx) fun y hy=>Tm.QcV hn y (Tm.E2 hx hy)
termination_by SizeOf.sizeOf x
decreasing_by exact Tm.Az hy
theorem Tm.QeS {n:ByteArray} (hn:An n=true) (x:Tm) (hx:x.expr=true):dec ((0:Int)<(x.cnt n:Nat))=dec (n∈x.vs):=by
 have h:=Tm.Qa3 hn x (Tm.WV hx) fun y hy=>Tm.QcV hn y (Tm.KP hx hy)
 refine Fo ?_
 rw [←h]; omega
theorem Tm.EK {x:Tm} (h:x.expr=true):x.cok=true:=by
 rcases Tm.MD h with hn | ⟨he,ha⟩
 ·exact Tm.IS x hn
 ·have hname:x.name=⟨#[61]⟩:=by unfold Tm.eqn at he; exact Av.1 he
  have hc:K6 ⟨#[61]⟩=true:=by kernel_rfl
  rw [Tm.K7,hname,hc,yK]
  have key:∀ xs:List Tm,(∀ y∈xs,y.names=true)→Tm.SI xs=true:=by
   intro xs
   induction xs with
   | nil=>intro _; rw [Tm.SI]
   | cons y ys ih=>intro hh; rw [Tm.SI,Tm.IS y (hh y (by simp)),ih fun z hz=>hh z (by simp [hz])]; rfl
  exact key _ fun y hy=>Tm.KP h hy
theorem XA (n:ByteArray) (hn:An n=true) (x:Tm) (hx:x.expr=true):E 130 [.str n,x.sv] []=some (.bool (dec (n∈x.vs)),[]):=by
 have h:=PD x n (by have:=Tm.Ar hx; omega)
 rw [←Tm.QeS hn x hx]
 refine Ae Tf Cw (of_decide_eq_true rfl) ?_
 simp (disch:=omega) only [Ml,go_sem,Aa,h,FU]
def B5:SC:=(.seq (.reg [⟨some 1,none,.boxv 107 4 (.t 0)⟩,⟨some 2,none,.alloc 76 [.nil]⟩,⟨some 3,none,.mv (.c (.bool false))⟩]) (.seq (.dreg [[],[0],[],[2],[],[],[4,1,0,5],[5,3,2,6,4,1,0]] [⟨some 7,none,.faddr 0 (.t 1)⟩,⟨some 8,none,.load true 2 (.t 7)⟩,⟨some 9,none,.faddr 2 (.t 1)⟩,⟨some 10,none,.load true 2 (.t 9)⟩,⟨(some 4),none,(.alloc 71 [(.str ⟨#[]⟩),.nil])⟩,⟨(some 5),none,(.alloc 71 [(.str ⟨#[]⟩),.nil])⟩,⟨none,none,(.store 2 (.t 4) (.t 8))⟩,⟨none,none,(.store 2 (.t 5) (.t 10))⟩]) (.seq (.seq (.reg [⟨some 11,none,.load true 2 (.t 4)⟩,⟨some 12,none,.call 89 [(.t 11)]⟩,⟨some 13,none,.un .not (.t 12)⟩,⟨some 14,none,.mv (.t 13)⟩,⟨(some 15),(some (14,false)),(.load true 2 (.t 5))⟩,⟨(some 16),(some (14,false)),(.call 89 [(.t 15)])⟩,⟨(some 17),(some (14,false)),(.mv (.t 16))⟩,⟨(some 18),(some (17,true)),(.faddr 0 (.t 5))⟩,⟨(some 19),(some (17,true)),(.load false 1 (.t 18))⟩,⟨(some 20),(some (17,true)),(.faddr 0 (.t 4))⟩,⟨(some 21),(some (17,true)),(.load false 1 (.t 20))⟩,⟨(some 22),(some (17,true)),(.bin .gtr false (.t 19) (.t 21))⟩,⟨(some 23),(some (14,false)),(.pick (.t 17) (.t 22) (.c (.bool false)))⟩,⟨some 24,none,.pick (.t 14) (.c (.bool true)) (.t 23)⟩]) (.cond (.t 24) (.reg [⟨some 25,none,.load true 2 (.t 5)⟩,⟨some 26,none,.load true 2 (.t 4)⟩,⟨none,none,(.store 2 (.t 4) (.t 25))⟩,⟨none,none,(.store 2 (.t 5) (.t 26))⟩]) .skip)) (.seq (.reg [⟨some 27,none,.faddr 0 (.t 4)⟩,⟨some 28,none,.load false 1 (.t 27)⟩,⟨some 29,none,.load true 2 (.t 5)⟩,⟨(some 30),none,(.build [(.str ⟨#[]⟩),(.str ⟨#[]⟩),.nil] [(0,(1,(.t 28))),(1,(2,(.t 29)))])⟩,⟨(some 31),none,(.mkrow 139 3 [(.str ⟨#[]⟩),(.str ⟨#[]⟩),.nil] 1 [(0,(.t 30))])⟩,⟨some 32,none,.build [.nil] [(0,(1,(.t 31)))]⟩,⟨some 6,none,.alloc 76 [.nil]⟩,⟨none,none,(.store 1 (.t 6) (.t 32))⟩]) (.seq (.dreg [[],[],[1],[],[2,1,3],[4,2,1,3],[5,4,2,1,3],[6,5,4,2,1,3],[7,6,5,4,2,1,3],[6,5,4,2,1,3,8,7],[0,8,7,6,5,4,2,1,3],[9,6,5,4,2,1,3,8,7,10,0]] [⟨some 33,none,.load true 1 (.t 6)⟩,⟨some 34,none,.faddr 0 (.t 4)⟩,⟨some 35,none,.load false 1 (.t 34)⟩,⟨some 36,none,.load true 2 (.t 5)⟩,⟨some 37,none,.call 130 [(.t 35),(.t 36)]⟩,⟨some 38,none,.un .not (.t 37)⟩,⟨some 39,none,.mv (.t 38)⟩,⟨(some 40),(some (39,true)),(.load true 1 (.t 6))⟩,⟨(some 41),(some (39,true)),(.call 131 [(.t 40)])⟩,⟨some 42,none,.pick (.t 39) (.t 41) (.c (.bool false))⟩,⟨none,none,(.store 1 (.t 2) (.t 33))⟩,⟨some 3,none,.mv (.t 42)⟩]) .ret)))))
theorem BN:codeOf Tryz.prog 90=some ⟨43,B5,[(.cell 2 true 1),(.tmp 3)]⟩:=by kernel_rfl
theorem Af:modes 90=⟨[],.frz,none,false⟩:=by unfold modes; rfl
def IC:SC:=(.seq (.reg [⟨some 3,none,.boxv 76 1 (.t 0)⟩,⟨some 5,none,.boxv 71 2 (.t 2)⟩,⟨some 6,none,.alloc 76 [.nil]⟩,⟨some 7,none,.mv (.c (.bool false))⟩]) (.seq (.seq (.reg [⟨some 8,none,.load true 2 (.t 5)⟩,⟨some 9,none,.call 114 [(.t 8)]⟩,⟨some 10,none,.mv (.t 1)⟩,⟨some 11,none,.call 113 [(.t 9),(.t 10)]⟩]) (.cond (.t 11) (.seq (.reg [⟨some 12,none,.load true 1 (.t 3)⟩,⟨none,none,(.store 1 (.t 6) (.t 12))⟩,⟨some 7,none,.mv (.c (.bool false))⟩]) .ret) .skip)) (.seq (.dreg [[],[],[],[],[1,2,3],[0,4,1,2,3],[5,0,4,1,2,3],[5,0,4,1,2,3],[6,5,0,4,1,2,3,7],[7,5,0,4,1,2,3,8,6]] [⟨some 13,none,.load true 1 (.t 3)⟩,⟨some 14,none,.build [.nil] []⟩,⟨some 15,none,.mv (.t 1)⟩,⟨some 16,none,.load true 2 (.t 5)⟩,⟨some 17,none,.call 116 [(.t 14),(.t 15),(.t 16)]⟩,⟨some 18,none,.call 115 [(.t 13),(.t 17)]⟩,⟨some 19,none,.ext (.t 18) 0⟩,⟨some 20,none,.ext (.t 18) 1⟩,⟨none,none,(.store 1 (.t 6) (.t 19))⟩,⟨some 7,none,.mv (.t 20)⟩]) .ret)))
theorem Mm:codeOf Tryz.prog 78=some ⟨21,IC,[(.cell 6 true 1),(.tmp 7)]⟩:=by kernel_rfl
theorem Al:modes 78=⟨[],.frz,none,false⟩:=by unfold modes; rfl
theorem H6 {b:Bd} (h:b.term.nodes≤1099511627776):(Sb.mk [b]).tame:=⟨by simp,fun y hy=>by
 have:y=b:=by simpa using hy
 rw [this]; exact h⟩
theorem Ie (x y:Tm) (hx:x.expr=true) (hy:y.expr=true) (hv:(An x.name || An y.name)=true):E 90 [.agg [.str x.name,.arr (x.args.map Tm.d),.str y.name,.arr (y.args.map Tm.d)]] []=some (.tup [(Sb.mk [A3 x y]).sv,.bool (BW (A3 x y))],[]):=by
 have h1:=Dp x (Tm.EK hx)
 have h2:=Dp y (Tm.EK hy)
 have n1:=Tm.Ar hx
 have n2:=Tm.Ar hy
 have hor:(A3 x y=⟨x.name,y⟩∧An x.name=true∧(An y.name&&strLt x.name y.name)=false)∨(A3 x y=⟨y.name,x⟩∧An y.name=true∧(An x.name=false∨(An y.name&&strLt x.name y.name)=true)):=by
  unfold A3
  cases h1:An x.name with
  | true =>
   cases h3:An y.name&&strLt x.name y.name with
   | true=>rw [zA] at h3; exact .inr ⟨rfl,h3.1,.inr (by rfl)⟩
   | false=>exact .inl ⟨rfl,rfl,rfl⟩
  | false =>
   rw [h1,Bool.false_or] at hv
   exact .inr ⟨rfl,hv,.inl (by rfl)⟩
 rcases hor with ⟨e,k1,k2⟩ | ⟨e,k1,k2⟩
 ·rw [e]
  have ho:=XA x.name k1 y hy
  have hi:=DV ⟨[⟨x.name,y⟩]⟩ (H6 (by show y.nodes≤_; omega))
  have hsv:(Sb.mk [⟨x.name,y⟩]).sv=.agg [.arr [[.str x.name,.str y.name,.arr (y.args.map Tm.d)]]]:=rfl
  rw [hsv] at hi ⊢
  unfold BW
  rw [k1] at h1
  cases hv2:An y.name with
  | false =>
   rw [hv2] at h2
   cases hb:dec (x.name∈y.vs) with
   | true =>
    rw [hb] at ho
    refine Ae BN Af (of_decide_eq_true rfl) ?_
    simp (disch:=omega) only [B5,go_sem,Aa,h1,h2,ho,hi,hb,Ak,Cw,Ax]
   | false =>
    rw [hb] at ho
    refine Ae BN Af (of_decide_eq_true rfl) ?_
    simp (disch:=omega) only [B5,go_sem,Aa,h1,h2,ho,hi,hb,Ak,Cw,Ax]
  | true =>
   rw [hv2] at h2 k2
   rw [yK] at k2
   cases hb:dec (x.name∈y.vs) with
   | true =>
    rw [hb] at ho
    refine Ae BN Af (of_decide_eq_true rfl) ?_
    simp (disch:=omega) only [B5,go_sem,Aa,h1,h2,ho,hi,hb,k2,IV,yG,Ak,Cw,Ax]
   | false =>
    rw [hb] at ho
    refine Ae BN Af (of_decide_eq_true rfl) ?_
    simp (disch:=omega) only [B5,go_sem,Aa,h1,h2,ho,hi,hb,k2,IV,yG,Ak,Cw,Ax]
 ·rw [e]
  have ho:=XA y.name k1 x hx
  have hi:=DV ⟨[⟨y.name,x⟩]⟩ (H6 (by show x.nodes≤_; omega))
  have hsv:(Sb.mk [⟨y.name,x⟩]).sv=.agg [.arr [[.str y.name,.str x.name,.arr (x.args.map Tm.d)]]]:=rfl
  rw [hsv] at hi ⊢
  unfold BW
  rw [k1] at h2 k2
  rw [yK] at k2
  cases hv1:An x.name with
  | false =>
   rw [hv1] at h1
   cases hb:dec (y.name∈x.vs) with
   | true =>
    rw [hb] at ho
    refine Ae BN Af (of_decide_eq_true rfl) ?_
    simp (disch:=omega) only [B5,go_sem,Aa,h1,h2,ho,hi,hb,Ak,Cw,Ax]
   | false =>
    rw [hb] at ho
    refine Ae BN Af (of_decide_eq_true rfl) ?_
    simp (disch:=omega) only [B5,go_sem,Aa,h1,h2,ho,hi,hb,Ak,Cw,Ax]
  | true =>
   rw [hv1] at h1 k2
   have k2:strLt x.name y.name=true:=k2.elim (fun h=>by cases h) id
   cases hb:dec (y.name∈x.vs) with
   | true =>
    rw [hb] at ho
    refine Ae BN Af (of_decide_eq_true rfl) ?_
    simp (disch:=omega) only [B5,go_sem,Aa,h1,h2,ho,hi,hb,k2,IV,yG,Ak,Cw,Ax]
   | false =>
    rw [hb] at ho
    refine Ae BN Af (of_decide_eq_true rfl) ?_
    simp (disch:=omega) only [B5,go_sem,Aa,h1,h2,ho,hi,hb,k2,IV,yG,Ak,Cw,Ax]
theorem CC (s:Sb) (hs:s.ok=true) (n:ByteArray) (t:Tm) (ht:t.expr=true) (hne:t.name=n→n∈t.vs):∃ r:Sb,E 78 [s.sv,.str n,t.sv] []=some (.tup [r.sv,.bool (BW ⟨n,t⟩&&C1 s ⟨[⟨n,t⟩]⟩)],[])∧((BW ⟨n,t⟩&&C1 s ⟨[⟨n,t⟩]⟩)=true→r=Cv s ⟨[⟨n,t⟩]⟩):=by
 have n1:=Tm.Ar ht
 have h1:=QcQ t (by omega)
 have hl:=Sq t.vs []
 have hvl:=Tm.vs_len t
 have h2:=QcG (Ki [] t.vs) n (by simp only [zT] at hl; omega)
 have e1:dec (n∈Ki [] t.vs)=dec (n∈t.vs):=Fo (by rw [Xz]; simp)
 rw [e1] at h2
 have hss:s.sv=.agg [.arr (s.binds.map Bd.d)]:=rfl
 cases hb:dec (n∈t.vs) with
 | true =>
  rw [hb] at h2
  refine ⟨s,?_,fun h=>?_⟩
  ·have e2:BW ⟨n,t⟩=false:=by
    unfold BW
    show (!dec (n∈t.vs)&&_)=false
    rw [hb]; rfl
   rw [e2,yC,hss]
   refine Ae Mm Al (of_decide_eq_true rfl) ?_
   simp (disch:=omega) only [IC,go_sem,Aa,h1,h2,IB,Gu]
  ·unfold BW at h
   have h:((!dec (n∈t.vs)&&_)&&_)=true:=h
   rw [hb] at h; cases h
 | false =>
  rw [hb] at h2
  have hnn:¬ t.name=n:=fun e=>CT.1 hb (hne e)
  have h3:=Vo ⟨[]⟩ n t (by show 0≤_; omega) (by omega)
  have hput:(Sb.mk []).put ⟨n,t⟩=⟨[⟨n,t⟩]⟩:=by
   unfold Sb.put
   rw [Ay hnn]; rfl
  rw [hput] at h3
  have hpsv:(Sb.mk [⟨n,t⟩]).sv=.agg [.arr [[.str n,.str t.name,.arr (t.args.map Tm.d)]]]:=rfl
  have htame:s.tame:=⟨by have:=ok_len hs; omega,fun c hc=>by
   obtain ⟨k,hk,rfl⟩:=zG hc
   have:=Et (D8 (Sb.JR hs hk)); omega⟩
  have h4:=Td s ⟨[⟨n,t⟩]⟩ htame (H6 (by show t.nodes≤_; omega))
  have e0:(Sb.mk []).sv=.agg [.arr []]:=rfl
  rw [e0,hpsv] at h3
  rw [hpsv] at h4
  have e2:Tc s ⟨[⟨n,t⟩]⟩=(BW ⟨n,t⟩&&C1 s ⟨[⟨n,t⟩]⟩):=by
   unfold Tc BW
   show _=((!dec (n∈t.vs)&&_)&&_)
   rw [hs,hb]; rfl
  rw [e2] at h4
  refine ⟨Xw s ⟨[⟨n,t⟩]⟩,?_,fun h=>?_⟩
  ·have hrs:(Xw s ⟨[⟨n,t⟩]⟩).sv=.agg [.arr ((Xw s ⟨[⟨n,t⟩]⟩).binds.map Bd.d)]:=rfl
   rw [hss] at h4 ⊢
   rw [hrs] at h4 ⊢
   refine Ae Mm Al (of_decide_eq_true rfl) ?_
   simp (disch:=omega) only [IC,go_sem,Aa,h1,h2,h3,h4,IB,Gu,CG,Bv]
  ·unfold Xw
   rw [e2,h]; rfl
def eqD (p:Tm × Tm):List D:=[.str p.1.name,.arr (p.1.args.map Tm.d),.str p.2.name,.arr (p.2.args.map Tm.d)]
def eqO (p:Tm × Tm):List OT:=[.str p.1.name,.sh (p.1.args.map Tm.d),.str p.2.name,.sh (p.2.args.map Tm.d)]
theorem Sv:∀ l:List (Tm × Tm),OT.erss (l.map eqO)=l.map eqD
 | []=>rfl
 | p :: l=>by rw [zF,zF,OT.erss,Sv l]; rfl
theorem Sw:∀ l:List (Tm × Tm),OT.AO (l.map eqO)=true
 | []=>rfl
 | p :: l=>by rw [zF,OT.AO,Sw l]; rfl
theorem Lf (l:List (Tm × Tm)):(l.map eqD).map (fun x=>x.map D.ot)=l.map eqO:=by rw [zV]; rfl
theorem If (l:List (Tm × Tm)):((l.map eqO).all fun x=>x.length == 4)=true:=by
 rw [zX,zL]; intro x _; rfl
theorem Qo (l:List (Tm × Tm)):((l.map eqD).all fun x=>x.length == 4)=true:=by
 rw [zX,zL]; intro x _; rfl
noncomputable def uTo (t:Option Sb):Sb:=t.getD ⟨[]⟩
def uOk (t:Option Sb):Bool:=t.isSome
theorem ET {s:Sb} (hs:s.ok=true):s.tame:=⟨by have:=ok_len hs; omega,fun c hc=>by
 obtain ⟨k,hk,rfl⟩:=zG hc
 have:=Et (D8 (Sb.JR hs hk)); omega⟩
theorem Gx {α β:Type} {xs:List α} {ys:List β} {k:Nat} (h:k<xs.length) (h':k<ys.length):(xs.zip ys).take k++[(xs[k],ys[k])]=(xs.zip ys).take (k+1):=by
 have hz:k<(xs.zip ys).length:=by rw [List.length_zip]; omega
 rw [List.take_succ_eq_append_getElem hz,List.getElem_zip]
theorem Qp:∀ (n:Nat) (s:Sb) (l:List (Tm × Tm)) (r:Sb),uInv s l→BM n s l=some (some r)→r.ok=true
 | 0,s,l,r,h,e=>by rw [BM] at e; cases e
 | n+1,s,[],r,h,e=>by
  rw [BM] at e
  simp only [Option.some.injEq] at e
  rw [←e]; exact h.ok
 | n+1,s,p :: l,r,h,e=>by
  rw [BM] at e
  cases h1:Ca s p.1 with
  | false=>simp only [h1,yC,cond_false] at e; cases e
  | true =>
   cases h2:Ca s p.2 with
   | false=>simp only [h2,yJ,cond_false] at e; cases e
   | true =>
    cases h3:dec (AM s p.1=AM s p.2) with
    | true =>
     simp only [h1,h2,h3,zJ,cond_true] at e
     exact Qp n s l r h.pop e
    | false =>
     cases h4:An (AM s p.1).name || An (AM s p.2).name with
     | true =>
      cases h5:BW (A3 (AM s p.1) (AM s p.2))&&C1 s ⟨[A3 (AM s p.1) (AM s p.2)]⟩ with
      | false=>simp only [h1,h2,h3,h4,h5,zJ,cond_true,cond_false] at e; cases e
      | true =>
       simp only [h1,h2,h3,h4,h5,zJ,cond_true,cond_false] at e
       rw [zA] at h5
       exact Qp n _ l r (h.bind h1 h2 h4 h5.1 h5.2).1 e
     | false =>
      have h4':=h4
      rw [Bool.or_eq_false_iff] at h4'
      cases h5:dec ((AM s p.1).name=(AM s p.2).name)&&dec ((AM s p.1).args.length=(AM s p.2).args.length) with
      | false=>simp only [h1,h2,h3,h4,h5,zJ,cond_true,cond_false] at e; cases e
      | true =>
       simp only [h1,h2,h3,h4,h5,zJ,cond_true,cond_false] at e
       exact Qp n s _ r (h.dec h1 h2 h4'.1) e
open Classical in
noncomputable def unR (a b:Tm):Option Sb:=if h:∃ r,∃ n,BM n ⟨[]⟩ [(a,b)]=some r then h.choose else none
theorem Sx {a b:Tm} (ha:a.expr=true) (hb:b.expr=true):∃ n,BM n ⟨[]⟩ [(a,b)]=some (unR a b):=by
 obtain ⟨n,r,h⟩:=Zs ha hb
 have he:∃ r,∃ n,BM n ⟨[]⟩ [(a,b)]=some r:=⟨r,n,h⟩
 unfold unR
 rw [dif_pos he]
 exact he.choose_spec
theorem QcW {a b:Tm} (ha:a.expr=true) (hb:b.expr=true) {s:Sb} (h:unR a b=some s):s.ok=true:=by
 obtain ⟨n,hn⟩:=Sx ha hb
 rw [h] at hn
 exact Qp n _ _ s (uInv.start ha hb) hn
noncomputable def FF (s:Sb) (l:List Lt):Bool:=E9 s l&&(nz 10 (apC s l)).norm
noncomputable def Sy (s:Sb) (l:List Lt):Cl:=if FF s l then nz 10 (apC s l) else ⟨[]⟩
theorem Qq {s:Sb} {l:List Lt} (h:FF s l=false):Sy s l=⟨[]⟩:=by unfold Sy; rw [if_neg (by rw [h]; simp)]
theorem Sz {s:Sb} {l:List Lt} (h:FF s l=true):Sy s l=nz 10 (apC s l):=by unfold Sy; rw [if_pos h]
theorem Zu {s:Sb} {l:List Lt} (h:E9 s l=true):(apC s l).ok=true:=by
 rw [Vi h]
 unfold E9 at h
 rw [zA] at h
 exact h.2
theorem XB {c:Cl} (h:c.ok=true):c.tame:=⟨by have:=Cl.ok_len h; omega,fun y hy=>by have:=Tm.CQ (Cl.Dc h y hy); omega⟩
noncomputable def hasB (c:Cl) (i:Int):Bool:=dec (0≤i)&&dec (i≤(c.lits.length:Int)-1)
theorem Qr {c:Cl} {i:Int} (h:hasB c i=true):∃ p:Nat,i=p∧p<c.lits.length:=by
 unfold hasB at h
 rw [zA] at h
 have h1:=Av.1 h.1
 have h2:=Av.1 h.2
 exact ⟨i.toNat,by omega,by omega⟩
noncomputable def LM (c:Cl) (i:Int):Lt:=(c.lits[i.toNat]?).getD ⟨false,.mk ⟨#[]⟩ []⟩
theorem JE {c:Cl} {p:Nat} (h:p<c.lits.length):LM c (p:Int)=c.lits[p]:=by
 unfold LM
 rw [Int.toNat_natCast,List.getElem?_eq_getElem h]; rfl
noncomputable def Qf2 (c:Cl) (i k:Int):Bool:=hasB c i&&(hasB c k&&(dec (i<k)&&((LM c i).pos == (LM c k).pos)))
noncomputable def Qfr (c:Cl) (i k:Int):Option Sb:=bif Qf2 c i k then unR (LM c i).atom (LM c k).atom else none
noncomputable def Qfs (c:Cl) (i k:Int):Bool:=match Qfr c i k with
 | none=>false
 | some s=>FF s (c.lits.eraseIdx k.toNat)
noncomputable def Qf3 (c:Cl) (i k:Int):Cl:=match Qfr c i k with
 | none=>⟨[]⟩
 | some s=>Sy s (c.lits.eraseIdx k.toNat)
theorem PE {c:Cl} (hc:c.ok=true) (k:Nat):∀ x∈c.lits.eraseIdx k,x.atom.atom=true:=fun x hx=>Cl.Dc hc x (List.mem_of_mem_eraseIdx hx)
theorem Ul {c:Cl} (hc:c.ok=true) (k:Nat):(c.lits.eraseIdx k).length≤8:=by
 have h1:=List.length_eraseIdx_le c.lits k
 have h2:=Cl.ok_len hc
 omega
noncomputable def Cl.ap (d:Cl):Cl:=d.rn (Dv Gt d.ns)
theorem Cl.Qa4 {d:Cl} (h:d.ok=true):d.ap.ok=true:=Cl.Qau (Cl.yE h) h
theorem Cl.Qa5 {d:Cl} (h:d.ok=true) (hn:d.norm=true):d.ap.lits=d.lits.map (Lt.rn (Dv Gt d.ns)):=Cl.Zp h hn
theorem Cl.Vs {d:Cl} (h:d.ok=true) (hn:d.norm=true):d.ap.lits.length=d.lits.length:=by rw [Cl.Qa5 h hn,zN]
theorem Cl.Qek {d:Cl} (h:d.ok=true) (hn:d.norm=true) (k:Int):hasB d.ap k=hasB d k:=by unfold hasB; rw [Cl.Vs h hn]
theorem Cl.QeT {d:Cl} (h:d.ok=true) (hn:d.norm=true) {q:Nat} (hq:q<d.lits.length):(LM d.ap q).pos=(LM d q).pos:=by
 rw [JE hq,JE (by rw [Cl.Vs h hn]; exact hq)]
 simp only [Cl.Qa5 h hn,List.getElem_map]
 rfl
noncomputable def JF (c:Cl) (i:Int) (d:Cl) (k:Int):Bool:=hasB c i&&(hasB d k&&!((LM c i).pos == (LM d k).pos))
noncomputable def Vt (c:Cl) (i:Int) (d:Cl) (k:Int):Option Sb:=bif JF c i d k then unR (LM c i).atom (LM d.ap k).atom else none
noncomputable def S1 (c:Cl) (i:Int) (d:Cl) (k:Int):List Lt:=c.lits.eraseIdx i.toNat++d.ap.lits.eraseIdx k.toNat
noncomputable def Ig (c:Cl) (i:Int) (d:Cl) (k:Int):Bool:=match Vt c i d k with
 | none=>false
 | some s=>FF s (S1 c i d k)
noncomputable def MN (c:Cl) (i:Int) (d:Cl) (k:Int):Cl:=match Vt c i d k with
 | none=>⟨[]⟩
 | some s=>Sy s (S1 c i d k)
theorem Lg {c d:Cl} {i k:Int} (h:Vt c i d k=none):Ig c i d k=false∧MN c i d k=⟨[]⟩:=by
 unfold Ig MN
 rw [h]
 exact ⟨rfl,rfl⟩
theorem XC {c d:Cl} {i k:Int} {s:Sb} (h:Vt c i d k=some s):Ig c i d k=FF s (S1 c i d k)∧MN c i d k=Sy s (S1 c i d k):=by
 unfold Ig MN
 rw [h]
 exact ⟨rfl,rfl⟩
theorem LI {c d:Cl} {i k:Int} (h:JF c i d k=false):Vt c i d k=none:=by unfold Vt; rw [h]; rfl
theorem XD {c d:Cl} {i k:Int} (h:JF c i d k=true):Vt c i d k=unR (LM c i).atom (LM d.ap k).atom:=by unfold Vt; rw [h]; rfl
theorem S2 {c d:Cl} (hc:c.ok=true) (hd:d.ok=true) (i k:Int):∀ x∈S1 c i d k,x.atom.atom=true:=fun x hx=>by
 rcases zS.1 hx with h | h
 ·exact PE hc _ x h
 ·exact PE (Cl.Qa4 hd) _ x h
theorem XE {c d:Cl} (hc:c.ok=true) (hd:d.ok=true) (i k:Int):(S1 c i d k).length≤16:=by
 have h1:=Ul hc i.toNat
 have h2:=Ul (Cl.Qa4 hd) k.toNat
 unfold S1
 rw [zD]; omega
theorem EB {n:ByteArray} {t:Tm} (hv:An n=true):t.name=n→n∈t.vs:=fun e=>by rw [Tm.FE,e,hv]; simp
abbrev u5b:SC:=(.seq (.seq (.reg [⟨some 22,none,.mv (.t 8)⟩,⟨some 23,none,.len false (.t 22)⟩,⟨some 24,none,.bin .gtr false (.t 23) (.c (.int .i64 0))⟩]) (.cond (.t 24) .skip (.exit 0))) (.block 1 (.seq (.dreg [[],[],[1],[2,1],[3,2,1],[0,4,3,2,1],[5,0,4,3,2,1],[6,5,0,4,3,2,1],[6,5,0,4,3,2,1],[],[9,7,6,5,0,4,3,2,1],[8,6,5,0,4,3,2,1,10,9,7]] [⟨some 26,none,.load true 1 (.t 7)⟩,⟨some 27,none,.mv (.t 8)⟩,⟨some 28,none,.iaddr 4 (.t 27) (.c (.int .i64 0))⟩,⟨some 29,none,.faddr 0 (.t 28)⟩,⟨some 30,none,.load true 2 (.t 29)⟩,⟨some 31,none,.call 76 [(.t 26),(.t 30)]⟩,⟨some 25,none,.mv (.t 31)⟩,⟨some 32,none,.ext (.t 25) 0⟩,⟨some 33,none,.ext (.t 25) 1⟩,⟨(some 9),none,(.alloc 71 [(.str ⟨#[]⟩),.nil])⟩,⟨none,none,(.store 2 (.t 9) (.t 32))⟩,⟨some 10,none,.mv (.t 33)⟩]) (.seq (.dreg [[],[],[1],[2,1],[3,2,1],[0,4,3,2,1],[5,0,4,3,2,1],[6,5,0,4,3,2,1],[6,5,0,4,3,2,1],[],[9,7,6,5,0,4,3,2,1],[8,6,5,0,4,3,2,1,10,9,7]] [⟨some 35,none,.load true 1 (.t 7)⟩,⟨some 36,none,.mv (.t 8)⟩,⟨some 37,none,.iaddr 4 (.t 36) (.c (.int .i64 0))⟩,⟨some 38,none,.faddr 2 (.t 37)⟩,⟨some 39,none,.load true 2 (.t 38)⟩,⟨some 40,none,.call 76 [(.t 35),(.t 39)]⟩,⟨some 34,none,.mv (.t 40)⟩,⟨some 41,none,.ext (.t 34) 0⟩,⟨some 42,none,.ext (.t 34) 1⟩,⟨(some 11),none,(.alloc 71 [(.str ⟨#[]⟩),.nil])⟩,⟨none,none,(.store 2 (.t 11) (.t 41))⟩,⟨some 12,none,.mv (.t 42)⟩]) (.seq (.seq (.reg [⟨some 43,none,.mv (.t 10)⟩,⟨some 44,none,.un .not (.t 43)⟩,⟨some 45,none,.mv (.t 44)⟩,⟨(some 46),(some (45,false)),(.mv (.t 12))⟩,⟨(some 47),(some (45,false)),(.un .not (.t 46))⟩,⟨some 48,none,.pick (.t 45) (.c (.bool true)) (.t 47)⟩]) (.cond (.t 48) (.seq (.reg [⟨some 49,none,.load true 1 (.t 6)⟩,⟨none,none,(.store 1 (.t 4) (.t 49))⟩,⟨some 5,none,.mv (.c (.bool false))⟩]) .ret) .skip)) (.seq (.reg [⟨some 50,none,.mv (.t 8)⟩,⟨some 51,none,.slice false 4 (.t 50) (some (.c (.int .i64 1))) none⟩,⟨some 8,none,.mv (.t 51)⟩]) (.seq (.reg [⟨some 13,none,.mv (.c (.bool true))⟩]) (.seq (.block 2 (.seq (.reg [⟨some 78,none,.load true 2 (.t 9)⟩,⟨some 79,none,.load true 2 (.t 11)⟩,⟨some 80,none,.call 68 [(.t 78),(.t 79)]⟩,⟨some 77,none,.mv (.t 80)⟩]) (.cond (.t 77) .skip (.seq (.reg [⟨some 82,none,.faddr 0 (.t 9)⟩,⟨some 83,none,.load false 1 (.t 82)⟩,⟨some 84,none,.call 77 [(.t 83)]⟩,⟨some 85,none,.mv (.t 84)⟩,⟨(some 86),(some (85,true)),(.faddr 0 (.t 11))⟩,⟨(some 87),(some (85,true)),(.load false 1 (.t 86))⟩,⟨(some 88),(some (85,true)),(.call 77 [(.t 87)])⟩,⟨some 89,none,.pick (.t 85) (.t 88) (.c (.bool false))⟩,⟨some 90,none,.mv (.t 89)⟩,⟨(some 91),(some (90,true)),(.faddr 0 (.t 9))⟩,⟨(some 92),(some (90,true)),(.load false 1 (.t 91))⟩,⟨(some 93),(some (90,true)),(.faddr 0 (.t 11))⟩,⟨(some 94),(some (90,true)),(.load false 1 (.t 93))⟩,⟨(some 95),(some (90,true)),(.bin .lss false (.t 92) (.t 94))⟩,⟨some 96,none,.pick (.t 90) (.t 95) (.c (.bool false))⟩,⟨some 81,none,.mv (.t 96)⟩]) (.cond (.t 81) (.reg [⟨some 98,none,.load true 1 (.t 7)⟩,⟨some 99,none,.faddr 0 (.t 11)⟩,⟨some 100,none,.load false 1 (.t 99)⟩,⟨some 101,none,.load true 2 (.t 9)⟩,⟨some 102,none,.call 78 [(.t 98),(.t 100),(.t 101)]⟩,⟨some 97,none,.mv (.t 102)⟩,⟨some 103,none,.ext (.t 97) 0⟩,⟨some 104,none,.ext (.t 97) 1⟩,⟨none,none,(.store 1 (.t 7) (.t 103))⟩,⟨some 13,none,.mv (.t 104)⟩]) (.seq (.reg [⟨some 106,none,.faddr 0 (.t 9)⟩,⟨some 107,none,.load false 1 (.t 106)⟩,⟨some 108,none,.call 77 [(.t 107)]⟩,⟨some 105,none,.mv (.t 108)⟩]) (.cond (.t 105) (.reg [⟨some 110,none,.load true 1 (.t 7)⟩,⟨some 111,none,.faddr 0 (.t 9)⟩,⟨some 112,none,.load false 1 (.t 111)⟩,⟨some 113,none,.load true 2 (.t 11)⟩,⟨some 114,none,.call 78 [(.t 110),(.t 112),(.t 113)]⟩,⟨some 109,none,.mv (.t 114)⟩,⟨some 115,none,.ext (.t 109) 0⟩,⟨some 116,none,.ext (.t 109) 1⟩,⟨none,none,(.store 1 (.t 7) (.t 115))⟩,⟨some 13,none,.mv (.t 116)⟩]) (.seq (.reg [⟨some 118,none,.faddr 0 (.t 11)⟩,⟨some 119,none,.load false 1 (.t 118)⟩,⟨some 120,none,.call 77 [(.t 119)]⟩,⟨some 117,none,.mv (.t 120)⟩]) (.cond (.t 117) (.reg [⟨some 122,none,.load true 1 (.t 7)⟩,⟨some 123,none,.faddr 0 (.t 11)⟩,⟨some 124,none,.load false 1 (.t 123)⟩,⟨some 125,none,.load true 2 (.t 9)⟩,⟨some 126,none,.call 78 [(.t 122),(.t 124),(.t 125)]⟩,⟨some 121,none,.mv (.t 126)⟩,⟨some 127,none,.ext (.t 121) 0⟩,⟨some 128,none,.ext (.t 121) 1⟩,⟨none,none,(.store 1 (.t 7) (.t 127))⟩,⟨some 13,none,.mv (.t 128)⟩]) (.seq (.reg [⟨some 130,none,.faddr 0 (.t 9)⟩,⟨some 131,none,.load false 1 (.t 130)⟩,⟨some 132,none,.faddr 0 (.t 11)⟩,⟨some 133,none,.load false 1 (.t 132)⟩,⟨some 134,none,.bin .neq false (.t 131) (.t 133)⟩,⟨some 135,none,.mv (.t 134)⟩,⟨(some 136),(some (135,false)),(.faddr 1 (.t 9))⟩,⟨(some 137),(some (135,false)),(.load false 1 (.t 136))⟩,⟨(some 138),(some (135,false)),(.len false (.t 137))⟩,⟨(some 139),(some (135,false)),(.faddr 1 (.t 11))⟩,⟨(some 140),(some (135,false)),(.load false 1 (.t 139))⟩,⟨(some 141),(some (135,false)),(.len false (.t 140))⟩,⟨(some 142),(some (135,false)),(.bin .neq false (.t 138) (.t 141))⟩,⟨some 143,none,.pick (.t 135) (.c (.bool true)) (.t 142)⟩,⟨some 129,none,.mv (.t 143)⟩]) (.cond (.t 129) (.seq (.reg [⟨some 144,none,.load true 1 (.t 6)⟩,⟨none,none,(.store 1 (.t 4) (.t 144))⟩,⟨some 5,none,.mv (.c (.bool false))⟩]) .ret) (.seq (.reg [⟨(some 52),none,(.mkrow 97 4 [(.str ⟨#[]⟩),.nil,(.str ⟨#[]⟩),.nil] 0 [])⟩,⟨some 14,none,.mv (.t 52)⟩]) (.seq (.seq (.reg [⟨some 15,none,.mv (.c (.int .i64 0))⟩]) (.block 3 (.loop [0,0,0,0,1,0,1,1,1,1,0,1,0,1,1,1,0,0,0,0,0,0,0,0,0,0,0,0,0,0,0,0,0,0,0,0,0,0,0,0,0,0,0,0,0,0,0,0,0,0,0,0,0,0,0,0,0,0,0,0,0,0,0,0,0,0,0,0,0,0,0,0,0,0,0,0,0,0,0,0,0,0,0,0,0,0,0,0,0,0,0,0,0,0,0,0,0,0,0,0,0,0,0,0,0,0,0,0,0,0,0,0,0,0,0,0,0,0,0,0,0,0,0,0,0,0,0,0,0,0,0,0,0,0,0,0,0,0,0,0,0,0,0,0,0,0,0,0,0] (.seq (.seq (.reg [⟨some 53,none,.mv (.t 15)⟩,⟨some 54,none,.faddr 1 (.t 9)⟩,⟨some 55,none,.load false 1 (.t 54)⟩,⟨some 56,none,.len false (.t 55)⟩,⟨some 57,none,.bin .lss false (.t 53) (.t 56)⟩]) (.cond (.t 57) .skip (.exit 3))) (.seq (.block 4 (.dreg [[],[],[1],[],[2,1,3],[4,2,1,3],[],[6],[],[7,6,8],[9,7,6,8],[5,4,2,1,3,10,9,7,6,8],[11,5,4,2,1,3,10,9,7,6,8],[0,12,11,5,4,2,1,3,10,9,7,6,8],[13,0,12,11,5,4,2,1,3,10,9,7,6,8]] [⟨some 60,none,.mv (.t 14)⟩,⟨some 61,none,.faddr 1 (.t 9)⟩,⟨some 62,none,.load false 1 (.t 61)⟩,⟨some 63,none,.mv (.t 15)⟩,⟨some 64,none,.iaddr 2 (.t 62) (.t 63)⟩,⟨some 65,none,.load true 2 (.t 64)⟩,⟨some 66,none,.faddr 1 (.t 11)⟩,⟨some 67,none,.load false 1 (.t 66)⟩,⟨some 68,none,.mv (.t 15)⟩,⟨some 69,none,.iaddr 2 (.t 67) (.t 68)⟩,⟨some 70,none,.load true 2 (.t 69)⟩,⟨(some 71),none,(.build [(.str ⟨#[]⟩),.nil,(.str ⟨#[]⟩),.nil] [(0,(2,(.t 65))),(2,(2,(.t 70)))])⟩,⟨(some 72),none,(.mkrow 97 4 [(.str ⟨#[]⟩),.nil,(.str ⟨#[]⟩),.nil] 1 [(0,(.t 71))])⟩,⟨(some 73),none,(.append 97 4 80 [(.str ⟨#[]⟩),.nil,(.str ⟨#[]⟩),.nil] (.t 60) (.t 72))⟩,⟨some 14,none,.mv (.t 73)⟩])) (.reg [⟨some 58,none,.mv (.t 15)⟩,⟨some 59,none,.bin .add false (.t 58) (.c (.int .i64 1))⟩,⟨some 15,none,.mv (.t 59)⟩])))))) (.reg [⟨some 74,none,.mv (.t 14)⟩,⟨some 75,none,.mv (.t 8)⟩,⟨(some 76),none,(.append 97 4 80 [(.str ⟨#[]⟩),.nil,(.str ⟨#[]⟩),.nil] (.t 74) (.t 75))⟩,⟨some 8,none,.mv (.t 76)⟩])))))))))))))) (.seq (.reg [⟨some 145,none,.mv (.t 13)⟩,⟨some 146,none,.un .not (.t 145)⟩]) (.cond (.t 146) (.seq (.reg [⟨some 147,none,.load true 1 (.t 6)⟩,⟨none,none,(.store 1 (.t 4) (.t 147))⟩,⟨some 5,none,.mv (.c (.bool false))⟩]) .ret) .skip))))))))))
abbrev u5r:SC:=(.seq (.reg [⟨some 148,none,.load true 1 (.t 7)⟩,⟨none,none,(.store 1 (.t 4) (.t 148))⟩,⟨some 5,none,.mv (.c (.bool true))⟩]) .ret)
def Lh:SC:=(.seq (.reg [⟨some 2,none,.boxv 71 2 (.t 0)⟩,⟨some 3,none,.boxv 71 2 (.t 1)⟩,⟨some 4,none,.alloc 76 [.nil]⟩,⟨some 5,none,.mv (.c (.bool false))⟩]) (.seq (.reg [⟨some 16,none,.build [.nil] []⟩,⟨some 6,none,.alloc 76 [.nil]⟩,⟨none,none,(.store 1 (.t 6) (.t 16))⟩]) (.seq (.reg [⟨some 17,none,.build [.nil] []⟩,⟨some 7,none,.alloc 76 [.nil]⟩,⟨none,none,(.store 1 (.t 7) (.t 17))⟩]) (.seq (.reg [⟨some 18,none,.load true 2 (.t 2)⟩,⟨some 19,none,.load true 2 (.t 3)⟩,⟨(some 20),none,(.build [(.str ⟨#[]⟩),.nil,(.str ⟨#[]⟩),.nil] [(0,(2,(.t 18))),(2,(2,(.t 19)))])⟩,⟨(some 21),none,(.mkrow 97 4 [(.str ⟨#[]⟩),.nil,(.str ⟨#[]⟩),.nil] 1 [(0,(.t 20))])⟩,⟨some 8,none,.mv (.t 21)⟩]) (.seq (.block 0 (.loop [0,0,0,0,1,0,1,1,1,0,0,0,0,0,0,0,0,0,0,0,0,0,0,0,0,0,0,0,0,0,0,0,0,0,0,0,0,0,0,0,0,0,0,0,0,0,0,0,0,0,0,0,0,0,0,0,0,0,0,0,0,0,0,0,0,0,0,0,0,0,0,0,0,0,0,0,0,0,0,0,0,0,0,0,0,0,0,0,0,0,0,0,0,0,0,0,0,0,0,0,0,0,0,0,0,0,0,0,0,0,0,0,0,0,0,0,0,0,0,0,0,0,0,0,0,0,0,0,0,0,0,0,0,0,0,0,0,0,0,0,0,0,0,0,0,0,0,0,0] u5b)) u5r)))))
theorem S3:codeOf Tryz.prog 50=some ⟨149,Lh,[(.cell 4 true 1),(.tmp 5)]⟩:=by kernel_rfl
theorem H7:modes 50=⟨[],.frz,none,false⟩:=by unfold modes; rfl
abbrev u5H:Nat × Bool × Bool × Sb × List (Tm × Tm)→St:=fun a=>⟨slots 149 0 [(4,.ptr 0 0),(6,.ptr 1 0),(7,.ptr 2 0),(8,(bif a.2.2.1 then .ref 3 else .arr (a.2.2.2.2.map eqD)))],([.box 76 [.nil],.box 76 [.nil],.box 76 [bif a.2.1 then .nil else .arr (a.2.2.2.1.binds.map Bd.d)]]++(bif a.2.2.1 then [.row 97 4 (a.2.2.2.2.map eqO)] else []))⟩
abbrev u5R (total:Option Sb):Nat × Bool × Bool × Sb × List (Tm × Tm)→Prop:=fun a=>uInv a.2.2.2.1 a.2.2.2.2∧BM a.1 a.2.2.2.1 a.2.2.2.2=some total∧(a.2.1=true→a.2.2.2.1.binds=[])
abbrev u5K (total:Option Sb):X→St→Prop:=blk 0 (Rn 0 u5r (SJ .frz 0 [(.cell 4 true 1),(.tmp 5)] (.tup [.agg [.arr ((uTo total).binds.map Bd.d)],.bool (uOk total)],[])))
abbrev Li:List Nat:=[0,0,0,0,1,0,1,1,1,0,0,0,0,0,0,0,0,0,0,0,0,0,0,0,0,0,0,0,0,0,0,0,0,0,0,0,0,0,0,0,0,0,0,0,0,0,0,0,0,0,0,0,0,0,0,0,0,0,0,0,0,0,0,0,0,0,0,0,0,0,0,0,0,0,0,0,0,0,0,0,0,0,0,0,0,0,0,0,0,0,0,0,0,0,0,0,0,0,0,0,0,0,0,0,0,0,0,0,0,0,0,0,0,0,0,0,0,0,0,0,0,0,0,0,0,0,0,0,0,0,0,0,0,0,0,0,0,0,0,0,0,0,0,0,0,0,0,0,0]
end Go.Proofs.YtibdknkacmimgaaGreatDoor
