/-
  Texts of this claim, one behind the other, each built on those ahead of it. No condition.
-/
import Derived.Test.YtkmenhhapfombaaGreatK29c
set_option maxHeartbeats 16000000
open Bool renaming false_and → zA, true_and → zD, and_eq_true → zM, and_false → zY, false_or → z7, and_true → yB, false_beq → yE, and_self → yG, true_beq → yH
open List renaming drop_eq_getElem_cons → zB, drop_eq_nil_of_le → zF, getElem_mem → zG, map_nil → zH, drop_zero → zJ, take_succ_eq_append_getElem → zL, take_zero → zN, length_map → zO, map_cons → zP, eq_nil_of_length_eq_zero → zQ, map_append → zR, length_nil → zS, length_take → zT, take_of_length_le → zU, nil_append → zV, getD_eq_getElem?_getD → zW, getElem?_eq_getElem → zX, map_map → zZ, append_nil → z6, all_eq_true → z8, take_length → yA, all_map → yC, append_assoc → yF, getElem_map → yJ, mem_map → yK
open Nat renaming lt_or_ge → zC, eq_zero_or_pos → zI, zero_le → zK, le_refl → yD
open Int renaming toNat_zero → zE, natCast_zero → yI
set_option maxRecDepth 100000
set_option linter.unusedSimpArgs false
set_option linter.unusedVariables false
set_option linter.unusedSectionVars false
namespace Go.Proofs.YtkmenhhapfombaaGreat
open Go.RowKit
theorem F6 {a b:Int} (h:0≤a) (k:0<b):0≤a.tmod b∧a.tmod b<b:=⟨Int.tmod_nonneg b h,Int.tmod_lt_of_pos a k⟩
theorem Uy {a:Int} (h:0≤a):0≤a.tdiv 3∧a.tdiv 3≤a:=by
 rw [Int.tdiv_eq_ediv_of_nonneg h]; omega
theorem Mk (s:ByteArray) (k:Nat):0≤D0 s k∧D0 s k≤255:=by
 unfold D0
 have:=((s[k]?).getD 0).toNat_lt
 omega
theorem J0 (s:ByteArray):∀ k,0≤Er s k∧Er s k<65521
 | 0=>by rw [Er]; omega
 | k+1=>by
  have:=J0 s k
  have hb:=Mk s k
  rw [Er]
  exact F6 (by omega) (by omega)
theorem Uz {vs:List Int} (hv:∀ v∈vs,0≤v∧v≤65535) (k:Nat):0≤vs.getD k 0∧vs.getD k 0≤65535:=by
 rw [zW]
 cases h:vs[k]? with
 | none=>exact ⟨by simp,by simp⟩
 | some v=>exact hv v (List.mem_of_getElem? h)
theorem Ml {h:Int} {vs:List Int} (hh:0≤h∧h<65521) (hv:∀ v∈vs,0≤v∧v≤65535):∀ k,0≤Gz h vs k∧Gz h vs k<65521
 | 0=>hh
 | k+1=>by
  have:=Ml hh hv k
  have hb:=Uz hv k
  rw [Gz]
  exact F6 (by omega) (by omega)
theorem F7 {l:List Int} (hl:Bytes l) {i:Int} (h:0≤i):0≤Dg l i∧Dg l i≤255:=by
 unfold Dg
 by_cases hc:i<l.length
 ·rw [if_pos hc,zW,zX (by omega)]
  exact hl _ (zG _)
 ·rw [if_neg hc]
  have:=F6 (show 0≤i*7+(l.length:Int) by omega) (show (0:Int)<256 by omega)
  omega
theorem U0 {l:List Int} (hl:Bytes l) (nm:ByteArray) {vs:List Int} (hv:∀ v∈vs,0≤v∧v≤65535):0≤O1 l nm vs∧O1 l nm vs≤100000:=by
 have h1:=Ml (J0 nm nm.size) hv vs.length
 unfold O1
 generalize Gz (Er nm nm.size) vs vs.length=h at *
 have a1:=F6 h1.1 (show (0:Int)<53 by omega)
 have a2:=F6 h1.1 (show (0:Int)<89 by omega)
 have b1:=F7 hl a1.1
 have b2:=F7 hl a2.1
 have c:=Uy (show 0≤h+13*Dg l (h.tmod 53)+Dg l (h.tmod 89) by omega)
 omega
abbrev Ev:=List (ByteArray × Int)
noncomputable def Ck (e:Ev):ByteArray→Int:=e.foldl (fun E p=>upE E p.1 p.2) fun _=>0
theorem Ia (e:Ev) (n:ByteArray) (v:Int):Ck (e++[(n,v)])=upE (Ck e) n v:=by unfold Ck; rw [List.foldl_append]; rfl
theorem Xm (e:Ev) (p:ByteArray × Int):Ck (e++[p])=upE (Ck e) p.1 p.2:=Ia e p.1 p.2
def EnvOk (e:Ev):Prop:=∀ p∈e,0≤p.2∧p.2≤65535
theorem Mm:∀ (e:Ev),EnvOk e→∀ m,0≤Ck e m∧Ck e m≤65535:=by
 intro e h
 have key:∀ (e:Ev) (E:ByteArray→Int),EnvOk e→(∀ m,0≤E m∧E m≤65535)→∀ m,0≤(e.foldl (fun E p=>upE E p.1 p.2) E) m∧(e.foldl (fun E p=>upE E p.1 p.2) E) m≤65535:=by
  intro e
  induction e with
  | nil=>intro E _ h; exact h
  | cons p e ih =>
   intro E he h
   refine ih _ (fun q hq=>he q (by simp [hq])) fun m=>?_
   show 0≤upE E p.1 p.2 m∧upE E p.1 p.2 m≤65535
   unfold upE
   cases dec (m=p.1) with
   | true=>exact he p (by simp)
   | false=>exact h m
 exact key e _ h fun _=>by omega
theorem EnvOk.snoc {e:Ev} (h:EnvOk e) {n:ByteArray} {v:Int} (h0:0≤v) (h1:v≤65535):EnvOk (e++[(n,v)]):=by
 intro p hp
 rcases List.mem_append.1 hp with hp | hp
 ·exact h p hp
 ·simp only [List.mem_singleton] at hp
  subst hp
  exact ⟨h0,h1⟩
theorem Tm.KQ {l:List Int} (hl:Bytes l) {n:Int} (hn:1≤n∧n≤65535) {E:ByteArray→Int} (hE:∀ m,0≤E m∧E m≤65535) (x:Tm):0≤x.val l n E∧x.val l n E≤65535:=by
 have ih:∀ y∈x.args,0≤y.val l n E∧y.val l n E≤65535:=fun y hy=>Tm.KQ hl hn hE y
 rw [Tm.IS]
 cases Bs x.name with
 | true=>exact hE _
 | false =>
  have h:=U0 hl x.name (vs:=x.args.map (Tm.val l n E)) fun v hv=>by
   obtain ⟨y,hy,rfl⟩:=yK.1 hv
   exact ih y hy
  have:=F6 h.1 (show 0<n by omega)
  rw [cond_false]
  omega
termination_by SizeOf.sizeOf x
decreasing_by exact Tm.lt_of_mem hy
abbrev nmD (p:ByteArray × Int):List D:=[D.str p.1]
abbrev viD (p:ByteArray × Int):List D:=[D.int p.2]
abbrev veS (e:Ev):SV:=.agg [.arr (e.map nmD),.arr (e.map viD)]
theorem U1 (e:Ev) (n:ByteArray) (v:Int):veS (e++[(n,v)])=.agg [.arr (e.map nmD++[[D.str n]]),.arr (e.map viD++[[D.int v]])]:=by
 unfold veS
 rw [zR,zR]
 rfl
theorem Wj (e:Ev):((e.map nmD).all fun e=>e.length == 1)=true:=by rw [yC,z8]; intro x _; rfl
theorem U2 (e:Ev):(((e.map nmD).map (·.map D.ot)).all fun e=>e.length == 1)=true:=by rw [yC,yC,z8]; intro x _; rfl
theorem Xn (e:Ev):OT.erss ((e.map nmD).map (·.map D.ot))=e.map nmD:=by
 rw [OT.E6,zZ,zZ]
 exact List.map_congr_left fun b _=>rfl
theorem U3 (e:Ev):OT.AH ((e.map nmD).map (·.map D.ot))=true:=by
 induction e with
 | nil=>rfl
 | cons x xs ih=>simp only [zP,OT.AH,ih]; rfl
theorem Wk (e:Ev):((e.map viD).all fun e=>e.length == 1)=true:=by rw [yC,z8]; intro x _; rfl
theorem U4 (e:Ev):(((e.map viD).map (·.map D.ot)).all fun e=>e.length == 1)=true:=by rw [yC,yC,z8]; intro x _; rfl
theorem Xo (e:Ev):OT.erss ((e.map viD).map (·.map D.ot))=e.map viD:=by
 rw [OT.E6,zZ,zZ]
 exact List.map_congr_left fun b _=>rfl
theorem U5 (e:Ev):OT.AH ((e.map viD).map (·.map D.ot))=true:=by
 induction e with
 | nil=>rfl
 | cons x xs ih=>simp only [zP,OT.AH,ih]; rfl
def Hd:SC:=(.seq (.reg [⟨some 2,none,.boxv 37 2 (.t 0)⟩,⟨some 4,none,.mv (.c (.int .i64 0))⟩]) (.seq (.seq (.reg [⟨some 6,none,.faddr 0 (.t 2)⟩,⟨some 7,none,.load false 1 (.t 6)⟩,⟨some 8,none,.len false (.t 7)⟩,⟨some 9,none,.bin .sub false (.t 8) (.c (.int .i64 1))⟩,⟨some 5,none,.mv (.t 9)⟩]) (.block 0 (.loop [0,1,1,0,0,1,0,0,0,0,0,0,0,0,0,0,0,0,0,0,0,0,0,0,0,0] (.seq (.seq (.reg [⟨some 10,none,.mv (.t 5)⟩,⟨some 11,none,.bin .geq false (.t 10) (.c (.int .i64 0))⟩]) (.cond (.t 11) .skip (.exit 0))) (.seq (.block 1 (.seq (.reg [⟨some 14,none,.faddr 0 (.t 2)⟩,⟨some 15,none,.load false 1 (.t 14)⟩,⟨some 16,none,.mv (.t 5)⟩,⟨some 17,none,.iaddr 1 (.t 15) (.t 16)⟩,⟨some 18,none,.load false 1 (.t 17)⟩,⟨some 19,none,.mv (.t 1)⟩,⟨some 20,none,.bin .eql false (.t 18) (.t 19)⟩]) (.cond (.t 20) (.seq (.reg [⟨some 21,none,.faddr 1 (.t 2)⟩,⟨some 22,none,.load false 1 (.t 21)⟩,⟨some 23,none,.mv (.t 5)⟩,⟨some 24,none,.iaddr 1 (.t 22) (.t 23)⟩,⟨some 25,none,.load false 1 (.t 24)⟩,⟨some 4,none,.mv (.t 25)⟩]) .ret) .skip))) (.reg [⟨some 12,none,.mv (.t 5)⟩,⟨some 13,none,.bin .sub false (.t 12) (.c (.int .i64 1))⟩,⟨some 5,none,.mv (.t 13)⟩])))))) (.seq (.reg [⟨some 4,none,.mv (.c (.int .i64 0))⟩]) .ret)))
theorem KD:Ar Tryz.prog 25=some ⟨26,Hd,[(.tmp 4)]⟩:=by kernel_rfl
theorem He:modes 25=⟨[],.asis,none,false⟩:=by unfold modes; rfl
def G1:SC:=(.seq (.reg [⟨some 3,none,.boxv 37 2 (.t 0)⟩,⟨some 6,none,.alloc 37 [.nil,.nil]⟩]) (.seq (.dreg [[],[],[1],[0,2,1],[],[4],[3,0,2,1,5,4],[],[],[8],[7,9,8,6,3,0,2,1,5,4],[],[11],[10,7,9,8,6,3,0,2,1,5,4,12,11],[6,3,0,2,1,5,4,13,10,7,9,8,12,11],[14,6,3,0,2,1,5,4,13,10,7,9,8,12,11]] [⟨(some 7),none,(.mkrow 9 1 [(.str ⟨#[]⟩)] 0 [])⟩,⟨some 8,none,.faddr 0 (.t 3)⟩,⟨some 9,none,.load false 1 (.t 8)⟩,⟨(some 10),none,(.append 9 1 16 [(.str ⟨#[]⟩)] (.t 7) (.t 9))⟩,⟨some 11,none,.mv (.t 1)⟩,⟨(some 12),none,(.mkrow 9 1 [(.str ⟨#[]⟩)] 1 [(0,(.t 11))])⟩,⟨(some 13),none,(.append 9 1 16 [(.str ⟨#[]⟩)] (.t 10) (.t 12))⟩,⟨some 14,none,.mkrow 3 1 [(.int .i64 0)] 0 []⟩,⟨some 15,none,.faddr 1 (.t 3)⟩,⟨some 16,none,.load false 1 (.t 15)⟩,⟨some 17,none,.append 3 1 8 [(.int .i64 0)] (.t 14) (.t 16)⟩,⟨some 18,none,.mv (.t 2)⟩,⟨some 19,none,.mkrow 3 1 [(.int .i64 0)] 1 [(0,(.t 18))]⟩,⟨some 20,none,.append 3 1 8 [(.int .i64 0)] (.t 17) (.t 19)⟩,⟨some 21,none,.build [.nil,.nil] [(0,(1,(.t 13))),(1,(1,(.t 20)))]⟩,⟨none,none,(.store 2 (.t 6) (.t 21))⟩]) .ret))
theorem JX:Ar Tryz.prog 8=some ⟨22,G1,[(.cell 6 true 2)]⟩:=by kernel_rfl
theorem Bv:modes 8=⟨[],.frz,none,false⟩:=by unfold modes; rfl
def IV:SC:=(.seq (.reg [⟨some 4,none,.mv (.c (.int .i64 0))⟩]) (.seq (.seq (.reg [⟨some 5,none,.mv (.t 1)⟩,⟨some 6,none,.mv (.t 0)⟩,⟨some 7,none,.len false (.t 6)⟩,⟨some 8,none,.bin .lss false (.t 5) (.t 7)⟩]) (.cond (.t 8) (.seq (.reg [⟨some 9,none,.mv (.t 0)⟩,⟨some 10,none,.mv (.t 1)⟩,⟨some 11,none,.iaddr 1 (.t 9) (.t 10)⟩,⟨some 12,none,.load false 1 (.t 11)⟩,⟨some 13,none,.conv .i64 (.t 12)⟩,⟨some 4,none,.mv (.t 13)⟩]) .ret) .skip)) (.seq (.reg [⟨some 14,none,.mv (.t 1)⟩,⟨some 15,none,.bin .mul false (.t 14) (.c (.int .i64 7))⟩,⟨some 16,none,.mv (.t 0)⟩,⟨some 17,none,.len false (.t 16)⟩,⟨some 18,none,.bin .add false (.t 15) (.t 17)⟩,⟨some 19,none,.bin .rem false (.t 18) (.c (.int .i64 256))⟩,⟨some 4,none,.mv (.t 19)⟩]) .ret)))
theorem Mn:Ar Tryz.prog 9=some ⟨20,IV,[(.tmp 4)]⟩:=by kernel_rfl
theorem Dr:modes 9=⟨[],.asis,none,false⟩:=by unfold modes; rfl
def K2:SC:=(.seq (.reg [⟨some 6,none,.mv (.c (.int .i64 0))⟩]) (.seq (.reg [⟨some 7,none,.mv (.c (.int .i64 17))⟩]) (.seq (.seq (.reg [⟨some 8,none,.mv (.c (.int .i64 0))⟩]) (.block 0 (.loop [1,1,1,0,0,0,0,1,1,0,0,0,0,0,0,0,0,0,0,0,0,0,0,0,0,0,0,0,0,0,0,0,0,0,0,0,0,0,0,0,0,0,0,0,0,0,0,0,0,0,0,0] (.seq (.seq (.reg [⟨some 10,none,.mv (.t 8)⟩,⟨some 11,none,.mv (.t 1)⟩,⟨some 12,none,.len true (.t 11)⟩,⟨some 13,none,.bin .lss false (.t 10) (.t 12)⟩]) (.cond (.t 13) .skip (.exit 0))) (.seq (.block 1 (.reg [⟨some 16,none,.mv (.t 7)⟩,⟨some 17,none,.bin .mul false (.c (.int .i64 31)) (.t 16)⟩,⟨some 18,none,.mv (.t 1)⟩,⟨some 19,none,.mv (.t 8)⟩,⟨some 20,none,.idx (.t 18) (.t 19)⟩,⟨some 21,none,.conv .i64 (.t 20)⟩,⟨some 22,none,.bin .add false (.t 17) (.t 21)⟩,⟨some 23,none,.bin .rem false (.t 22) (.c (.int .i64 65521))⟩,⟨some 7,none,.mv (.t 23)⟩])) (.reg [⟨some 14,none,.mv (.t 8)⟩,⟨some 15,none,.bin .add false (.t 14) (.c (.int .i64 1))⟩,⟨some 8,none,.mv (.t 15)⟩])))))) (.seq (.seq (.reg [⟨some 9,none,.mv (.c (.int .i64 0))⟩]) (.block 2 (.loop [1,0,1,0,0,0,0,1,0,1,0,0,0,0,0,0,0,0,0,0,0,0,0,0,0,0,0,0,0,0,0,0,0,0,0,0,0,0,0,0,0,0,0,0,0,0,0,0,0,0,0,0] (.seq (.seq (.reg [⟨some 24,none,.mv (.t 9)⟩,⟨some 25,none,.mv (.t 2)⟩,⟨some 26,none,.len false (.t 25)⟩,⟨some 27,none,.bin .lss false (.t 24) (.t 26)⟩]) (.cond (.t 27) .skip (.exit 2))) (.seq (.block 3 (.reg [⟨some 30,none,.mv (.t 7)⟩,⟨some 31,none,.bin .mul false (.c (.int .i64 37)) (.t 30)⟩,⟨some 32,none,.mv (.t 2)⟩,⟨some 33,none,.mv (.t 9)⟩,⟨some 34,none,.iaddr 1 (.t 32) (.t 33)⟩,⟨some 35,none,.load false 1 (.t 34)⟩,⟨some 36,none,.bin .add false (.t 31) (.t 35)⟩,⟨some 37,none,.bin .add false (.t 36) (.c (.int .i64 1))⟩,⟨some 38,none,.bin .rem false (.t 37) (.c (.int .i64 65521))⟩,⟨some 7,none,.mv (.t 38)⟩])) (.reg [⟨some 28,none,.mv (.t 9)⟩,⟨some 29,none,.bin .add false (.t 28) (.c (.int .i64 1))⟩,⟨some 9,none,.mv (.t 29)⟩])))))) (.seq (.reg [⟨some 39,none,.mv (.t 7)⟩,⟨some 40,none,.mv (.t 0)⟩,⟨some 41,none,.mv (.t 7)⟩,⟨some 42,none,.bin .rem false (.t 41) (.c (.int .i64 53))⟩,⟨some 43,none,.call 9 [(.t 40),(.t 42)]⟩,⟨some 44,none,.bin .mul false (.c (.int .i64 13)) (.t 43)⟩,⟨some 45,none,.bin .add false (.t 39) (.t 44)⟩,⟨some 46,none,.mv (.t 0)⟩,⟨some 47,none,.mv (.t 7)⟩,⟨some 48,none,.bin .rem false (.t 47) (.c (.int .i64 89))⟩,⟨some 49,none,.call 9 [(.t 46),(.t 48)]⟩,⟨some 50,none,.bin .add false (.t 45) (.t 49)⟩,⟨some 51,none,.bin .quo false (.t 50) (.c (.int .i64 3))⟩,⟨some 6,none,.mv (.t 51)⟩]) .ret)))))
theorem PN:Ar Tryz.prog 26=some ⟨52,K2,[(.tmp 6)]⟩:=by kernel_rfl
theorem DK:modes 26=⟨[],.asis,none,false⟩:=by unfold modes; rfl
def D9:SC:=(.seq (.reg [⟨some 6,none,.boxv 37 2 (.t 2)⟩,⟨some 7,none,.boxv 26 2 (.t 3)⟩,⟨some 8,none,.mv (.c (.int .i64 0))⟩]) (.seq (.seq (.reg [⟨some 11,none,.faddr 1 (.t 7)⟩,⟨some 12,none,.load false 1 (.t 11)⟩,⟨some 13,none,.len false (.t 12)⟩,⟨some 14,none,.bin .eql false (.t 13) (.c (.int .i64 0))⟩,⟨some 15,none,.mv (.t 14)⟩,⟨(some 16),(some (15,true)),(.faddr 0 (.t 7))⟩,⟨(some 17),(some (15,true)),(.load false 1 (.t 16))⟩,⟨(some 18),(some (15,true)),(.len true (.t 17))⟩,⟨(some 19),(some (15,true)),(.bin .gtr false (.t 18) (.c (.int .i64 0)))⟩,⟨some 20,none,.pick (.t 15) (.t 19) (.c (.bool false))⟩,⟨some 21,none,.mv (.t 20)⟩,⟨(some 22),(some (21,true)),(.faddr 0 (.t 7))⟩,⟨(some 23),(some (21,true)),(.load false 1 (.t 22))⟩,⟨(some 24),(some (21,true)),(.idx (.t 23) (.c (.int .i64 0)))⟩,⟨(some 25),(some (21,true)),(.bin .geq false (.t 24) (.c (.int .u8 65)))⟩,⟨some 26,none,.pick (.t 21) (.t 25) (.c (.bool false))⟩,⟨some 27,none,.mv (.t 26)⟩,⟨(some 28),(some (27,true)),(.faddr 0 (.t 7))⟩,⟨(some 29),(some (27,true)),(.load false 1 (.t 28))⟩,⟨(some 30),(some (27,true)),(.idx (.t 29) (.c (.int .i64 0)))⟩,⟨(some 31),(some (27,true)),(.bin .leq false (.t 30) (.c (.int .u8 90)))⟩,⟨some 32,none,.pick (.t 27) (.t 31) (.c (.bool false))⟩]) (.cond (.t 32) (.seq (.reg [⟨some 33,none,.load true 2 (.t 6)⟩,⟨some 34,none,.faddr 0 (.t 7)⟩,⟨some 35,none,.load false 1 (.t 34)⟩,⟨some 36,none,.call 25 [(.t 33),(.t 35)]⟩,⟨some 8,none,.mv (.t 36)⟩]) .ret) .skip)) (.seq (.reg [⟨some 37,none,.mkrow 3 1 [(.int .i64 0)] 0 []⟩,⟨some 9,none,.mv (.t 37)⟩]) (.seq (.seq (.reg [⟨some 10,none,.mv (.c (.int .i64 0))⟩]) (.block 0 (.loop [1,1,0,0,0,0,1,1,0,1,1,0,0,0,0,0,0,0,0,0,0,0,0,0,0,0,0,0,0,0,0,0,0,0,0,0,0,0,0,0,0,0,0,0,0,0,0,0,0,0,0,0,0,0,0,0,0,0,0,0,0,0,0,0] (.seq (.seq (.reg [⟨some 38,none,.mv (.t 10)⟩,⟨some 39,none,.faddr 1 (.t 7)⟩,⟨some 40,none,.load false 1 (.t 39)⟩,⟨some 41,none,.len false (.t 40)⟩,⟨some 42,none,.bin .lss false (.t 38) (.t 41)⟩]) (.cond (.t 42) .skip (.exit 0))) (.seq (.block 1 (.dreg [[],[],[],[],[],[4],[],[5,4,6],[7,5,4,6],[1,2,3,8,7,5,4,6],[9,1,2,3,8,7,5,4,6],[0,10,9,1,2,3,8,7,5,4,6],[11,0,10,9,1,2,3,8,7,5,4,6]] [⟨some 45,none,.mv (.t 9)⟩,⟨some 46,none,.mv (.t 0)⟩,⟨some 47,none,.mv (.t 1)⟩,⟨some 48,none,.load true 2 (.t 6)⟩,⟨some 49,none,.faddr 1 (.t 7)⟩,⟨some 50,none,.load false 1 (.t 49)⟩,⟨some 51,none,.mv (.t 10)⟩,⟨some 52,none,.iaddr 2 (.t 50) (.t 51)⟩,⟨some 53,none,.load true 2 (.t 52)⟩,⟨some 54,none,.call 11 [(.t 46),(.t 47),(.t 48),(.t 53)]⟩,⟨some 55,none,.mkrow 3 1 [(.int .i64 0)] 1 [(0,(.t 54))]⟩,⟨some 56,none,.append 3 1 8 [(.int .i64 0)] (.t 45) (.t 55)⟩,⟨some 9,none,.mv (.t 56)⟩])) (.reg [⟨some 43,none,.mv (.t 10)⟩,⟨some 44,none,.bin .add false (.t 43) (.c (.int .i64 1))⟩,⟨some 10,none,.mv (.t 44)⟩])))))) (.seq (.reg [⟨some 57,none,.mv (.t 0)⟩,⟨some 58,none,.faddr 0 (.t 7)⟩,⟨some 59,none,.load false 1 (.t 58)⟩,⟨some 60,none,.mv (.t 9)⟩,⟨some 61,none,.call 26 [(.t 57),(.t 59),(.t 60)]⟩,⟨some 62,none,.mv (.t 1)⟩,⟨some 63,none,.bin .rem false (.t 61) (.t 62)⟩,⟨some 8,none,.mv (.t 63)⟩]) .ret)))))
theorem E1:Ar Tryz.prog 11=some ⟨64,D9,[(.tmp 8)]⟩:=by kernel_rfl
theorem Bw:modes 11=⟨[],.asis,none,false⟩:=by unfold modes; rfl
theorem JY (e:Ev) (he:e.length≤1099511627776) (n:ByteArray) (v:Int):E 8 [veS e,.str n,.int .i64 v] []=some (veS (e++[(n,v)]),[]):=by
 rw [U1]
 refine Ai JX Bv (of_decide_eq_true rfl) ?_
 simp (disch:=omega) only [G1,go_sem,Ab,Wj,U2,Xn,U3,Wk,U4,Xo,U5]
theorem XE (e:Ev) (hl:e.length≤1099511627776) (s:ByteArray):E 25 [veS e,.str s] []=some (.int .i64 (Ck e s),[]):=by
 refine Ai KD He (of_decide_eq_true rfl) ?_
 simp (disch:=omega) only [Hd,go_sem,Ab]
 refine go_loop (α:=Int) (fun i=>⟨slots 26 0 [(1,.str s),(2,.ptr 0 0),(5,.int .i64 i)],[.box 37 [.arr (e.map nmD),.arr (e.map viD)]]⟩) (fun i=>∃ k:Nat,i=(k:Int)-1∧k≤e.length∧Ck (e.take k) s=Ck e s) (fun i=>(i+1).toNat) ((e.length:Int)-1) ⟨e.length,rfl,yD _,by rw [yA]⟩ (by simp (disch:=omega) only [go_sem,Ab]) ?_
 rintro i ⟨k0,hi,hk,hR⟩
 rcases zI k0 with h0 | h0
 ·subst h0
  obtain rfl:i=-1:=by omega
  have hR:(0:Int)=Ck e s:=hR
  rw [←hR]
  simp (disch:=omega) only [go_sem,Ab]
 ·obtain ⟨k,rfl⟩:∃ k,k0=k+1:=⟨k0-1,by omega⟩
  have hlt:k<e.length:=by omega
  have hni:i.toNat=k:=by omega
  have hg:=get_at nmD hlt
  have hgv:=get_at viD hlt
  rw [zL hlt,Xm] at hR
  cases hd:dec (e[k].1=s) with
  | true =>
   have hds:=Av.1 hd
   have hdv:Ck e s=e[k].2:=by
    rw [←hR,← hds,ED]
   rw [hdv]
   simp (disch:=omega) only [go_sem,Ab,hni,hg,hgv,hd]
  | false =>
   have hds:=DE.1 hd
   rw [Cz (fun h=>hds h.symm)] at hR
   simp (disch:=omega) only [go_sem,Ab,hni,hg,hgv,hd]
   exact ⟨i-1,⟨k,by omega,by omega,hR⟩,by omega,by first | trivial | rfl | exact ⟨rfl,rfl⟩⟩
theorem PO (l:List Int) (hl:Bytes l) (hn:l.length≤1099511627776) (i:Int) (h0:0≤i) (h1:i≤100):E 9 [.arr (l.map by_),.int .i64 i] []=some (.int .i64 (Dg l i),[]):=by
 by_cases hlt:i<l.length
 ·have hg:=get_at by_ (show i.toNat<l.length by omega)
  have hb:=hl _ (zG (show i.toNat<l.length by omega))
  have hi:dec (inK .i64 l[i.toNat])=true:=BA (by omega) (by omega)
  have q1:(i<(l.length:Int))=True:=eq_true (by omega)
  have hz:Dg l i=l[i.toNat]:=by
   unfold Dg
   rw [if_pos hlt,zW,zX (by omega)]; rfl
  rw [hz]
  refine Ai Mn Dr (of_decide_eq_true rfl) ?_
  simp (disch:=omega) only [IV,go_sem,Ab,q1,hg,hi]
 ·have q1:(i<(l.length:Int))=False:=eq_false (by omega)
  have q2:((256:Int)=0)=False:=eq_false (by omega)
  have hz:Dg l i=(i*7+l.length).tmod 256:=by
   unfold Dg
   rw [if_neg hlt]
  have hi:dec (inK .i64 (i*7))=true:=BA (by omega) (by omega)
  have hi2:dec (inK .i64 (i*7+l.length))=true:=BA (by omega) (by omega)
  rw [hz]
  refine Ai Mn Dr (of_decide_eq_true rfl) ?_
  simp (disch:=omega) only [IV,go_sem,Ab,q1,q2,hi,hi2]
theorem U6 (l:List Int) (hl:Bytes l) (hn:l.length≤1099511627776) (nm:ByteArray) (hm:nm.size≤1048576) (vs:List Int) (hvl:vs.length≤1048576) (hv:∀ v∈vs,0≤v∧v≤65535):E 26 [.arr (l.map by_),.str nm,.arr (vs.map iD)] []=some (.int .i64 (O1 l nm vs),[]):=by
 have m0:Er nm 0=17:=rfl
 have z1:((65521:Int)=0)=False:=eq_false (by omega)
 refine Ai PN DK (of_decide_eq_true rfl) ?_
 simp (disch:=omega) only [K2,go_sem,Ab]
 refine go_loop (α:=Nat) (fun k=>⟨slots 52 0 [(0,.arr (l.map by_)),(1,.str nm),(2,.arr (vs.map iD)),(7,.int .i64 (Er nm k)),(8,.int .i64 ((k:Nat):Int))],[]⟩) (fun k=>k≤nm.size) (fun k=>nm.size-k) 0 (zK _) (by simp (disch:=omega) only [go_sem,Ab,m0,yI]) ?_
 intro k hk
 rcases zC k nm.size with hlt | hge
 ·have q1:((k:Int)<(nm.size:Int))=True:=eq_true (by omega)
  have hr:=J0 nm k
  have hb:=Mk nm k
  have e1:Er nm (k+1)=(31*Er nm k+D0 nm k).tmod 65521:=rfl
  have i1:dec (inK .i64 (31*Er nm k))=true:=BA (by omega) (by omega)
  have i2:dec (inK .i64 (31*Er nm k+D0 nm k))=true:=BA (by omega) (by omega)
  have i3:dec (inK .i64 (D0 nm k))=true:=BA (by omega) (by omega)
  simp (disch:=omega) only [go_sem,Ab,q1,z1,i1,i2,i3]
  refine ⟨k+1,hlt,by omega,?_⟩
  rw [e1]
  first | rfl | exact ⟨rfl,rfl⟩
 ·obtain rfl:k=nm.size:=by omega
  have q1:((nm.size:Int)<(nm.size:Int))=False:=eq_false (by omega)
  have v0:Gz (Er nm nm.size) vs 0=Er nm nm.size:=rfl
  have hh:=J0 nm nm.size
  simp (disch:=omega) only [go_sem,Ab,q1]
  refine go_loop (α:=Nat) (fun k=>⟨slots 52 0 [(0,.arr (l.map by_)),(2,.arr (vs.map iD)),(7,.int .i64 (Gz (Er nm nm.size) vs k)),(9,.int .i64 ((k:Nat):Int))],[]⟩) (fun k=>k≤vs.length) (fun k=>vs.length-k) 0 (zK _) (by simp (disch:=omega) only [go_sem,Ab,v0,yI]) ?_
  intro k hk
  have hr:=Ml hh hv k
  rcases zC k vs.length with hlt | hge
  ·have q1:((k:Int)<(vs.length:Int))=True:=eq_true (by omega)
   have hg:=get_at iD hlt
   have hb:=hv _ (zG hlt)
   have e1:Gz (Er nm nm.size) vs (k+1)=(37*Gz (Er nm nm.size) vs k+vs[k]+1).tmod 65521:=by
    rw [Gz,zW,zX hlt]; rfl
   have i1:dec (inK .i64 (37*Gz (Er nm nm.size) vs k))=true:=BA (by omega) (by omega)
   have i2:dec (inK .i64 (37*Gz (Er nm nm.size) vs k+vs[k]))=true:=BA (by omega) (by omega)
   have i3:dec (inK .i64 (37*Gz (Er nm nm.size) vs k+vs[k]+1))=true:=BA (by omega) (by omega)
   simp (disch:=omega) only [go_sem,Ab,q1,z1,hg,i1,i2,i3]
   refine ⟨k+1,hlt,by omega,?_⟩
   rw [e1]
   first | rfl | exact ⟨rfl,rfl⟩
  ·obtain rfl:k=vs.length:=by omega
   have q1:((vs.length:Int)<(vs.length:Int))=False:=eq_false (by omega)
   have hz:O1 l nm vs=(Gz (Er nm nm.size) vs vs.length+13*Dg l ((Gz (Er nm nm.size) vs vs.length).tmod 53)+Dg l ((Gz (Er nm nm.size) vs vs.length).tmod 89)).tdiv 3:=rfl
   rw [hz]
   generalize Gz (Er nm nm.size) vs vs.length=h at *
   have a1:=F6 hr.1 (show (0:Int)<53 by omega)
   have a2:=F6 hr.1 (show (0:Int)<89 by omega)
   have b1:=F7 hl a1.1
   have b2:=F7 hl a2.1
   have c1:=PO l hl hn (h.tmod 53) (by omega) (by omega)
   have c2:=PO l hl hn (h.tmod 89) (by omega) (by omega)
   have c:=Uy (show 0≤h+13*Dg l (h.tmod 53)+Dg l (h.tmod 89) by omega)
   have z2:((53:Int)=0)=False:=eq_false (by omega)
   have z3:((89:Int)=0)=False:=eq_false (by omega)
   have z4:((3:Int)=0)=False:=eq_false (by omega)
   have i1:dec (inK .i64 (13*Dg l (h.tmod 53)))=true:=BA (by omega) (by omega)
   have i2:dec (inK .i64 (h+13*Dg l (h.tmod 53)))=true:=BA (by omega) (by omega)
   have i3:dec (inK .i64 (h+13*Dg l (h.tmod 53)+Dg l (h.tmod 89)))=true:=BA (by omega) (by omega)
   have i4:dec (inK .i64 ((h+13*Dg l (h.tmod 53)+Dg l (h.tmod 89)).tdiv 3))=true:=BA (by omega) (by omega)
   simp (disch:=omega) only [go_sem,Ab,q1,z2,z3,z4,c1,c2,i1,i2,i3,i4,Dr]
theorem SM (l:List Int) (hl:Bytes l) (hn:l.length≤1099511627776) (n:Int) (hn0:1≤n∧n≤65535) (e:Ev) (he:e.length≤1099511627776) (hE:EnvOk e) (x:Tm) (hx:x.names=true) (hxn:x.nodes≤1048576) (ih:∀ y∈x.args,E 11 [.arr (l.map by_),.int .i64 n,veS e,y.sv] []=some (.int .i64 (y.val l n (Ck e)),[])):E 11 [.arr (l.map by_),.int .i64 n,veS e,x.sv] []=some (.int .i64 (x.val l n (Ck e)),[]):=by
 have hlen:=Tm.length_le x.args
 have hne:=Tm.nodes_eq x
 have hck:=Tm.HY x hx
 rw [Tm.Oo,zM] at hck
 obtain ⟨hsz,hup⟩:=N7 hck.1
 have hgt:=XE e he x.name
 have s1:((0:Int)<(x.name.size:Int))=True:=eq_true (by omega)
 have z0:(n=0)=False:=eq_false (by omega)
 have hs6:x.name.size≤6:=by
  rw [Tm.H2] at hx
  split at hx
  ·rename_i hv; exact S4 hv
  ·rw [zM,zM] at hx; exact N4 hx.1.1
 have hmx:=U6 l hl hn x.name (by omega) (x.args.map (Tm.val l n (Ck e))) (by rw [zO]; omega) fun v hv=>by
  obtain ⟨y,hy,rfl⟩:=yK.1 hv
  exact Tm.KQ hl hn0 (Mm e hE) y
 rw [Tm.IS]
 cases hv:Bs x.name with
 | true =>
  have hx0:=Tm.Ek hx hv
  rw [hv,zM] at hup
  obtain ⟨u1,u2⟩:=hup
  have q0:((x.args.length:Int)=0)=True:=eq_true (by rw [hx0]; rfl)
  rw [cond_true]
  refine Ai E1 Bw (of_decide_eq_true rfl) ?_
  simp (disch:=omega) only [D9,go_sem,Ab,q0,s1,u1,u2,hgt,He]
 | false =>
  rw [cond_false]
  rw [hv] at hup
  by_cases hx0:x.args.length=0
  ·have q0:((x.args.length:Int)=0)=True:=eq_true (by omega)
   cases u1:dec (65≤D0 x.name 0) with
   | false =>
    refine Ai E1 Bw (of_decide_eq_true rfl) ?_
    simp (disch:=omega) only [D9,go_sem,Ab,q0,s1,u1]
    refine go_loop (α:=Int × (List Int)) (fun a=>⟨slots 64 0 [(0,.arr (l.map by_)),(1,.int .i64 n),(6,.ptr 0 0),(7,.ptr 1 0),(9,.ref 2),(10,.int .i64 (a.1))],[.box 37 [.arr (e.map nmD),.arr (e.map viD)],.box 26 [.str x.name,.arr (x.args.map Tm.d)],.row 3 1 ((a.2).map iO)]⟩) (fun a=>∃ k:Nat,a.1=k∧k≤(x.args).length∧(a.2)=(x.args.take k).map (Tm.val l n (Ck e))) (fun a=>(x.args).length-(a.1).toNat) (0,[]) ⟨0,rfl,zK _,by rw [zN]; rfl⟩ (by simp (disch:=omega) only [go_sem,Ab]) ?_
    rintro ⟨i,acc⟩ ⟨k,hi,hk,hR⟩
    dsimp only at hi hR
    have hni:i.toNat=k:=by omega
    have hni1:(i+1).toNat=k+1:=by omega
    rcases zC k (x.args).length with hlt | hge
    ·have hg:=get_at Tm.d hlt
     rw [Tm.d_eq] at hg
     have hc:=ih x.args[k] (zG hlt)
     have hal:acc.length=k:=by rw [hR,zO,zT]; omega
     simp (disch:=omega) only [go_sem,Ab,hni,hg,hc,Bw]
     refine ⟨(i+1,acc++[x.args[k].val l n (Ck e)]),⟨k+1,by dsimp only; omega,hlt,?_⟩,by dsimp only; omega,?_⟩
     ·dsimp only
      rw [zL hlt,zR,← hR]; rfl
     ·simp (disch:=omega) only [go_sem,Ab,zR]
    ·have hR:acc=x.args.map (Tm.val l n (Ck e)):=by rw [hR,zU hge]
     rw [←hR] at hmx ⊢
     simp (disch:=omega) only [go_sem,Ab,hni,Mj,GR,JV,JW,NJ,DK,hmx,z0]
   | true =>
    rw [u1,zD] at hup
    refine Ai E1 Bw (of_decide_eq_true rfl) ?_
    simp (disch:=omega) only [D9,go_sem,Ab,q0,s1,u1,hup]
    refine go_loop (α:=Int × (List Int)) (fun a=>⟨slots 64 0 [(0,.arr (l.map by_)),(1,.int .i64 n),(6,.ptr 0 0),(7,.ptr 1 0),(9,.ref 2),(10,.int .i64 (a.1))],[.box 37 [.arr (e.map nmD),.arr (e.map viD)],.box 26 [.str x.name,.arr (x.args.map Tm.d)],.row 3 1 ((a.2).map iO)]⟩) (fun a=>∃ k:Nat,a.1=k∧k≤(x.args).length∧(a.2)=(x.args.take k).map (Tm.val l n (Ck e))) (fun a=>(x.args).length-(a.1).toNat) (0,[]) ⟨0,rfl,zK _,by rw [zN]; rfl⟩ (by simp (disch:=omega) only [go_sem,Ab]) ?_
    rintro ⟨i,acc⟩ ⟨k,hi,hk,hR⟩
    dsimp only at hi hR
    have hni:i.toNat=k:=by omega
    have hni1:(i+1).toNat=k+1:=by omega
    rcases zC k (x.args).length with hlt | hge
    ·have hg:=get_at Tm.d hlt
     rw [Tm.d_eq] at hg
     have hc:=ih x.args[k] (zG hlt)
     have hal:acc.length=k:=by rw [hR,zO,zT]; omega
     simp (disch:=omega) only [go_sem,Ab,hni,hg,hc,Bw]
     refine ⟨(i+1,acc++[x.args[k].val l n (Ck e)]),⟨k+1,by dsimp only; omega,hlt,?_⟩,by dsimp only; omega,?_⟩
     ·dsimp only
      rw [zL hlt,zR,← hR]; rfl
     ·simp (disch:=omega) only [go_sem,Ab,zR]
    ·have hR:acc=x.args.map (Tm.val l n (Ck e)):=by rw [hR,zU hge]
     rw [←hR] at hmx ⊢
     simp (disch:=omega) only [go_sem,Ab,hni,Mj,GR,JV,JW,NJ,DK,hmx,z0]
  ·have q0:((x.args.length:Int)=0)=False:=eq_false (by omega)
   refine Ai E1 Bw (of_decide_eq_true rfl) ?_
   simp (disch:=omega) only [D9,go_sem,Ab,q0,s1]
   refine go_loop (α:=Int × (List Int)) (fun a=>⟨slots 64 0 [(0,.arr (l.map by_)),(1,.int .i64 n),(6,.ptr 0 0),(7,.ptr 1 0),(9,.ref 2),(10,.int .i64 (a.1))],[.box 37 [.arr (e.map nmD),.arr (e.map viD)],.box 26 [.str x.name,.arr (x.args.map Tm.d)],.row 3 1 ((a.2).map iO)]⟩) (fun a=>∃ k:Nat,a.1=k∧k≤(x.args).length∧(a.2)=(x.args.take k).map (Tm.val l n (Ck e))) (fun a=>(x.args).length-(a.1).toNat) (0,[]) ⟨0,rfl,zK _,by rw [zN]; rfl⟩ (by simp (disch:=omega) only [go_sem,Ab]) ?_
   rintro ⟨i,acc⟩ ⟨k,hi,hk,hR⟩
   dsimp only at hi hR
   have hni:i.toNat=k:=by omega
   have hni1:(i+1).toNat=k+1:=by omega
   rcases zC k (x.args).length with hlt | hge
   ·have hg:=get_at Tm.d hlt
    rw [Tm.d_eq] at hg
    have hc:=ih x.args[k] (zG hlt)
    have hal:acc.length=k:=by rw [hR,zO,zT]; omega
    simp (disch:=omega) only [go_sem,Ab,hni,hg,hc,Bw]
    refine ⟨(i+1,acc++[x.args[k].val l n (Ck e)]),⟨k+1,by dsimp only; omega,hlt,?_⟩,by dsimp only; omega,?_⟩
    ·dsimp only
     rw [zL hlt,zR,← hR]; rfl
    ·simp (disch:=omega) only [go_sem,Ab,zR]
   ·have hR:acc=x.args.map (Tm.val l n (Ck e)):=by rw [hR,zU hge]
    rw [←hR] at hmx ⊢
    simp (disch:=omega) only [go_sem,Ab,hni,Mj,GR,JV,JW,NJ,DK,hmx,z0]
theorem Mo (l:List Int) (hl:Bytes l) (hn:l.length≤1099511627776) (n:Int) (hn0:1≤n∧n≤65535) (e:Ev) (he:e.length≤1099511627776) (hE:EnvOk e) (x:Tm) (hx:x.names=true) (hxn:x.nodes≤1048576):E 11 [.arr (l.map by_),.int .i64 n,veS e,x.sv] []=some (.int .i64 (x.val l n (Ck e)),[]) :=
 SM l hl hn n hn0 e he hE x hx hxn fun y hy=>Mo l hl hn n hn0 e he hE y (Tm.El hx hy) (by have:=Tm.nodes_mem hy; have:=Tm.nodes_eq x; omega)
termination_by SizeOf.sizeOf x
decreasing_by exact Tm.lt_of_mem hy
def Iv:SC:=(.seq (.reg [⟨some 6,none,.boxv 37 2 (.t 2)⟩,⟨some 7,none,.boxv 26 2 (.t 3)⟩,⟨some 8,none,.mv (.c (.bool false))⟩]) (.seq (.reg [⟨some 11,none,.mkrow 3 1 [(.int .i64 0)] 0 []⟩,⟨some 9,none,.mv (.t 11)⟩]) (.seq (.seq (.reg [⟨some 10,none,.mv (.c (.int .i64 0))⟩]) (.block 0 (.loop [1,1,0,0,0,0,1,1,0,1,1,0,0,0,0,0,0,0,0,0,0,0,0,0,0,0,0,0,0,0,0,0,0,0,0,0,0,0,0,0,0,0,0,0,0,0,0,0,0,0,0,0,0,0] (.seq (.seq (.reg [⟨some 12,none,.mv (.t 10)⟩,⟨some 13,none,.faddr 1 (.t 7)⟩,⟨some 14,none,.load false 1 (.t 13)⟩,⟨some 15,none,.len false (.t 14)⟩,⟨some 16,none,.bin .lss false (.t 12) (.t 15)⟩]) (.cond (.t 16) .skip (.exit 0))) (.seq (.block 1 (.dreg [[],[],[],[],[],[4],[],[5,4,6],[7,5,4,6],[1,2,3,8,7,5,4,6],[9,1,2,3,8,7,5,4,6],[0,10,9,1,2,3,8,7,5,4,6],[11,0,10,9,1,2,3,8,7,5,4,6]] [⟨some 19,none,.mv (.t 9)⟩,⟨some 20,none,.mv (.t 0)⟩,⟨some 21,none,.mv (.t 1)⟩,⟨some 22,none,.load true 2 (.t 6)⟩,⟨some 23,none,.faddr 1 (.t 7)⟩,⟨some 24,none,.load false 1 (.t 23)⟩,⟨some 25,none,.mv (.t 10)⟩,⟨some 26,none,.iaddr 2 (.t 24) (.t 25)⟩,⟨some 27,none,.load true 2 (.t 26)⟩,⟨some 28,none,.call 11 [(.t 20),(.t 21),(.t 22),(.t 27)]⟩,⟨some 29,none,.mkrow 3 1 [(.int .i64 0)] 1 [(0,(.t 28))]⟩,⟨some 30,none,.append 3 1 8 [(.int .i64 0)] (.t 19) (.t 29)⟩,⟨some 9,none,.mv (.t 30)⟩])) (.reg [⟨some 17,none,.mv (.t 10)⟩,⟨some 18,none,.bin .add false (.t 17) (.c (.int .i64 1))⟩,⟨some 10,none,.mv (.t 18)⟩])))))) (.seq (.seq (.reg [⟨some 31,none,.faddr 0 (.t 7)⟩,⟨some 32,none,.load false 1 (.t 31)⟩,⟨(some 33),none,(.bin .eql false (.t 32) (.c (.str ⟨#[61]⟩)))⟩,⟨some 34,none,.mv (.t 33)⟩,⟨(some 35),(some (34,true)),(.mv (.t 9))⟩,⟨(some 36),(some (34,true)),(.len false (.t 35))⟩,⟨(some 37),(some (34,true)),(.bin .eql false (.t 36) (.c (.int .i64 2)))⟩,⟨some 38,none,.pick (.t 34) (.t 37) (.c (.bool false))⟩]) (.cond (.t 38) (.seq (.dreg [[],[0],[1,0],[],[3],[4,3],[2,1,0,5,4,3],[6,2,1,0,5,4,3]] [⟨some 39,none,.mv (.t 9)⟩,⟨some 40,none,.iaddr 1 (.t 39) (.c (.int .i64 0))⟩,⟨some 41,none,.load false 1 (.t 40)⟩,⟨some 42,none,.mv (.t 9)⟩,⟨some 43,none,.iaddr 1 (.t 42) (.c (.int .i64 1))⟩,⟨some 44,none,.load false 1 (.t 43)⟩,⟨some 45,none,.bin .eql false (.t 41) (.t 44)⟩,⟨some 8,none,.mv (.t 45)⟩]) .ret) .skip)) (.seq (.reg [⟨some 46,none,.mv (.t 0)⟩,⟨some 47,none,.faddr 0 (.t 7)⟩,⟨some 48,none,.load false 1 (.t 47)⟩,⟨(some 49),none,(.bin .add false (.c (.str ⟨#[126]⟩)) (.t 48))⟩,⟨some 50,none,.mv (.t 9)⟩,⟨some 51,none,.call 26 [(.t 46),(.t 49),(.t 50)]⟩,⟨some 52,none,.bin .rem false (.t 51) (.c (.int .i64 2))⟩,⟨some 53,none,.bin .eql false (.t 52) (.c (.int .i64 1))⟩,⟨some 8,none,.mv (.t 53)⟩]) .ret)))))
theorem MB:Ar Tryz.prog 24=some ⟨54,Iv,[(.tmp 8)]⟩:=by kernel_rfl
theorem Iw:modes 24=⟨[],.asis,none,false⟩:=by unfold modes; rfl
def AU:SC:=(.seq (.reg [⟨some 6,none,.boxv 37 2 (.t 2)⟩,⟨some 7,none,.boxv 29 5 (.t 3)⟩,⟨some 8,none,.mv (.c (.bool false))⟩]) (.seq (.seq (.reg [⟨some 10,none,.faddr 0 (.t 7)⟩,⟨some 11,none,.load false 1 (.t 10)⟩]) (.block 0 (.seq (.reg [⟨some 13,none,.bin .eql false (.t 11) (.c (.int .i64 1))⟩,⟨some 12,none,.mv (.t 13)⟩]) (.cond (.t 12) (.seq (.reg [⟨some 8,none,.mv (.c (.bool true))⟩]) .ret) (.seq (.reg [⟨some 15,none,.bin .eql false (.t 11) (.c (.int .i64 2))⟩,⟨some 14,none,.mv (.t 15)⟩]) (.cond (.t 14) (.seq (.reg [⟨some 8,none,.mv (.c (.bool false))⟩]) .ret) (.seq (.reg [⟨some 17,none,.bin .eql false (.t 11) (.c (.int .i64 3))⟩,⟨some 16,none,.mv (.t 17)⟩]) (.cond (.t 16) (.seq (.reg [⟨some 18,none,.mv (.t 0)⟩,⟨some 19,none,.mv (.t 1)⟩,⟨some 20,none,.load true 2 (.t 6)⟩,⟨some 21,none,.faddr 1 (.t 7)⟩,⟨some 22,none,.load true 2 (.t 21)⟩,⟨some 23,none,.call 24 [(.t 18),(.t 19),(.t 20),(.t 22)]⟩,⟨some 8,none,.mv (.t 23)⟩]) .ret) (.seq (.reg [⟨some 25,none,.bin .eql false (.t 11) (.c (.int .i64 4))⟩,⟨some 24,none,.mv (.t 25)⟩]) (.cond (.t 24) (.seq (.dreg [[],[],[],[],[3],[4,3],[5,4,3],[0,1,2,6,5,4,3],[7,0,1,2,6,5,4,3],[8,7,0,1,2,6,5,4,3]] [⟨some 26,none,.mv (.t 0)⟩,⟨some 27,none,.mv (.t 1)⟩,⟨some 28,none,.load true 2 (.t 6)⟩,⟨some 29,none,.faddr 4 (.t 7)⟩,⟨some 30,none,.load false 1 (.t 29)⟩,⟨some 31,none,.iaddr 5 (.t 30) (.c (.int .i64 0))⟩,⟨some 32,none,.load true 5 (.t 31)⟩,⟨some 33,none,.call 10 [(.t 26),(.t 27),(.t 28),(.t 32)]⟩,⟨some 34,none,.un .not (.t 33)⟩,⟨some 8,none,.mv (.t 34)⟩]) .ret) (.seq (.reg [⟨some 36,none,.bin .eql false (.t 11) (.c (.int .i64 5))⟩,⟨some 35,none,.mv (.t 36)⟩]) (.cond (.t 35) (.seq (.dreg [[],[],[],[],[3],[4,3],[5,4,3],[0,1,2,6,5,4,3],[7,0,1,2,6,5,4,3],[8,7,0,1,2,6,5,4,3],[8,7,0,1,2,6,5,4,3],[8,7,0,1,2,6,5,4,3],[8,7,0,1,2,6,5,4,3],[12,8,7,0,1,2,6,5,4,3],[13,12,8,7,0,1,2,6,5,4,3],[14,13,12,8,7,0,1,2,6,5,4,3],[9,8,7,0,1,2,6,5,4,3,10,11,15,14,13,12],[8,7,0,1,2,6,5,4,3,16,9,10,11,15,14,13,12],[17,8,7,0,1,2,6,5,4,3,16,9,10,11,15,14,13,12]] [⟨some 37,none,.mv (.t 0)⟩,⟨some 38,none,.mv (.t 1)⟩,⟨some 39,none,.load true 2 (.t 6)⟩,⟨some 40,none,.faddr 4 (.t 7)⟩,⟨some 41,none,.load false 1 (.t 40)⟩,⟨some 42,none,.iaddr 5 (.t 41) (.c (.int .i64 0))⟩,⟨some 43,none,.load true 5 (.t 42)⟩,⟨some 44,none,.call 10 [(.t 37),(.t 38),(.t 39),(.t 43)]⟩,⟨some 45,none,.mv (.t 44)⟩,⟨(some 46),(some (45,true)),(.mv (.t 0))⟩,⟨(some 47),(some (45,true)),(.mv (.t 1))⟩,⟨(some 48),(some (45,true)),(.load true 2 (.t 6))⟩,⟨(some 49),(some (45,true)),(.faddr 4 (.t 7))⟩,⟨(some 50),(some (45,true)),(.load false 1 (.t 49))⟩,⟨(some 51),(some (45,true)),(.iaddr 5 (.t 50) (.c (.int .i64 1)))⟩,⟨(some 52),(some (45,true)),(.load true 5 (.t 51))⟩,⟨(some 53),(some (45,true)),(.call 10 [(.t 46),(.t 47),(.t 48),(.t 52)])⟩,⟨some 54,none,.pick (.t 45) (.t 53) (.c (.bool false))⟩,⟨some 8,none,.mv (.t 54)⟩]) .ret) (.seq (.reg [⟨some 56,none,.bin .eql false (.t 11) (.c (.int .i64 6))⟩,⟨some 55,none,.mv (.t 56)⟩]) (.cond (.t 55) (.seq (.dreg [[],[],[],[],[3],[4,3],[5,4,3],[0,1,2,6,5,4,3],[7,0,1,2,6,5,4,3],[8,7,0,1,2,6,5,4,3],[8,7,0,1,2,6,5,4,3],[8,7,0,1,2,6,5,4,3],[8,7,0,1,2,6,5,4,3],[12,8,7,0,1,2,6,5,4,3],[13,12,8,7,0,1,2,6,5,4,3],[14,13,12,8,7,0,1,2,6,5,4,3],[9,8,7,0,1,2,6,5,4,3,10,11,15,14,13,12],[8,7,0,1,2,6,5,4,3,16,9,10,11,15,14,13,12],[17,8,7,0,1,2,6,5,4,3,16,9,10,11,15,14,13,12]] [⟨some 57,none,.mv (.t 0)⟩,⟨some 58,none,.mv (.t 1)⟩,⟨some 59,none,.load true 2 (.t 6)⟩,⟨some 60,none,.faddr 4 (.t 7)⟩,⟨some 61,none,.load false 1 (.t 60)⟩,⟨some 62,none,.iaddr 5 (.t 61) (.c (.int .i64 0))⟩,⟨some 63,none,.load true 5 (.t 62)⟩,⟨some 64,none,.call 10 [(.t 57),(.t 58),(.t 59),(.t 63)]⟩,⟨some 65,none,.mv (.t 64)⟩,⟨(some 66),(some (65,false)),(.mv (.t 0))⟩,⟨(some 67),(some (65,false)),(.mv (.t 1))⟩,⟨(some 68),(some (65,false)),(.load true 2 (.t 6))⟩,⟨(some 69),(some (65,false)),(.faddr 4 (.t 7))⟩,⟨(some 70),(some (65,false)),(.load false 1 (.t 69))⟩,⟨(some 71),(some (65,false)),(.iaddr 5 (.t 70) (.c (.int .i64 1)))⟩,⟨(some 72),(some (65,false)),(.load true 5 (.t 71))⟩,⟨(some 73),(some (65,false)),(.call 10 [(.t 66),(.t 67),(.t 68),(.t 72)])⟩,⟨some 74,none,.pick (.t 65) (.c (.bool true)) (.t 73)⟩,⟨some 8,none,.mv (.t 74)⟩]) .ret) (.seq (.reg [⟨some 76,none,.bin .eql false (.t 11) (.c (.int .i64 7))⟩,⟨some 75,none,.mv (.t 76)⟩]) (.cond (.t 75) (.seq (.dreg [[],[],[],[],[3],[4,3],[5,4,3],[0,1,2,6,5,4,3],[7,0,1,2,6,5,4,3],[8,7,0,1,2,6,5,4,3],[9,8,7,0,1,2,6,5,4,3],[9,8,7,0,1,2,6,5,4,3],[9,8,7,0,1,2,6,5,4,3],[9,8,7,0,1,2,6,5,4,3],[13,9,8,7,0,1,2,6,5,4,3],[14,13,9,8,7,0,1,2,6,5,4,3],[15,14,13,9,8,7,0,1,2,6,5,4,3],[10,9,8,7,0,1,2,6,5,4,3,11,12,16,15,14,13],[9,8,7,0,1,2,6,5,4,3,17,10,11,12,16,15,14,13],[18,9,8,7,0,1,2,6,5,4,3,17,10,11,12,16,15,14,13]] [⟨some 77,none,.mv (.t 0)⟩,⟨some 78,none,.mv (.t 1)⟩,⟨some 79,none,.load true 2 (.t 6)⟩,⟨some 80,none,.faddr 4 (.t 7)⟩,⟨some 81,none,.load false 1 (.t 80)⟩,⟨some 82,none,.iaddr 5 (.t 81) (.c (.int .i64 0))⟩,⟨some 83,none,.load true 5 (.t 82)⟩,⟨some 84,none,.call 10 [(.t 77),(.t 78),(.t 79),(.t 83)]⟩,⟨some 85,none,.un .not (.t 84)⟩,⟨some 86,none,.mv (.t 85)⟩,⟨(some 87),(some (86,false)),(.mv (.t 0))⟩,⟨(some 88),(some (86,false)),(.mv (.t 1))⟩,⟨(some 89),(some (86,false)),(.load true 2 (.t 6))⟩,⟨(some 90),(some (86,false)),(.faddr 4 (.t 7))⟩,⟨(some 91),(some (86,false)),(.load false 1 (.t 90))⟩,⟨(some 92),(some (86,false)),(.iaddr 5 (.t 91) (.c (.int .i64 1)))⟩,⟨(some 93),(some (86,false)),(.load true 5 (.t 92))⟩,⟨(some 94),(some (86,false)),(.call 10 [(.t 87),(.t 88),(.t 89),(.t 93)])⟩,⟨some 95,none,.pick (.t 86) (.c (.bool true)) (.t 94)⟩,⟨some 8,none,.mv (.t 95)⟩]) .ret) .skip)))))))))))))))) (.seq (.seq (.reg [⟨some 9,none,.mv (.c (.int .i64 0))⟩]) (.block 1 (.loop [1,1,0,0,0,0,1,1,0,1,0,0,0,0,0,0,0,0,0,0,0,0,0,0,0,0,0,0,0,0,0,0,0,0,0,0,0,0,0,0,0,0,0,0,0,0,0,0,0,0,0,0,0,0,0,0,0,0,0,0,0,0,0,0,0,0,0,0,0,0,0,0,0,0,0,0,0,0,0,0,0,0,0,0,0,0,0,0,0,0,0,0,0,0,0,0,0,0,0,0,0,0,0,0,0,0,0,0,0,0,0,0,0,0,0,0,0,0,0,0,0,0,0] (.seq (.seq (.reg [⟨some 96,none,.mv (.t 9)⟩,⟨some 97,none,.mv (.t 1)⟩,⟨some 98,none,.bin .lss false (.t 96) (.t 97)⟩]) (.cond (.t 98) .skip (.exit 1))) (.seq (.block 2 (.seq (.dreg [[],[],[],[],[3],[],[2,4,3,5],[],[7],[8,7],[9,8,7],[0,1,6,2,4,3,5,10,9,8,7],[],[12],[13,12],[11,0,1,6,2,4,3,5,10,9,8,7,14,13,12]] [⟨some 101,none,.mv (.t 0)⟩,⟨some 102,none,.mv (.t 1)⟩,⟨some 103,none,.load true 2 (.t 6)⟩,⟨some 104,none,.faddr 3 (.t 7)⟩,⟨some 105,none,.load false 1 (.t 104)⟩,⟨some 106,none,.mv (.t 9)⟩,⟨some 107,none,.call 8 [(.t 103),(.t 105),(.t 106)]⟩,⟨some 108,none,.faddr 4 (.t 7)⟩,⟨some 109,none,.load false 1 (.t 108)⟩,⟨some 110,none,.iaddr 5 (.t 109) (.c (.int .i64 0))⟩,⟨some 111,none,.load true 5 (.t 110)⟩,⟨some 112,none,.call 10 [(.t 101),(.t 102),(.t 107),(.t 111)]⟩,⟨some 113,none,.faddr 0 (.t 7)⟩,⟨some 114,none,.load false 1 (.t 113)⟩,⟨some 115,none,.bin .eql false (.t 114) (.c (.int .i64 9))⟩,⟨some 116,none,.bin .eql true (.t 112) (.t 115)⟩]) (.cond (.t 116) (.seq (.reg [⟨some 117,none,.faddr 0 (.t 7)⟩,⟨some 118,none,.load false 1 (.t 117)⟩,⟨some 119,none,.bin .eql false (.t 118) (.c (.int .i64 9))⟩,⟨some 8,none,.mv (.t 119)⟩]) .ret) .skip))) (.reg [⟨some 99,none,.mv (.t 9)⟩,⟨some 100,none,.bin .add false (.t 99) (.c (.int .i64 1))⟩,⟨some 9,none,.mv (.t 100)⟩])))))) (.seq (.reg [⟨some 120,none,.faddr 0 (.t 7)⟩,⟨some 121,none,.load false 1 (.t 120)⟩,⟨some 122,none,.bin .eql false (.t 121) (.c (.int .i64 8))⟩,⟨some 8,none,.mv (.t 122)⟩]) .ret))))
theorem Ba:Ar Tryz.prog 10=some ⟨123,AU,[(.tmp 8)]⟩:=by kernel_rfl
theorem Aq:modes 10=⟨[],.asis,none,false⟩:=by unfold modes; rfl
theorem Tm.SN {x:Tm} (h:x.atom=true):x.name.size≤6:=by
 unfold Tm.atom at h
 split at h
 ·rename_i he
  unfold Tm.eqn at he
  rw [Av.1 he]
  decide
 ·rw [zM] at h
  exact N4 h.1
theorem Tm.U7 {x:Tm} (h:x.atom=true) {y:Tm} (hy:y∈x.args):y.names=true:=by
 unfold Tm.atom at h
 split at h
 ·rw [zM,Tm.Ff,z8] at h
  exact h.2 y hy
 ·rw [zM] at h
  have h2:=h.2
  unfold Tm.valid at h2
  rw [zM] at h2
  exact Tm.El h2.2 hy
theorem U8 (s:ByteArray):((⟨#[126]⟩:ByteArray)++s).size=1+s.size:=by rw [ByteArray.size_append]; rfl
theorem U9 (l:List Int) (hl:Bytes l) (hn:l.length≤1099511627776) (n:Int) (hn0:1≤n∧n≤65535) (e:Ev) (he:e.length≤1099511627776) (hE:EnvOk e) (x:Tm) (hx:x.atom=true) (hxn:x.nodes≤1048576):E 24 [.arr (l.map by_),.int .i64 n,veS e,x.sv] []=some (.bool (GQ l n (Ck e) x),[]):=by
 have hlen:=Tm.length_le x.args
 have hne:=Tm.nodes_eq x
 have hsz:=Tm.SN hx
 have z0:((2:Int)=0)=False:=eq_false (by omega)
 have hmx:=U6 l hl hn ((⟨#[126]⟩:ByteArray)++x.name) (by rw [U8]; omega) (x.args.map (Tm.val l n (Ck e))) (by rw [zO]; omega) fun v hv=>by
  obtain ⟨y,hy,rfl⟩:=yK.1 hv
  exact Tm.KQ hl hn0 (Mm e hE) y
 have hs1:dec ((⟨#[126]⟩:ByteArray).size+x.name.size≤9223372036854775807)=true:=A5 (by show 1+x.name.size≤_; omega)
 have hs2:dec ((#[126]:Array UInt8).size+x.name.size≤9223372036854775807)=true:=hs1
 refine Ai MB Iw (of_decide_eq_true rfl) ?_
 simp (disch:=omega) only [Iv,go_sem,Ab]
 refine go_loop (α:=Int × (List Int)) (fun a=>⟨slots 54 0 [(0,.arr (l.map by_)),(1,.int .i64 n),(6,.ptr 0 0),(7,.ptr 1 0),(9,.ref 2),(10,.int .i64 (a.1))],[.box 37 [.arr (e.map nmD),.arr (e.map viD)],.box 26 [.str x.name,.arr (x.args.map Tm.d)],.row 3 1 ((a.2).map iO)]⟩) (fun a=>∃ k:Nat,a.1=k∧k≤(x.args).length∧(a.2)=(x.args.take k).map (Tm.val l n (Ck e))) (fun a=>(x.args).length-(a.1).toNat) (0,[]) ⟨0,rfl,zK _,by rw [zN]; rfl⟩ (by simp (disch:=omega) only [go_sem,Ab]) ?_
 rintro ⟨i,acc⟩ ⟨k,hi,hk,hR⟩
 dsimp only at hi hR
 have hni:i.toNat=k:=by omega
 have hni1:(i+1).toNat=k+1:=by omega
 rcases zC k (x.args).length with hlt | hge
 ·have hg:=get_at Tm.d hlt
  rw [Tm.d_eq] at hg
  have hc:=Mo l hl hn n hn0 e he hE x.args[k] (Tm.U7 hx (zG hlt)) (by have:=Tm.nodes_mem (zG hlt); omega)
  have hal:acc.length=k:=by rw [hR,zO,zT]; omega
  simp (disch:=omega) only [go_sem,Ab,hni,hg,hc,Bw]
  refine ⟨(i+1,acc++[x.args[k].val l n (Ck e)]),⟨k+1,by dsimp only; omega,hlt,?_⟩,by dsimp only; omega,?_⟩
  ·dsimp only
   rw [zL hlt,zR,← hR]; rfl
  ·simp (disch:=omega) only [go_sem,Ab,zR]
 ·have hR:acc=x.args.map (Tm.val l n (Ck e)):=by rw [hR,zU hge]
  have hal:acc.length=x.args.length:=by rw [hR,zO]
  unfold GQ
  rw [←hR] at hmx ⊢
  by_cases hq:x.name=⟨#[61]⟩
  ·have q1:(x.name=⟨#[61]⟩)=True:=eq_true hq
   by_cases h2:x.args.length=2
   ·have q2:((acc.length:Int)=2)=True:=eq_true (by omega)
    rw [A5 hq,A5 h2,yG,cond_true]
    obtain ⟨a,b,hab⟩:∃ a b,acc=[a,b]:=by
     match acc,(show acc.length=2 by omega) with
     | [a,b],_=>exact ⟨a,b,rfl⟩
    subst hab
    simp (disch:=omega) only [go_sem,Ab,q1,q2,hni,Mj,GR,JV,JW,NJ]
   ·have q2:((acc.length:Int)=2)=False:=eq_false (by omega)
    rw [A5 hq,An h2,zY,cond_false]
    simp (disch:=omega) only [go_sem,Ab,q1,q2,z0,hs1,hs2,hmx,DK,hni,Mj,GR,JV,JW,NJ]
  ·have q1:(x.name=⟨#[61]⟩)=False:=eq_false hq
   rw [An hq,zA,cond_false]
   simp (disch:=omega) only [go_sem,Ab,q1,z0,hs1,hs2,hmx,DK,hni,Mj,GR,JV,JW,NJ]
theorem UA (l:List Int) (hl:Bytes l) (hn:l.length≤1099511627776) (n:Int) (hn0:1≤n∧n≤65535) (x:Fm) (hx:x.forms=true) (e:Ev) (he:e.length+x.nodes≤1048576) (hE:EnvOk e) (ih:∀ y∈x.parts,∀ e:Ev,e.length+y.nodes≤1048576→EnvOk e→E 10 [.arr (l.map by_),.int .i64 n,veS e,y.sv] []=some (.bool (y.vt l n (Ck e)),[])):E 10 [.arr (l.map by_),.int .i64 n,veS e,x.sv] []=some (.bool (x.vt l n (Ck e)),[]):=by
 have hne:=Fm.nodes_eq x
 have hf:=Fm.Cr hx
 have ih:∀ y∈x.parts,∀ e:Ev,e.length+1+y.nodes≤1048577→EnvOk e→E 10 [.arr (l.map by_),.int .i64 n,veS e,y.sv] []=some (.bool (y.vt l n (Ck e)),[]):=fun y hy e h1 h2=>ih y hy e (by omega) h2
 rcases Fm.O3 hf with ho | ho | ho | ho | (ho | ho | ho) | ho | ho
 ·rw [Fm.Ur ho]
  have o1:(x.op=1)=True:=eq_true ho
  refine Ai Ba Aq (of_decide_eq_true rfl) ?_
  simp (disch:=omega) only [AU,go_sem,Ab,o1]
 ·rw [Fm.Us ho]
  have o1:(x.op=1)=False:=eq_false (by omega)
  have o2:(x.op=2)=True:=eq_true ho
  refine Ai Ba Aq (of_decide_eq_true rfl) ?_
  simp (disch:=omega) only [AU,go_sem,Ab,o1,o2]
 ·rw [Fm.Ut ho]
  have o1:(x.op=1)=False:=eq_false (by omega)
  have o2:(x.op=2)=False:=eq_false (by omega)
  have o3:(x.op=3)=True:=eq_true ho
  have h1:=U9 l hl hn n hn0 e (by omega) hE x.atom (Fm.Dw hf ho).2.1 (by have:=Fm.FK hf; omega)
  refine Ai Ba Aq (of_decide_eq_true rfl) ?_
  simp (disch:=omega) only [AU,go_sem,Ab,h1,Iw,o1,o2,o3]
 ·obtain ⟨p,hp⟩:=Fm.O2 hf ho
  have hpm:p∈x.parts:=by rw [hp]; simp
  have h1:=ih p hpm e (by have:=Fm.nodes_mem hpm; omega) hE
  have hg0:(x.parts.map Fm.d)[0]?=some p.d:=by rw [hp]; rfl
  rw [Fm.d_eq] at hg0
  rw [Fm.Uu ho hp]
  have o1:(x.op=1)=False:=eq_false (by omega)
  have o2:(x.op=2)=False:=eq_false (by omega)
  have o3:(x.op=3)=False:=eq_false (by omega)
  have o4:(x.op=4)=True:=eq_true ho
  refine Ai Ba Aq (of_decide_eq_true rfl) ?_
  simp (disch:=omega) only [AU,go_sem,Ab,h1,hg0,Aq,o1,o2,o3,o4]
 ·obtain ⟨p,q,hp⟩:=Fm.Jx hf (by omega)
  have hpm:p∈x.parts:=by rw [hp]; simp
  have hqm:q∈x.parts:=by rw [hp]; simp
  have h1:=ih p hpm e (by have:=Fm.nodes_mem hpm; omega) hE
  have h2:=ih q hqm e (by have:=Fm.nodes_mem hqm; omega) hE
  rw [Fm.QP (by omega) hp]
  unfold PI
  have hg0:(x.parts.map Fm.d)[0]?=some p.d:=by rw [hp]; rfl
  have hg1:(x.parts.map Fm.d)[1]?=some q.d:=by rw [hp]; rfl
  rw [Fm.d_eq] at hg0 hg1
  have o1:(x.op=1)=False:=eq_false (by omega)
  have o2:(x.op=2)=False:=eq_false (by omega)
  have o3:(x.op=3)=False:=eq_false (by omega)
  have o4:(x.op=4)=False:=eq_false (by omega)
  have o5:(x.op=5)=True:=eq_true ho
  cases hb1:p.vt l n (Ck e) with
  | true =>
   rw [hb1] at h1
   cases hb2:q.vt l n (Ck e) with
   | true =>
    rw [hb2] at h2
    refine Ai Ba Aq (of_decide_eq_true rfl) ?_
    simp (disch:=omega) only [AU,go_sem,Ab,o1,o2,o3,o4,o5,h1,h2,hg0,hg1,Aq]
   | false =>
    rw [hb2] at h2
    refine Ai Ba Aq (of_decide_eq_true rfl) ?_
    simp (disch:=omega) only [AU,go_sem,Ab,o1,o2,o3,o4,o5,h1,h2,hg0,hg1,Aq]
  | false =>
   rw [hb1] at h1
   cases hb2:q.vt l n (Ck e) with
   | true =>
    rw [hb2] at h2
    refine Ai Ba Aq (of_decide_eq_true rfl) ?_
    simp (disch:=omega) only [AU,go_sem,Ab,o1,o2,o3,o4,o5,h1,h2,hg0,hg1,Aq]
   | false =>
    rw [hb2] at h2
    refine Ai Ba Aq (of_decide_eq_true rfl) ?_
    simp (disch:=omega) only [AU,go_sem,Ab,o1,o2,o3,o4,o5,h1,h2,hg0,hg1,Aq]
 ·obtain ⟨p,q,hp⟩:=Fm.Jx hf (by omega)
  have hpm:p∈x.parts:=by rw [hp]; simp
  have hqm:q∈x.parts:=by rw [hp]; simp
  have h1:=ih p hpm e (by have:=Fm.nodes_mem hpm; omega) hE
  have h2:=ih q hqm e (by have:=Fm.nodes_mem hqm; omega) hE
  rw [Fm.QP (by omega) hp]
  unfold PI
  have hg0:(x.parts.map Fm.d)[0]?=some p.d:=by rw [hp]; rfl
  have hg1:(x.parts.map Fm.d)[1]?=some q.d:=by rw [hp]; rfl
  rw [Fm.d_eq] at hg0 hg1
  have o1:(x.op=1)=False:=eq_false (by omega)
  have o2:(x.op=2)=False:=eq_false (by omega)
  have o3:(x.op=3)=False:=eq_false (by omega)
  have o4:(x.op=4)=False:=eq_false (by omega)
  have o5:(x.op=5)=False:=eq_false (by omega)
  have o6:(x.op=6)=True:=eq_true ho
  cases hb1:p.vt l n (Ck e) with
  | true =>
   rw [hb1] at h1
   cases hb2:q.vt l n (Ck e) with
   | true =>
    rw [hb2] at h2
    refine Ai Ba Aq (of_decide_eq_true rfl) ?_
    simp (disch:=omega) only [AU,go_sem,Ab,o1,o2,o3,o4,o5,o6,h1,h2,hg0,hg1,Aq]
   | false =>
    rw [hb2] at h2
    refine Ai Ba Aq (of_decide_eq_true rfl) ?_
    simp (disch:=omega) only [AU,go_sem,Ab,o1,o2,o3,o4,o5,o6,h1,h2,hg0,hg1,Aq]
  | false =>
   rw [hb1] at h1
   cases hb2:q.vt l n (Ck e) with
   | true =>
    rw [hb2] at h2
    refine Ai Ba Aq (of_decide_eq_true rfl) ?_
    simp (disch:=omega) only [AU,go_sem,Ab,o1,o2,o3,o4,o5,o6,h1,h2,hg0,hg1,Aq]
   | false =>
    rw [hb2] at h2
    refine Ai Ba Aq (of_decide_eq_true rfl) ?_
    simp (disch:=omega) only [AU,go_sem,Ab,o1,o2,o3,o4,o5,o6,h1,h2,hg0,hg1,Aq]
 ·obtain ⟨p,q,hp⟩:=Fm.Jx hf (by omega)
  have hpm:p∈x.parts:=by rw [hp]; simp
  have hqm:q∈x.parts:=by rw [hp]; simp
  have h1:=ih p hpm e (by have:=Fm.nodes_mem hpm; omega) hE
  have h2:=ih q hqm e (by have:=Fm.nodes_mem hqm; omega) hE
  rw [Fm.QP (by omega) hp]
  unfold PI
  have hg0:(x.parts.map Fm.d)[0]?=some p.d:=by rw [hp]; rfl
  have hg1:(x.parts.map Fm.d)[1]?=some q.d:=by rw [hp]; rfl
  rw [Fm.d_eq] at hg0 hg1
  have o1:(x.op=1)=False:=eq_false (by omega)
  have o2:(x.op=2)=False:=eq_false (by omega)
  have o3:(x.op=3)=False:=eq_false (by omega)
  have o4:(x.op=4)=False:=eq_false (by omega)
  have o5:(x.op=5)=False:=eq_false (by omega)
  have o6:(x.op=6)=False:=eq_false (by omega)
  have o7:(x.op=7)=True:=eq_true ho
  cases hb1:p.vt l n (Ck e) with
  | true =>
   rw [hb1] at h1
   cases hb2:q.vt l n (Ck e) with
   | true =>
    rw [hb2] at h2
    refine Ai Ba Aq (of_decide_eq_true rfl) ?_
    simp (disch:=omega) only [AU,go_sem,Ab,o1,o2,o3,o4,o5,o6,o7,h1,h2,hg0,hg1,Aq]
   | false =>
    rw [hb2] at h2
    refine Ai Ba Aq (of_decide_eq_true rfl) ?_
    simp (disch:=omega) only [AU,go_sem,Ab,o1,o2,o3,o4,o5,o6,o7,h1,h2,hg0,hg1,Aq]
  | false =>
   rw [hb1] at h1
   cases hb2:q.vt l n (Ck e) with
   | true =>
    rw [hb2] at h2
    refine Ai Ba Aq (of_decide_eq_true rfl) ?_
    simp (disch:=omega) only [AU,go_sem,Ab,o1,o2,o3,o4,o5,o6,o7,h1,h2,hg0,hg1,Aq]
   | false =>
    rw [hb2] at h2
    refine Ai Ba Aq (of_decide_eq_true rfl) ?_
    simp (disch:=omega) only [AU,go_sem,Ab,o1,o2,o3,o4,o5,o6,o7,h1,h2,hg0,hg1,Aq]
 ·obtain ⟨_,p,hp⟩:=Fm.Dn hf (by unfold qB; rw [ho]; rw [A5 rfl]; rfl)
  have hpm:p∈x.parts:=by rw [hp]; simp
  have hg0:(x.parts.map Fm.d)[0]?=some p.d:=by rw [hp]; rfl
  rw [Fm.d_eq] at hg0
  rw [Fm.SK (by omega) hp]
  have o1:(x.op=1)=False:=eq_false (by omega)
  have o2:(x.op=2)=False:=eq_false (by omega)
  have o3:(x.op=3)=False:=eq_false (by omega)
  have o4:(x.op=4)=False:=eq_false (by omega)
  have o5:(x.op=5)=False:=eq_false (by omega)
  have o6:(x.op=6)=False:=eq_false (by omega)
  have o7:(x.op=7)=False:=eq_false (by omega)
  have o8:(x.op=8)=True:=eq_true ho
  have o9:(x.op=9)=False:=eq_false (by omega)
  obtain ⟨rg,hrg⟩:∃ rg,rg=List.range n.toNat:=⟨_,rfl⟩
  have hrl:rg.length=n.toNat:=by rw [hrg,List.length_range]
  refine Ai Ba Aq (of_decide_eq_true rfl) ?_
  simp (disch:=omega) only [AU,go_sem,Ab,o1,o2,o3,o4,o5,o6,o7]
  refine go_loop (α:=Int) (fun a=>⟨slots 123 0 [(0,.arr (l.map by_)),(1,.int .i64 n),(6,.ptr 0 0),(7,.ptr 1 0),(9,.int .i64 a)],[.box 37 [.arr (e.map nmD),.arr (e.map viD)],.box 29 [.int .i64 x.op,.str x.atom.name,.arr (x.atom.args.map Tm.d),.str x.var,.arr (x.parts.map Fm.d)]]⟩) (fun a=>∃ k:Nat,a=k∧k≤(rg).length∧((rg.drop k).all fun k=>p.vt l n (upE (Ck e) x.var (k:Nat)))=Mf x.op n fun k=>p.vt l n (upE (Ck e) x.var k)) (fun a=>(rg).length-(a).toNat) 0 ⟨0,rfl,zK _,by rw [zJ,hrg]; unfold Mf; rw [A5 ho]; rfl⟩ (by simp (disch:=omega) only [go_sem,Ab]) ?_
  rintro i ⟨k,hi,hk,hR⟩
  have hni:i.toNat=k:=by omega
  have hni1:(i+1).toNat=k+1:=by omega
  rcases zC k (rg).length with hlt | hge
  ·have q1:(i<n)=True:=eq_true (by omega)
   have hk2:rg[k]=k:=by subst hrg; rw [List.getElem_range]
   have hd:rg.drop k=k :: rg.drop (k+1):=by rw [zB hlt,hk2]
   have hw:=JY e (by omega) x.var i
   have hc:=ih p hpm (e++[(x.var,i)]) (by rw [List.length_append,List.length_singleton]; have:=Fm.nodes_mem hpm; omega) (hE.snoc (by omega) (by omega))
   rw [Ia] at hc
   rw [hd,List.all_cons,← hi] at hR
   cases hb:p.vt l n (upE (Ck e) x.var i) with
   | false =>
    rw [hb] at hc hR
    simp (disch:=omega) only [go_sem,Ab,q1,hw,hc,hg0,o8,o9,yH,yE,Bv,Aq]
    exact hR
   | true =>
    rw [hb] at hc hR
    simp (disch:=omega) only [go_sem,Ab,q1,hw,hc,hg0,o8,o9,yH,yE,Bv,Aq]
    exact ⟨i+1,⟨k+1,by omega,hlt,hR⟩,by omega,by first | trivial | rfl | exact ⟨rfl,rfl⟩⟩
  ·have q1:(i<n)=False:=eq_false (by omega)
   rw [zF hge] at hR
   simp (disch:=omega) only [go_sem,Ab,q1,o8,o9]
   exact hR
 ·obtain ⟨_,p,hp⟩:=Fm.Dn hf (by unfold qB; rw [ho]; rw [An (by omega),A5 rfl]; rfl)
  have hpm:p∈x.parts:=by rw [hp]; simp
  have hg0:(x.parts.map Fm.d)[0]?=some p.d:=by rw [hp]; rfl
  rw [Fm.d_eq] at hg0
  rw [Fm.SK (by omega) hp]
  have o1:(x.op=1)=False:=eq_false (by omega)
  have o2:(x.op=2)=False:=eq_false (by omega)
  have o3:(x.op=3)=False:=eq_false (by omega)
  have o4:(x.op=4)=False:=eq_false (by omega)
  have o5:(x.op=5)=False:=eq_false (by omega)
  have o6:(x.op=6)=False:=eq_false (by omega)
  have o7:(x.op=7)=False:=eq_false (by omega)
  have o8:(x.op=8)=False:=eq_false (by omega)
  have o9:(x.op=9)=True:=eq_true ho
  obtain ⟨rg,hrg⟩:∃ rg,rg=List.range n.toNat:=⟨_,rfl⟩
  have hrl:rg.length=n.toNat:=by rw [hrg,List.length_range]
  refine Ai Ba Aq (of_decide_eq_true rfl) ?_
  simp (disch:=omega) only [AU,go_sem,Ab,o1,o2,o3,o4,o5,o6,o7]
  refine go_loop (α:=Int) (fun a=>⟨slots 123 0 [(0,.arr (l.map by_)),(1,.int .i64 n),(6,.ptr 0 0),(7,.ptr 1 0),(9,.int .i64 a)],[.box 37 [.arr (e.map nmD),.arr (e.map viD)],.box 29 [.int .i64 x.op,.str x.atom.name,.arr (x.atom.args.map Tm.d),.str x.var,.arr (x.parts.map Fm.d)]]⟩) (fun a=>∃ k:Nat,a=k∧k≤(rg).length∧((rg.drop k).any fun k=>p.vt l n (upE (Ck e) x.var (k:Nat)))=Mf x.op n fun k=>p.vt l n (upE (Ck e) x.var k)) (fun a=>(rg).length-(a).toNat) 0 ⟨0,rfl,zK _,by rw [zJ,hrg]; unfold Mf; rw [An (by omega)]; rfl⟩ (by simp (disch:=omega) only [go_sem,Ab]) ?_
  rintro i ⟨k,hi,hk,hR⟩
  have hni:i.toNat=k:=by omega
  have hni1:(i+1).toNat=k+1:=by omega
  rcases zC k (rg).length with hlt | hge
  ·have q1:(i<n)=True:=eq_true (by omega)
   have hk2:rg[k]=k:=by subst hrg; rw [List.getElem_range]
   have hd:rg.drop k=k :: rg.drop (k+1):=by rw [zB hlt,hk2]
   have hw:=JY e (by omega) x.var i
   have hc:=ih p hpm (e++[(x.var,i)]) (by rw [List.length_append,List.length_singleton]; have:=Fm.nodes_mem hpm; omega) (hE.snoc (by omega) (by omega))
   rw [Ia] at hc
   rw [hd,List.any_cons,← hi] at hR
   cases hb:p.vt l n (upE (Ck e) x.var i) with
   | true =>
    rw [hb] at hc hR
    simp (disch:=omega) only [go_sem,Ab,q1,hw,hc,hg0,o8,o9,yH,yE,Bv,Aq]
    exact hR
   | false =>
    rw [hb] at hc hR
    simp (disch:=omega) only [go_sem,Ab,q1,hw,hc,hg0,o8,o9,yH,yE,Bv,Aq]
    exact ⟨i+1,⟨k+1,by omega,hlt,hR⟩,by omega,by first | trivial | rfl | exact ⟨rfl,rfl⟩⟩
  ·have q1:(i<n)=False:=eq_false (by omega)
   rw [zF hge] at hR
   simp (disch:=omega) only [go_sem,Ab,q1,o8,o9]
   exact hR
theorem O5 (l:List Int) (hl:Bytes l) (hn:l.length≤1099511627776) (n:Int) (hn0:1≤n∧n≤65535) (x:Fm) (hx:x.forms=true) (e:Ev) (he:e.length+x.nodes≤1048576) (hE:EnvOk e):E 10 [.arr (l.map by_),.int .i64 n,veS e,x.sv] []=some (.bool (x.vt l n (Ck e)),[]) :=
 UA l hl hn n hn0 x hx e he hE fun y hy e h1 h2=>O5 l hl hn n hn0 y (Fm.Co hx hy) e h1 h2
termination_by SizeOf.sizeOf x
decreasing_by exact Fm.lt_of_mem hy
def AY:SC:=(.seq (.reg [⟨(some 4),none,(.alloc 29 [(.int .i64 0),(.str ⟨#[]⟩),.nil,(.str ⟨#[]⟩),.nil])⟩]) (.seq (.seq (.reg [⟨some 6,none,.mv (.t 1)⟩,⟨some 7,none,.bin .leq false (.t 6) (.c (.int .i64 1))⟩,⟨some 8,none,.mv (.t 7)⟩,⟨(some 9),(some (8,false)),(.mv (.t 0))⟩,⟨(some 10),(some (8,false)),(.call 65 [(.t 9),(.c (.int .i64 4))])⟩,⟨some 11,none,.pick (.t 8) (.c (.bool true)) (.t 10)⟩]) (.cond (.t 11) (.seq (.seq (.reg [⟨some 12,none,.mv (.t 0)⟩,⟨some 13,none,.call 65 [(.t 12),(.c (.int .i64 16))]⟩]) (.cond (.t 13) (.seq (.reg [⟨some 14,none,.mv (.t 0)⟩,⟨some 15,none,.call 28 [(.t 14),(.c (.int .i64 2))]⟩,⟨some 16,none,.bin .add false (.c (.int .i64 1)) (.t 15)⟩,⟨(some 17),none,(.build [(.int .i64 0),(.str ⟨#[]⟩),.nil,(.str ⟨#[]⟩),.nil] [(0,(1,(.t 16)))])⟩,⟨none,none,(.store 5 (.t 4) (.t 17))⟩]) .ret) .skip)) (.seq (.reg [⟨some 18,none,.mv (.t 0)⟩,⟨some 19,none,.call 90 [(.t 18)]⟩,⟨(some 20),none,(.build [(.int .i64 0),(.str ⟨#[]⟩),.nil,(.str ⟨#[]⟩),.nil] [(0,(1,(.c (.int .i64 3)))),(1,(2,(.t 19)))])⟩,⟨none,none,(.store 5 (.t 4) (.t 20))⟩]) .ret)) .skip)) (.seq (.reg [⟨some 21,none,.mv (.t 0)⟩,⟨some 22,none,.mkrow 3 1 [(.int .i64 0)] 10 [(0,(.c (.int .i64 4))),(1,(.c (.int .i64 5))),(2,(.c (.int .i64 6))),(3,(.c (.int .i64 7))),(4,(.c (.int .i64 8))),(5,(.c (.int .i64 9))),(6,(.c (.int .i64 8))),(7,(.c (.int .i64 9))),(8,(.c (.int .i64 5))),(9,(.c (.int .i64 7)))]⟩,⟨some 23,none,.call 91 [(.t 21),(.t 22)]⟩,⟨some 5,none,.mv (.t 23)⟩]) (.seq (.seq (.reg [⟨some 24,none,.mv (.t 5)⟩,⟨some 25,none,.bin .eql false (.t 24) (.c (.int .i64 4))⟩]) (.cond (.t 25) (.seq (.reg [⟨some 26,none,.mv (.t 5)⟩,⟨some 27,none,.mv (.t 0)⟩,⟨some 28,none,.mv (.t 1)⟩,⟨some 29,none,.bin .sub false (.t 28) (.c (.int .i64 1))⟩,⟨some 30,none,.call 62 [(.t 27),(.t 29)]⟩,⟨(some 31),none,(.mkrow 29 5 [(.int .i64 0),(.str ⟨#[]⟩),.nil,(.str ⟨#[]⟩),.nil] 1 [(0,(.t 30))])⟩,⟨(some 32),none,(.build [(.int .i64 0),(.str ⟨#[]⟩),.nil,(.str ⟨#[]⟩),.nil] [(0,(1,(.t 26))),(4,(1,(.t 31)))])⟩,⟨none,none,(.store 5 (.t 4) (.t 32))⟩]) .ret) .skip)) (.seq (.seq (.reg [⟨some 33,none,.mv (.t 5)⟩,⟨some 34,none,.bin .eql false (.t 33) (.c (.int .i64 8))⟩,⟨some 35,none,.mv (.t 34)⟩,⟨(some 36),(some (35,false)),(.mv (.t 5))⟩,⟨(some 37),(some (35,false)),(.bin .eql false (.t 36) (.c (.int .i64 9)))⟩,⟨some 38,none,.pick (.t 35) (.c (.bool true)) (.t 37)⟩]) (.cond (.t 38) (.seq (.reg [⟨some 39,none,.mv (.t 5)⟩,⟨some 40,none,.mv (.t 0)⟩,⟨(some 41),none,(.mkrow 9 1 [(.str ⟨#[]⟩)] 4 [(0,(.c (.str ⟨#[88]⟩))),(1,(.c (.str ⟨#[89]⟩))),(2,(.c (.str ⟨#[90]⟩))),(3,(.c (.str ⟨#[88]⟩)))])⟩,⟨some 42,none,.call 13 [(.t 40),(.t 41)]⟩,⟨some 43,none,.mv (.t 0)⟩,⟨some 44,none,.mv (.t 1)⟩,⟨some 45,none,.bin .sub false (.t 44) (.c (.int .i64 1))⟩,⟨some 46,none,.call 62 [(.t 43),(.t 45)]⟩,⟨(some 47),none,(.mkrow 29 5 [(.int .i64 0),(.str ⟨#[]⟩),.nil,(.str ⟨#[]⟩),.nil] 1 [(0,(.t 46))])⟩,⟨(some 48),none,(.build [(.int .i64 0),(.str ⟨#[]⟩),.nil,(.str ⟨#[]⟩),.nil] [(0,(1,(.t 39))),(3,(1,(.t 42))),(4,(1,(.t 47)))])⟩,⟨none,none,(.store 5 (.t 4) (.t 48))⟩]) .ret) .skip)) (.seq (.reg [⟨some 49,none,.mv (.t 5)⟩,⟨some 50,none,.mv (.t 0)⟩,⟨some 51,none,.mv (.t 1)⟩,⟨some 52,none,.bin .sub false (.t 51) (.c (.int .i64 1))⟩,⟨some 53,none,.call 62 [(.t 50),(.t 52)]⟩,⟨some 54,none,.mv (.t 0)⟩,⟨some 55,none,.mv (.t 1)⟩,⟨some 56,none,.bin .sub false (.t 55) (.c (.int .i64 1))⟩,⟨some 57,none,.call 62 [(.t 54),(.t 56)]⟩,⟨(some 58),none,(.mkrow 29 5 [(.int .i64 0),(.str ⟨#[]⟩),.nil,(.str ⟨#[]⟩),.nil] 2 [(0,(.t 53)),(1,(.t 57))])⟩,⟨(some 59),none,(.build [(.int .i64 0),(.str ⟨#[]⟩),.nil,(.str ⟨#[]⟩),.nil] [(0,(1,(.t 49))),(4,(1,(.t 58)))])⟩,⟨none,none,(.store 5 (.t 4) (.t 59))⟩]) .ret))))))
theorem Bk:Ar Tryz.prog 62=some ⟨60,AY,[(.cell 4 true 5)]⟩:=by kernel_rfl
theorem AC:modes 62=⟨[],.half [none,none,some (26,2),none,some (29,5)],none,false⟩:=by unfold modes; rfl
def EE:SC:=(.seq (.reg [⟨(some 2),none,(.alloc 29 [(.int .i64 0),(.str ⟨#[]⟩),.nil,(.str ⟨#[]⟩),.nil])⟩]) (.seq (.reg [⟨some 3,none,.mv (.t 0)⟩,⟨some 4,none,.mv (.t 0)⟩,⟨some 5,none,.call 28 [(.t 4),(.c (.int .i64 4))]⟩,⟨some 6,none,.bin .add false (.c (.int .i64 1)) (.t 5)⟩,⟨some 7,none,.call 62 [(.t 3),(.t 6)]⟩,⟨none,none,(.store 5 (.t 2) (.t 7))⟩]) .ret))
theorem HE:Ar Tryz.prog 27=some ⟨8,EE,[(.cell 2 true 5)]⟩:=by kernel_rfl
theorem Bi:modes 27=⟨[],.half [none,none,some (26,2),none,some (29,5)],none,false⟩:=by unfold modes; rfl
def Fm.hs (x:Fm):List OT:=[.int x.op,.str x.atom.name,.sh (x.atom.args.map Tm.d),.str x.var,.sh (x.parts.map Fm.d)]
theorem Fm.O6:∀ xs:List Fm,OT.AH (xs.map Fm.hs)=true
 | []=>rfl
 | x :: xs=>by simp only [zP,OT.AH,Fm.hs,OT.CR,OT.full,Fm.O6 xs,yG]
theorem Fm.UC:∀ xs:List Fm,OT.erss (xs.map Fm.hs)=xs.map Fm.d
 | []=>rfl
 | x :: xs=>by simp only [zP,OT.erss,Fm.hs,OT.ers,OT.er,Fm.UC xs,Fm.d_eq]
theorem Fm.RN:∀ xs:List Fm,OT.Cq (xs.map Fm.hs)=xs.map Fm.hs
 | []=>rfl
 | x :: xs=>by simp only [zP,OT.Cq,Fm.hs,OT.Ii,OT.half,Fm.RN xs]
attribute [go_sem] Fm.O6 Fm.UC Fm.RN
abbrev fmH (x:Fm) (g h:Nat):SV:=.agg [.int .i64 x.op,.str x.atom.name,.ref g,.str x.var,.ref h]
abbrev PP (x:Fm):Ob:=.row 26 2 (x.atom.args.map Tm.osh)
abbrev QR (x:Fm):Ob:=.row 29 5 (x.parts.map Fm.hs)
theorem Fm.nodes_mk (op:Int) (a:Tm) (v:ByteArray) (l:List Fm):(Fm.mk op a v l).nodes=1+Fm.nodeS l:=Fm.nodes_eq _
theorem Fm.C4 {op:Int} {a:Tm} {v:ByteArray} {l:List Fm} (h1:a.nodes≤1099511627776) (h2:Fm.CO l):(Fm.mk op a v l).tame:=by rw [Fm.GJ]; exact ⟨h1,h2⟩
theorem Fm.Mp {a:Fm} (h:a.tame):Fm.CO [a]:=by simp only [Fm.CO]; exact ⟨h,trivial⟩
theorem Fm.Xp {a b:Fm} (h:a.tame) (k:b.tame):Fm.CO [a,b]:=by simp only [Fm.CO]; exact ⟨h,k,trivial⟩
theorem EF:Tm.zero.nodes=1:=by rw [Tm.nodes_eq]; rfl
theorem Wl (l:List Int) (hl:Bytes l) (hn:l.length≤1099511627776):∀ (d:Nat) (m:Int),m=d→d≤20→∀ p s:Int,0≤p→p+(120*2 ^ d:Nat)≤1080000000000→∃ x p' s',E 62 [.ptr 0 0,.int .i64 m] [cur l p s]=some (fmH x 1 2,[cur l p' s',PP x,QR x])∧(p≤p'∧p'+10≤p+(120*2 ^ d:Nat))∧x.nodes+1≤2*2 ^ d∧x.tame:=by
 intro d
 have base:∀ (p1 s1:Int),0≤p1→p1≤1090000000000→∃ b2 p2 s2,E 65 [.ptr 0 0,.int .i64 16] [cur l p1 s1]=some (.bool b2,[cur l p2 s2])∧(p1≤p2∧p2≤p1+1)∧(∃ v p3 s3,E 28 [.ptr 0 0,.int .i64 2] [cur l p2 s2]=some (.int .i64 v,[cur l p3 s3])∧(0≤v∧v<2)∧p2≤p3∧p3≤p2+1)∧∃ t p4 s4,E 90 [.ptr 0 0] [cur l p2 s2]=some (tmH t 1,[cur l p4 s4,JS t])∧(p2≤p4∧p4≤p2+100)∧t.nodes≤50:=fun p1 s1 a b=>by
  obtain ⟨b2,p2,s2,h1,h2,h3⟩:=NG l hl hn 16 (by omega) (by omega) p1 s1 a (by omega)
  exact ⟨b2,p2,s2,h1,⟨h2,h3⟩,Es l hl hn 2 (by omega) (by omega) p2 s2 (by omega) (by omega),Xj l hl hn p2 s2 (by omega) (by omega)⟩
 induction d with
 | zero =>
  rintro m rfl _ p s h0 h1
  rw [show 2 ^ 0=1 by rfl] at h1 ⊢
  obtain ⟨Q,hQ⟩:∃ Q:SV × List Ob→Prop,Q=fun out=>∃ x p' s',out=(fmH x 1 2,[cur l p' s',PP x,QR x])∧(p≤p'∧p'+10≤p+(120*1:Nat))∧x.nodes+1≤2*1∧x.tame:=⟨_,rfl⟩
  suffices hq0:∃ out,E 62 [.ptr 0 0,.int .i64 ((0:Nat):Int)] [cur l p s]=some out∧Q out by
   obtain ⟨out,hq1,hq2⟩:=hq0
   rw [hQ] at hq2
   obtain ⟨x,p',s',rfl,hq3⟩:=hq2
   exact ⟨x,p',s',hq1,hq3⟩
  obtain ⟨b2,p2,s2,hb2,⟨g3,g4⟩,⟨v,p3,s3,hv,⟨v0,v1⟩,g5,g6⟩,t,p4,s4,ht,⟨g7,g8⟩,g9⟩:=base p s (by omega) (by omega)
  cases b2 with
  | true =>
   have hi:dec (inK .i64 (1+v))=true:=BA (by omega) (by omega)
   refine AS Bk AC (of_decide_eq_true rfl) ?_
   simp (disch:=omega) only [AY,go_sem,Ab,hb2,hv,hi,A9,Ao,AX]
   rw [hQ]
   exact ⟨.mk (1+v) Tm.zero ⟨#[]⟩ [],p3,s3,rfl,by omega,by rw [Fm.nodes_mk]; show 1+0+1≤_; omega,Fm.C4 (by rw [EF]; omega) trivial⟩
  | false =>
   refine AS Bk AC (of_decide_eq_true rfl) ?_
   simp (disch:=omega) only [AY,go_sem,Ab,hb2,ht,A9,Ao,AX]
   rw [hQ]
   exact ⟨.mk 3 t ⟨#[]⟩ [],p4,s4,rfl,by omega,by rw [Fm.nodes_mk]; show 1+0+1≤_; omega,Fm.C4 (by omega) trivial⟩
 | succ e ih =>
  intro m hm hd p s h0 h1
  have hpe:2 ^ (e+1)=2*2 ^ e:=by rw [Nat.pow_succ,Nat.mul_comm]
  have hp1:1≤2 ^ e:=Nat.one_le_two_pow
  have hp2:2 ^ e≤2 ^ 20:=Nat.pow_le_pow_right (by omega) (by omega)
  have hp3:(2:Nat) ^ 20=1048576:=by decide
  have ih:=ih (m-1) (by omega) (by omega)
  rw [hpe] at h1 ⊢
  generalize 2 ^ e=q at *
  generalize hq2:2*q=q2 at *
  obtain ⟨Q,hQ⟩:∃ Q:SV × List Ob→Prop,Q=fun out=>∃ x p' s',out=(fmH x 1 2,[cur l p' s',PP x,QR x])∧(p≤p'∧p'+10≤p+(120*q2:Nat))∧x.nodes+1≤2*q2∧x.tame:=⟨_,rfl⟩
  suffices hq0:∃ out,E 62 [.ptr 0 0,.int .i64 m] [cur l p s]=some out∧Q out by
   obtain ⟨out,hq1,hq2⟩:=hq0
   rw [hQ] at hq2
   obtain ⟨x,p',s',rfl,hq3⟩:=hq2
   exact ⟨x,p',s',hq1,hq3⟩
  by_cases hm1:m≤1
  ·have q1:(m≤1)=True:=eq_true hm1
   obtain ⟨b2,p2,s2,hb2,⟨g3,g4⟩,⟨v,p3,s3,hv,⟨v0,v1⟩,g5,g6⟩,t,p4,s4,ht,⟨g7,g8⟩,g9⟩:=base p s (by omega) (by omega)
   cases b2 with
   | true =>
    have hi:dec (inK .i64 (1+v))=true:=BA (by omega) (by omega)
    refine AS Bk AC (of_decide_eq_true rfl) ?_
    simp (disch:=omega) only [AY,go_sem,Ab,q1,hb2,hv,hi,A9,Ao,AX]
    rw [hQ]
    exact ⟨.mk (1+v) Tm.zero ⟨#[]⟩ [],p3,s3,rfl,by omega,by rw [Fm.nodes_mk]; show 1+0+1≤_; omega,Fm.C4 (by rw [EF]; omega) trivial⟩
   | false =>
    refine AS Bk AC (of_decide_eq_true rfl) ?_
    simp (disch:=omega) only [AY,go_sem,Ab,q1,hb2,ht,A9,Ao,AX]
    rw [hQ]
    exact ⟨.mk 3 t ⟨#[]⟩ [],p4,s4,rfl,by omega,by rw [Fm.nodes_mk]; show 1+0+1≤_; omega,Fm.C4 (by omega) trivial⟩
  ·have q1:(m≤1)=False:=eq_false hm1
   obtain ⟨b1,p1,s1,hb1,g1,g2⟩:=NG l hl hn 4 (by omega) (by omega) p s h0 (by omega)
   cases b1 with
   | true =>
    obtain ⟨b2,p2,s2,hb2,⟨g3,g4⟩,⟨v,p3,s3,hv,⟨v0,v1⟩,g5,g6⟩,t,p4,s4,ht,⟨g7,g8⟩,g9⟩:=base p1 s1 (by omega) (by omega)
    cases b2 with
    | true =>
     have hi:dec (inK .i64 (1+v))=true:=BA (by omega) (by omega)
     refine AS Bk AC (of_decide_eq_true rfl) ?_
     simp (disch:=omega) only [AY,go_sem,Ab,q1,hb1,hb2,hv,hi,A9,Ao,AX]
     rw [hQ]
     exact ⟨.mk (1+v) Tm.zero ⟨#[]⟩ [],p3,s3,rfl,by omega,by rw [Fm.nodes_mk]; show 1+0+1≤_; omega,Fm.C4 (by rw [EF]; omega) trivial⟩
    | false =>
     refine AS Bk AC (of_decide_eq_true rfl) ?_
     simp (disch:=omega) only [AY,go_sem,Ab,q1,hb1,hb2,ht,A9,Ao,AX]
     rw [hQ]
     exact ⟨.mk 3 t ⟨#[]⟩ [],p4,s4,rfl,by omega,by rw [Fm.nodes_mk]; show 1+0+1≤_; omega,Fm.C4 (by omega) trivial⟩
   | false =>
    obtain ⟨op,p2,s2,hop,hmem,g3,g4⟩:=We l hl hn [4,5,6,7,8,9,8,9,5,7] (by decide) (by decide) p1 s1 (by omega) (by omega)
    simp only [zP,zH] at hop
    have hi:dec (inK .i64 (m-1))=true:=BA (by omega) (by omega)
    by_cases ho4:op=4
    ·subst ho4
     obtain ⟨y,p3,s3,hy,⟨g5,g6⟩,g7,g8⟩:=ih p2 s2 (by omega) (by omega)
     refine AS Bk AC (of_decide_eq_true rfl) ?_
     simp (disch:=omega) only [AY,go_sem,Ab,q1,hb1,hop,hi,hy,A9,Cu,AC]
     rw [hQ]
     exact ⟨.mk 4 Tm.zero ⟨#[]⟩ [y],p3,s3,rfl,by omega,by rw [Fm.nodes_mk]; show 1+(y.nodes+0)+1≤_; omega,Fm.C4 (by rw [EF]; omega) (Fm.Mp g8)⟩
    ·have o4:(op=4)=False:=eq_false ho4
     by_cases ho8:op=8
     ·subst ho8
      obtain ⟨x,p3,s3,hx,_,g5,g6⟩:=PK l hl hn [⟨#[88]⟩,⟨#[89]⟩,⟨#[90]⟩,⟨#[88]⟩] (by decide) (by decide) p2 s2 (by omega) (by omega)
      simp only [zP,zH] at hx
      obtain ⟨y,p4,s4,hy,⟨g7,g8⟩,g9,g10⟩:=ih p3 s3 (by omega) (by omega)
      refine AS Bk AC (of_decide_eq_true rfl) ?_
      simp (disch:=omega) only [AY,go_sem,Ab,q1,hb1,hop,hi,hx,hy,A9,Cu,Au,AC]
      rw [hQ]
      exact ⟨.mk 8 Tm.zero x [y],p4,s4,rfl,by omega,by rw [Fm.nodes_mk]; show 1+(y.nodes+0)+1≤_; omega,Fm.C4 (by rw [EF]; omega) (Fm.Mp g10)⟩
     ·have o8:(op=8)=False:=eq_false ho8
      by_cases ho9:op=9
      ·subst ho9
       obtain ⟨x,p3,s3,hx,_,g5,g6⟩:=PK l hl hn [⟨#[88]⟩,⟨#[89]⟩,⟨#[90]⟩,⟨#[88]⟩] (by decide) (by decide) p2 s2 (by omega) (by omega)
       simp only [zP,zH] at hx
       obtain ⟨y,p4,s4,hy,⟨g7,g8⟩,g9,g10⟩:=ih p3 s3 (by omega) (by omega)
       refine AS Bk AC (of_decide_eq_true rfl) ?_
       simp (disch:=omega) only [AY,go_sem,Ab,q1,hb1,hop,hi,hx,hy,A9,Cu,Au,AC]
       rw [hQ]
       exact ⟨.mk 9 Tm.zero x [y],p4,s4,rfl,by omega,by rw [Fm.nodes_mk]; show 1+(y.nodes+0)+1≤_; omega,Fm.C4 (by rw [EF]; omega) (Fm.Mp g10)⟩
      ·have o9:(op=9)=False:=eq_false ho9
       obtain ⟨y,p3,s3,hy,⟨g5,g6⟩,g7,g8⟩:=ih p2 s2 (by omega) (by omega)
       obtain ⟨z,p4,s4,hz,⟨g9,g10⟩,g11,g12⟩:=ih p3 s3 (by omega) (by omega)
       refine AS Bk AC (of_decide_eq_true rfl) ?_
       simp (disch:=omega) only [AY,go_sem,Ab,q1,hb1,hop,hi,hy,hz,o4,o8,o9,A9,Cu,AC]
       rw [hQ]
       exact ⟨.mk op Tm.zero ⟨#[]⟩ [y,z],p4,s4,rfl,by omega,by rw [Fm.nodes_mk]; show 1+(y.nodes+(z.nodes+0))+1≤_; omega,Fm.C4 (by rw [EF]; omega) (Fm.Xp g8 g12)⟩
theorem NK (l:List Int) (hl:Bytes l) (hn:l.length≤1099511627776) (p s:Int) (h0:0≤p) (h1:p≤1070000000000):∃ x p' s',E 27 [.ptr 0 0] [cur l p s]=some (fmH x 1 2,[cur l p' s',PP x,QR x])∧(p≤p'∧p'≤p+2000)∧x.nodes≤31∧x.tame:=by
 obtain ⟨v,p1,s1,hv,⟨v0,v1⟩,g1,g2⟩:=Es l hl hn 4 (by omega) (by omega) p s h0 (by omega)
 have hp3:(2:Nat) ^ (1+v).toNat≤2 ^ 4:=Nat.pow_le_pow_right (by omega) (by omega)
 have hp4:(2:Nat) ^ 4=16:=by decide
 obtain ⟨x,p2,s2,hx,⟨g3,g4⟩,g5,g6⟩:=Wl l hl hn (1+v).toNat (1+v) (by omega) (by omega) p1 s1 (by omega) (by omega)
 refine ⟨x,p2,s2,?_,by omega,by omega,g6⟩
 have hi:dec (inK .i64 (1+v))=true:=BA (by omega) (by omega)
 refine Ai HE Bi (of_decide_eq_true rfl) ?_
 simp (disch:=omega) only [EE,go_sem,Ab,hv,hx,hi,Ao,AC]
def Ix:SC:=(.seq (.reg [⟨some 1,none,.boxv 29 5 (.t 0)⟩,⟨some 2,none,.mv (.c (.int .i64 0))⟩]) (.seq (.reg [⟨some 3,none,.mv (.c (.int .i64 1))⟩]) (.seq (.seq (.reg [⟨some 4,none,.mv (.c (.int .i64 0))⟩]) (.block 0 (.loop [0,1,0,1,1,0,0,0,0,0,0,0,0,0,0,0,0,0,0,0,0] (.seq (.seq (.reg [⟨some 5,none,.mv (.t 4)⟩,⟨some 6,none,.faddr 4 (.t 1)⟩,⟨some 7,none,.load false 1 (.t 6)⟩,⟨some 8,none,.len false (.t 7)⟩,⟨some 9,none,.bin .lss false (.t 5) (.t 8)⟩]) (.cond (.t 9) .skip (.exit 0))) (.seq (.block 1 (.reg [⟨some 12,none,.mv (.t 3)⟩,⟨some 13,none,.faddr 4 (.t 1)⟩,⟨some 14,none,.load false 1 (.t 13)⟩,⟨some 15,none,.mv (.t 4)⟩,⟨some 16,none,.iaddr 5 (.t 14) (.t 15)⟩,⟨some 17,none,.load true 5 (.t 16)⟩,⟨some 18,none,.call 29 [(.t 17)]⟩,⟨some 19,none,.bin .add false (.t 12) (.t 18)⟩,⟨some 3,none,.mv (.t 19)⟩])) (.reg [⟨some 10,none,.mv (.t 4)⟩,⟨some 11,none,.bin .add false (.t 10) (.c (.int .i64 1))⟩,⟨some 4,none,.mv (.t 11)⟩])))))) (.seq (.reg [⟨some 20,none,.mv (.t 3)⟩,⟨some 2,none,.mv (.t 20)⟩]) .ret))))
theorem MC:Ar Tryz.prog 29=some ⟨21,Ix,[(.tmp 2)]⟩:=by kernel_rfl
theorem Bx:modes 29=⟨[],.asis,none,false⟩:=by unfold modes; rfl
def AL:SC:=(.seq (.reg [⟨(some 2),none,(.alloc 29 [(.int .i64 0),(.str ⟨#[]⟩),.nil,(.str ⟨#[]⟩),.nil])⟩]) (.seq (.reg [⟨some 5,none,.mv (.t 0)⟩,⟨some 6,none,.call 27 [(.t 5)]⟩,⟨(some 3),none,(.alloc 29 [(.int .i64 0),(.str ⟨#[]⟩),.nil,(.str ⟨#[]⟩),.nil])⟩,⟨none,none,(.store 5 (.t 3) (.t 6))⟩]) (.seq (.seq (.reg [⟨some 7,none,.mv (.t 0)⟩,⟨some 8,none,.call 28 [(.t 7),(.c (.int .i64 24))]⟩]) (.block 0 (.seq (.reg [⟨some 10,none,.bin .eql false (.t 8) (.c (.int .i64 0))⟩,⟨some 9,none,.mv (.t 10)⟩]) (.cond (.t 9) (.reg [⟨some 11,none,.mv (.t 0)⟩,⟨some 12,none,.call 28 [(.t 11),(.c (.int .i64 11))]⟩,⟨some 13,none,.faddr 0 (.t 3)⟩,⟨none,none,(.store 1 (.t 13) (.t 12))⟩]) (.seq (.reg [⟨some 15,none,.bin .eql false (.t 8) (.c (.int .i64 1))⟩,⟨some 14,none,.mv (.t 15)⟩]) (.cond (.t 14) (.reg [⟨some 16,none,.mv (.t 0)⟩,⟨(some 17),none,(.mkrow 9 1 [(.str ⟨#[]⟩)] 3 [(0,(.c (.str ⟨#[88]⟩))),(1,(.c (.str ⟨#[97]⟩))),(2,(.c (.str ⟨#[]⟩)))])⟩,⟨some 18,none,.call 13 [(.t 16),(.t 17)]⟩,⟨some 19,none,.faddr 3 (.t 3)⟩,⟨none,none,(.store 1 (.t 19) (.t 18))⟩]) (.seq (.reg [⟨some 21,none,.bin .eql false (.t 8) (.c (.int .i64 2))⟩,⟨some 20,none,.mv (.t 21)⟩]) (.cond (.t 20) (.reg [⟨some 22,none,.mv (.t 0)⟩,⟨some 23,none,.call 14 [(.t 22)]⟩,⟨some 24,none,.faddr 1 (.t 3)⟩,⟨none,none,(.store 2 (.t 24) (.t 23))⟩]) (.seq (.reg [⟨some 26,none,.bin .eql false (.t 8) (.c (.int .i64 3))⟩,⟨some 25,none,.mv (.t 26)⟩]) (.cond (.t 25) (.dreg [[],[0],[],[2],[3,2],[1,0,4,3,2],[0,1,2,3,4,5],[6,0,1,2,3,4,5]] [⟨some 27,none,.faddr 4 (.t 3)⟩,⟨some 28,none,.load false 1 (.t 27)⟩,⟨some 29,none,.mv (.t 0)⟩,⟨some 30,none,.call 27 [(.t 29)]⟩,⟨(some 31),none,(.mkrow 29 5 [(.int .i64 0),(.str ⟨#[]⟩),.nil,(.str ⟨#[]⟩),.nil] 1 [(0,(.t 30))])⟩,⟨(some 32),none,(.append 29 5 88 [(.int .i64 0),(.str ⟨#[]⟩),.nil,(.str ⟨#[]⟩),.nil] (.t 28) (.t 31))⟩,⟨some 33,none,.faddr 4 (.t 3)⟩,⟨none,none,(.store 1 (.t 33) (.t 32))⟩]) (.seq (.reg [⟨some 35,none,.bin .eql false (.t 8) (.c (.int .i64 4))⟩,⟨some 34,none,.mv (.t 35)⟩]) (.cond (.t 34) (.seq (.reg [⟨some 36,none,.mv (.t 0)⟩,⟨some 37,none,.call 28 [(.t 36),(.c (.int .i64 5))]⟩,⟨some 38,none,.bin .add false (.c (.int .i64 36)) (.t 37)⟩,⟨some 4,none,.mv (.t 38)⟩]) (.block 1 (.loop [0,0,1,1,1,0,0,0,0,0,0,0,0,0,0,0,0,0,0,0,0,0,0,0,0,0,0,0,0,0,0,0,0,0,0,0,0,0,0,0,0,0,0,0,0,0,0,0,0,0,0,0,0,0,0,0,0,0,0] (.seq (.seq (.reg [⟨some 39,none,.load true 5 (.t 3)⟩,⟨some 40,none,.call 29 [(.t 39)]⟩,⟨some 41,none,.mv (.t 4)⟩,⟨some 42,none,.bin .lss false (.t 40) (.t 41)⟩]) (.cond (.t 42) .skip (.exit 1))) (.block 2 (.reg [⟨some 43,none,.load true 5 (.t 3)⟩,⟨(some 44),none,(.mkrow 29 5 [(.int .i64 0),(.str ⟨#[]⟩),.nil,(.str ⟨#[]⟩),.nil] 1 [(0,(.t 43))])⟩,⟨(some 45),none,(.build [(.int .i64 0),(.str ⟨#[]⟩),.nil,(.str ⟨#[]⟩),.nil] [(0,(1,(.c (.int .i64 4)))),(4,(1,(.t 44)))])⟩,⟨none,none,(.store 5 (.t 3) (.t 45))⟩])))))) (.seq (.reg [⟨some 47,none,.bin .eql false (.t 8) (.c (.int .i64 5))⟩,⟨some 46,none,.mv (.t 47)⟩]) (.cond (.t 46) (.seq (.reg [⟨some 48,none,.faddr 4 (.t 3)⟩,⟨some 49,none,.load false 1 (.t 48)⟩,⟨some 50,none,.len false (.t 49)⟩,⟨some 51,none,.bin .gtr false (.t 50) (.c (.int .i64 0))⟩]) (.cond (.t 51) (.dreg [[],[0],[],[2],[1,0,2,3],[4,1,0,2,3],[5,4,1,0,2,3]] [⟨some 52,none,.faddr 4 (.t 3)⟩,⟨some 53,none,.load false 1 (.t 52)⟩,⟨some 54,none,.mv (.t 0)⟩,⟨some 55,none,.call 28 [(.t 54),(.c (.int .i64 11))]⟩,⟨some 56,none,.iaddr 5 (.t 53) (.c (.int .i64 0))⟩,⟨some 57,none,.faddr 0 (.t 56)⟩,⟨none,none,(.store 1 (.t 57) (.t 55))⟩]) .skip)) .skip)))))))))))))) (.seq (.reg [⟨some 58,none,.load true 5 (.t 3)⟩,⟨none,none,(.store 5 (.t 2) (.t 58))⟩]) .ret))))
theorem Bb:Ar Tryz.prog 12=some ⟨59,AL,[(.cell 2 true 5)]⟩:=by kernel_rfl
theorem AM:modes 12=⟨[],.half [none,none,some (26,2),none,some (29,5)],none,false⟩:=by unfold modes; rfl
theorem SO (x:Fm) (hn:x.nodes≤1099511627776) (ih:∀ y∈x.parts,E 29 [y.sv] []=some (.int .i64 y.nodes,[])):E 29 [x.sv] []=some (.int .i64 x.nodes,[]):=by
 have hl:=Fm.length_le x.parts
 have hne:=Fm.nodes_eq x
 refine Ai MC Bx (of_decide_eq_true rfl) ?_
 simp (disch:=omega) only [Ix,go_sem,Ab]
 refine go_loop (α:=Int × (Int)) (fun a=>⟨slots 21 0 [(1,.ptr 0 0),(3,.int .i64 (a.2)),(4,.int .i64 (a.1))],[.box 29 [.int .i64 x.op,.str x.atom.name,.arr (x.atom.args.map Tm.d),.str x.var,.arr (x.parts.map Fm.d)]]⟩) (fun a=>∃ k:Nat,a.1=k∧k≤(x.parts).length∧(a.2)=((1+Fm.nodeS (x.parts.take k):Nat):Int)) (fun a=>(x.parts).length-(a.1).toNat) (0,1) ⟨0,rfl,zK _,by rw [zN]; rfl⟩ (by simp (disch:=omega) only [go_sem,Ab]) ?_
 rintro ⟨i,n⟩ ⟨k,hi,hk,hR⟩
 dsimp only at hi hR
 have hni:i.toNat=k:=by omega
 have hni1:(i+1).toNat=k+1:=by omega
 rcases zC k (x.parts).length with hlt | hge
 ·have hg:=get_at Fm.d hlt
  rw [Fm.d_eq] at hg
  have hc:=ih x.parts[k] (zG hlt)
  have ht:=Fm.LL x.parts k hlt
  have htl:=Fm.M8 x.parts (k+1)
  have hi2:dec (inK .i64 (n+(x.parts[k].nodes:Int)))=true:=BA (by omega) (by omega)
  simp (disch:=omega) only [go_sem,Ab,hni,hg,hc,hi2,Bx]
  exact ⟨(i+1,n+(x.parts[k].nodes:Int)),⟨k+1,by dsimp only; omega,hlt,by dsimp only; omega⟩,by dsimp only; omega,by first | trivial | rfl⟩
 ·obtain rfl:k=x.parts.length:=by omega
  rw [yA,← hne] at hR
  rw [←hR]
  simp (disch:=omega) only [go_sem,Ab,hni]
theorem PQ (x:Fm) (hn:x.nodes≤1099511627776):E 29 [x.sv] []=some (.int .i64 x.nodes,[]) :=
 SO x hn fun y hy=>PQ y (by have:=Fm.nodes_mem hy; have:=Fm.nodes_eq x; omega)
termination_by SizeOf.sizeOf x
decreasing_by exact Fm.lt_of_mem hy
def EJ (x:Fm):Nat→Fm
 | 0=>x
 | k+1=>.mk 4 Tm.zero ⟨#[]⟩ [EJ x k]
theorem GS (x:Fm):∀ k,(EJ x k).nodes=x.nodes+k
 | 0=>rfl
 | k+1=>by
  have:(EJ x (k+1)).nodes=1+((EJ x k).nodes+0):=by rw [EJ,Fm.nodes_mk]; rfl
  rw [this,GS x k]; omega
theorem NL {x:Fm} (h:x.tame):∀ k,(EJ x k).tame
 | 0=>h
 | k+1=>Fm.C4 (by rw [EF]; omega) (Fm.Mp (NL h k))
theorem Fm.nodeS_app:∀ (a b:List Fm),Fm.nodeS (a++b)=Fm.nodeS a+Fm.nodeS b
 | [],b=>by simp [Fm.nodeS]
 | x :: a,b=>by simp only [List.cons_append,Fm.nodeS,Fm.nodeS_app a b]; omega
theorem Fm.NM:∀ {a b:List Fm},Fm.CO a→Fm.CO b→Fm.CO (a++b)
 | [],b,_,h=>h
 | x :: a,b,h,k=>by
  simp only [Fm.CO] at h
  simp only [List.cons_append,Fm.CO]
  exact ⟨h.1,Fm.NM h.2 k⟩
theorem Fm.RO {x:Fm} (h:x.tame):Fm.CO x.parts:=by rw [Fm.GJ] at h; exact h.2
theorem O7 (l:List Int) (hl:Bytes l) (hn:l.length≤1099511627776) (p s:Int) (h0:0≤p) (h1:p≤1060000000000):∃ x p' s',E 12 [.ptr 0 0] [cur l p s]=some (fmH x 1 2,[cur l p' s',PP x,QR x])∧(p≤p'∧p'≤p+5000)∧x.nodes≤100∧x.tame:=by
 obtain ⟨Q,hQ⟩:∃ Q:SV × List Ob→Prop,Q=fun out=>∃ x p' s',out=(fmH x 1 2,[cur l p' s',PP x,QR x])∧(p≤p'∧p'≤p+5000)∧x.nodes≤100∧x.tame:=⟨_,rfl⟩
 suffices hq0:∃ out,E 12 [.ptr 0 0] [cur l p s]=some out∧Q out by
  obtain ⟨out,hq1,hq2⟩:=hq0
  rw [hQ] at hq2
  obtain ⟨x,p',s',rfl,hq3⟩:=hq2
  exact ⟨x,p',s',hq1,hq3⟩
 obtain ⟨x,p1,s1,hf,⟨g1,g2⟩,g3,hta⟩:=NK l hl hn p s h0 (by omega)
 obtain ⟨v,p2,s2,hv,⟨v0,v1⟩,g4,g5⟩:=Es l hl hn 24 (by omega) (by omega) p1 s1 (by omega) (by omega)
 have hlen:=Fm.length_le x.parts
 have hne:=Fm.nodes_eq x
 have hat:=Fm.tame_at hta
 have hps:=Fm.RO hta
 rcases (show v=0∨v=1∨v=2∨v=3∨v=4∨v=5∨(¬ v=0∧¬ v=1∧¬ v=2∧¬ v=3∧¬ v=4∧¬ v=5) by omega) with rfl | rfl | rfl | rfl | rfl | rfl | ⟨k0,k1,k2,k3,k4,k5⟩
 ·obtain ⟨u,p3,s3,hu,_,g6,g7⟩:=Es l hl hn 11 (by omega) (by omega) p2 s2 (by omega) (by omega)
  refine AS Bb AM (of_decide_eq_true rfl) ?_
  simp (disch:=omega) only [AL,go_sem,Ab,hf,hv,hu,Ao,Bi,Au,A1,Bx]
  rw [hQ]
  exact ⟨.mk u x.atom x.var x.parts,p3,s3,rfl,by omega,by rw [Fm.nodes_mk]; omega,Fm.C4 hat hps⟩
 ·obtain ⟨y,p3,s3,hu,_,g6,g7⟩:=PK l hl hn [⟨#[88]⟩,⟨#[97]⟩,⟨#[]⟩] (by decide) (by decide) p2 s2 (by omega) (by omega)
  simp only [zP,zH] at hu
  refine AS Bb AM (of_decide_eq_true rfl) ?_
  simp (disch:=omega) only [AL,go_sem,Ab,hf,hv,hu,Ao,Bi,Au,A1,Bx]
  rw [hQ]
  exact ⟨.mk x.op x.atom y x.parts,p3,s3,rfl,by omega,by rw [Fm.nodes_mk]; omega,Fm.C4 hat hps⟩
 ·obtain ⟨t,p3,s3,hu,⟨g6,g7⟩,g8⟩:=NI l hl hn p2 s2 (by omega) (by omega)
  refine AS Bb AM (of_decide_eq_true rfl) ?_
  simp (disch:=omega) only [AL,go_sem,Ab,hf,hv,hu,Ao,Bi,Au,A1,Bx]
  rw [hQ]
  exact ⟨.mk x.op t x.var x.parts,p3,s3,rfl,by omega,by rw [Fm.nodes_mk]; omega,Fm.C4 (by omega) hps⟩
 ·obtain ⟨y,p3,s3,hu,⟨g6,g7⟩,g8,hty⟩:=NK l hl hn p2 s2 (by omega) (by omega)
  have hxl:x.parts.length≤31:=by omega
  refine AS Bb AM (of_decide_eq_true rfl) ?_
  simp (disch:=omega) only [AL,go_sem,Ab,hf,hv,hu,Ao,Bi,Au,A1,Bx]
  rw [hQ]
  refine ⟨.mk x.op x.atom x.var (x.parts++[y]),p3,s3,?_,by omega,by rw [Fm.nodes_mk,Fm.nodeS_app]; show 1+(_+(y.nodes+0))≤_; omega,Fm.C4 hat (Fm.NM hps (Fm.Mp hty))⟩
  show _=(fmH (.mk x.op x.atom x.var (x.parts++[y])) 1 2,[cur l p3 s3,PP x,.row 29 5 ((x.parts++[y]).map Fm.hs)])
  rw [zR]
  rfl
 ·obtain ⟨u,p3,s3,hu,⟨u0,u1⟩,g6,g7⟩:=Es l hl hn 5 (by omega) (by omega) p2 s2 (by omega) (by omega)
  have hi:dec (inK .i64 (36+u))=true:=BA (by omega) (by omega)
  refine AS Bb AM (of_decide_eq_true rfl) ?_
  simp (disch:=omega) only [AL,go_sem,Ab,hf,hv,hu,hi,Ao,Bi,Au,A1,Bx]
  refine go_loop (α:=Nat × List (List OT) × List (List OT)) (fun a=>⟨slots 59 0 [(2,.ptr 1 0),(3,.ptr 2 0),(4,.int .i64 (36+u))],(if a.1=0 then [cur l p3 s3,.box 29 [.int .i64 0,.str ⟨#[]⟩,.nil,.str ⟨#[]⟩,.nil],.box 29 [.int .i64 x.op,.str x.atom.name,.ref 3,.str x.var,.ref 4],PP x,QR x] else [cur l p3 s3,.box 29 [.int .i64 0,.str ⟨#[]⟩,.nil,.str ⟨#[]⟩,.nil],.box 29 [.int .i64 4,.str ⟨#[]⟩,.nil,.str ⟨#[]⟩,.ref 3],.row 29 5 [[.int (EJ x (a.1-1)).op,.str (EJ x (a.1-1)).atom.name,.ow a.2.1,.str (EJ x (a.1-1)).var,.ow a.2.2]]])⟩) (fun a=>(a.1=0∨(OT.erss a.2.1=(EJ x (a.1-1)).atom.args.map Tm.d∧OT.erss a.2.2=(EJ x (a.1-1)).parts.map Fm.d∧OT.AH a.2.1=true∧OT.AH a.2.2=true))∧a.1≤50) (fun a=>50-a.1) (0,[],[]) ⟨.inl rfl,by omega⟩ (by simp (disch:=omega) only [go_sem,Ab,eq_self,if_true]) ?_
  rintro ⟨k,A,B⟩ ⟨hR,hk⟩
  dsimp only at hR hk
  have hsz:=PQ (EJ x k) (by rw [GS]; omega)
  rw [GS] at hsz
  have hnn:=GS x k
  rcases zI k with hk0 | hk0
  ·subst hk0
   have hsz:E 29 [.agg [.int .i64 x.op,.str x.atom.name,.arr (x.atom.args.map Tm.d),.str x.var,.arr (x.parts.map Fm.d)]] []=some (.int .i64 ((x.nodes+0:Nat):Int),[]):=hsz
   have q6:((0:Nat)+1=0)=False:=by simp
   by_cases hc:((x.nodes+0:Nat):Int)<36+u
   ·have q1:(((x.nodes+0:Nat):Int)<36+u)=True:=eq_true hc
    simp (disch:=omega) only [go_sem,Ab,hsz,q1,eq_self,if_true,Bx]
    refine ⟨(0+1,x.atom.args.map Tm.osh,x.parts.map Fm.hs),⟨.inr ⟨Tm.osh_er _,Fm.UC _,Tm.osh_full _,Fm.O6 _⟩,by dsimp only; omega⟩,by dsimp only; omega,?_⟩
    simp (disch:=omega) only [go_sem,Ab,q6,if_false,Nat.add_sub_cancel]
    first | rfl | exact ⟨rfl,rfl⟩
   ·exact absurd (show ((x.nodes+0:Nat):Int)<36+u by omega) hc
  ·obtain ⟨j,rfl⟩:∃ j,k=j+1:=⟨k-1,by omega⟩
   obtain ⟨e1,e2,e3,e4⟩:=hR.resolve_left (by omega)
   rw [Nat.add_sub_cancel] at e1 e2
   have hsv:(EJ x (j+1)).sv=.agg [.int .i64 4,.str ⟨#[]⟩,.arr [],.str ⟨#[]⟩,.arr [[.int (EJ x j).op,.str (EJ x j).atom.name,.arr ((EJ x j).atom.args.map Tm.d),.str (EJ x j).var,.arr ((EJ x j).parts.map Fm.d)]]]:=by
    show SV.agg [.int .i64 4,.str ⟨#[]⟩,.arr (([]:List Tm).map Tm.d),.str ⟨#[]⟩,.arr ([EJ x j].map Fm.d)]=_
    rw [zP,zH,zH,Fm.d_eq]
   rw [hsv] at hsz
   have q8:(j+1=0)=False:=by simp
   have q9:j+1-1=j:=by omega
   have q10:(j+1+1=0)=False:=by simp
   have q11:j+1+1-1=j+1:=by omega
   by_cases hc:((x.nodes+(j+1):Nat):Int)<36+u
   ·have q1:(((x.nodes+(j+1):Nat):Int)<36+u)=True:=eq_true hc
    simp (disch:=omega) only [go_sem,Ab,hsz,q1,q8,q9,if_false,e1,e2,e3,e4,Bx]
    refine ⟨(j+1+1,[],[[.int (EJ x j).op,.str (EJ x j).atom.name,.ow A,.str (EJ x j).var,.ow B]]),⟨.inr ⟨?_,?_,rfl,?_⟩,by dsimp only; omega⟩,by dsimp only; omega,?_⟩
    ·dsimp only; rw [q11]; rfl
    ·dsimp only; rw [q11]
     simp only [OT.erss,OT.ers,OT.er,e1,e2]
     rw [show (EJ x (j+1)).parts=[EJ x j] from rfl,zP,zH,Fm.d_eq]
    ·simp only [OT.AH,OT.CR,OT.full,e3,e4,yG]
    ·simp (disch:=omega) only [go_sem,Ab,q10,q11,if_false]
     first | rfl | exact ⟨rfl,rfl⟩
   ·have q1:(((x.nodes+(j+1):Nat):Int)<36+u)=False:=eq_false hc
    simp (disch:=omega) only [go_sem,Ab,hsz,q1,q8,q9,if_false,e1,e2,e3,e4,Bx]
    rw [hQ]
    exact ⟨EJ x (j+1),p3,s3,rfl,by omega,by omega,NL hta _⟩
 ·rcases hc:x.parts with _ | ⟨a0,ar⟩
  ·have q0:((0:Int)<(x.parts.length:Int))=False:=eq_false (by rw [hc]; simp)
   rw [←hc] at *
   refine AS Bb AM (of_decide_eq_true rfl) ?_
   simp (disch:=omega) only [AL,go_sem,Ab,hf,hv,q0,Ao,Bi,Au,A1,Bx]
   rw [hQ]
   exact ⟨x,p2,s2,rfl,by omega,by omega,hta⟩
  ·have q0:((0:Int)<(x.parts.length:Int))=True:=eq_true (by rw [hc]; simp)
   obtain ⟨u,p3,s3,hu,_,g6,g7⟩:=Es l hl hn 11 (by omega) (by omega) p2 s2 (by omega) (by omega)
   have hm:x.parts.map Fm.hs=[.int a0.op,.str a0.atom.name,.sh (a0.atom.args.map Tm.d),.str a0.var,.sh (a0.parts.map Fm.d)] :: ar.map Fm.hs:=by rw [hc]; rfl
   have hgl:(x.parts.map Fm.hs)[0]?=some [.int a0.op,.str a0.atom.name,.sh (a0.atom.args.map Tm.d),.str a0.var,.sh (a0.parts.map Fm.d)]:=by rw [hm]; rfl
   have hst:∀ y,(x.parts.map Fm.hs).set 0 y=y :: ar.map Fm.hs:=fun y=>by rw [hm]; rfl
   have q1:0<x.parts.length:=by rw [hc]; simp
   have hnn:x.nodes=1+(a0.nodes+Fm.nodeS ar):=by rw [Fm.nodes_eq,hc]; rfl
   rw [hc] at hps
   simp only [Fm.CO] at hps
   refine AS Bb AM (of_decide_eq_true rfl) ?_
   simp (disch:=omega) only [AL,go_sem,Ab,hf,hv,q0,hu,hgl,hst,q1,Ao,Bi,Au,A1,Bx]
   rw [hQ]
   refine ⟨.mk x.op x.atom x.var (.mk u a0.atom a0.var a0.parts :: ar),p3,s3,rfl,by omega,?_,Fm.C4 hat ?_⟩
   ·rw [Fm.nodes_mk]
    show 1+((Fm.mk u a0.atom a0.var a0.parts).nodes+Fm.nodeS ar)≤_
    rw [Fm.nodes_mk]
    have:=Fm.nodes_eq a0
    omega
   ·simp only [Fm.CO]
    exact ⟨Fm.C4 (Fm.tame_at hps.1) (Fm.RO hps.1),hps.2⟩
 ·have k0:=eq_false k0
  have k1:=eq_false k1
  have k2:=eq_false k2
  have k3:=eq_false k3
  have k4:=eq_false k4
  have k5:=eq_false k5
  refine AS Bb AM (of_decide_eq_true rfl) ?_
  simp (disch:=omega) only [AL,go_sem,Ab,hf,hv,k0,k1,k2,k3,k4,k5,Ao,Bi,Au,A1,Bx]
  rw [hQ]
  exact ⟨x,p2,s2,rfl,by omega,by omega,hta⟩
def Iy:SC:=(.seq (.reg [⟨some 1,none,.boxv 29 5 (.t 0)⟩,⟨some 2,none,.mv (.c (.int .i64 0))⟩]) (.seq (.reg [⟨some 3,none,.mv (.c (.int .i64 1))⟩]) (.seq (.seq (.reg [⟨some 6,none,.faddr 4 (.t 1)⟩,⟨some 7,none,.load false 1 (.t 6)⟩,⟨some 8,none,.len false (.t 7)⟩,⟨some 9,none,.mv (.c (.int .i64 0))⟩]) (.block 0 (.loop [0,0,0,1,0,0,0,1,1,1,0,0,0,0,0,0,0,0,0,0,0,0] (.seq (.reg [⟨some 10,none,.bin .lss false (.t 9) (.t 8)⟩]) (.seq (.cond (.t 10) .skip (.exit 0)) (.seq (.block 1 (.seq (.reg [⟨some 11,none,.iaddr 5 (.t 7) (.t 9)⟩,⟨some 12,none,.load true 5 (.t 11)⟩,⟨(some 5),none,(.alloc 29 [(.int .i64 0),(.str ⟨#[]⟩),.nil,(.str ⟨#[]⟩),.nil])⟩,⟨none,none,(.store 5 (.t 5) (.t 12))⟩]) (.seq (.seq (.reg [⟨some 13,none,.mv (.t 3)⟩,⟨some 14,none,.bin .gtr false (.t 13) (.c (.int .i64 40))⟩]) (.cond (.t 14) (.seq (.reg [⟨some 15,none,.mv (.t 3)⟩,⟨some 2,none,.mv (.t 15)⟩]) .ret) .skip)) (.reg [⟨some 16,none,.mv (.t 3)⟩,⟨some 17,none,.load true 5 (.t 5)⟩,⟨some 18,none,.call 33 [(.t 17)]⟩,⟨some 19,none,.bin .add false (.t 16) (.t 18)⟩,⟨some 3,none,.mv (.t 19)⟩])))) (.reg [⟨some 20,none,.bin .add false (.t 9) (.c (.int .i64 1))⟩,⟨some 9,none,.mv (.t 20)⟩]))))))) (.seq (.reg [⟨some 21,none,.mv (.t 3)⟩,⟨some 2,none,.mv (.t 21)⟩]) .ret))))
theorem MD:Ar Tryz.prog 33=some ⟨22,Iy,[(.tmp 2)]⟩:=by kernel_rfl
theorem DA:modes 33=⟨[],.asis,none,false⟩:=by unfold modes; rfl
theorem UD (x:Fm) (hn:x.nodes≤1099511627776) (ih:∀ y∈x.parts,E 33 [y.sv] []=some (.int .i64 y.cap,[])):E 33 [x.sv] []=some (.int .i64 x.cap,[]):=by
 have hl:=Fm.length_le x.parts
 have hx:=Fm.nodes_eq x
 rw [Fm.cap_eq]
 refine Ai MD DA (of_decide_eq_true rfl) ?_
 simp (disch:=omega) only [Iy,go_sem,Ab]
 refine go_loop (α:=Int × Int) (fun a=>⟨slots 22 0 [(3,.int .i64 a.2),(7,.arr (x.parts.map Fm.d)),(8,.int .i64 x.parts.length),(9,.int .i64 a.1)],[]⟩) (fun a=>∃ k:Nat,a.1=k∧k≤x.parts.length∧1≤a.2∧a.2+Fm.nodeS (x.parts.drop k)≤x.nodes∧Fm.capL (x.parts.drop k) a.2=Fm.capL x.parts 1) (fun a=>x.parts.length-a.1.toNat) (0,1) ⟨0,rfl,zK _,by dsimp only; omega,by rw [zJ]; dsimp only; omega,rfl⟩ (by simp (disch:=omega) only [go_sem,Ab]) ?_
 rintro ⟨i,n⟩ ⟨k,hi,hk,hn0,hn1,hs⟩
 dsimp only at hi hn0 hn1 hs
 have hni:i.toNat=k:=by omega
 rcases zC k x.parts.length with hlt | hge
 ·have hg:=get_at Fm.d hlt
  rw [Fm.d_eq] at hg
  have hd:x.parts.drop k=x.parts[k] :: x.parts.drop (k+1):=zB hlt
  have hc:=ih x.parts[k] (zG hlt)
  have hp:=Fm.cap_spec x.parts[k]
  rw [hd,Fm.capL] at hs
  rw [hd,Fm.nodeS] at hn1
  rcases Int.lt_or_le 40 n with h30 | h30
  ·rw [if_pos h30] at hs
   simp (disch:=omega) only [go_sem,Ab,hni,hg,hc,DA]
   exact hs
  ·rw [if_neg (by omega)] at hs
   simp (disch:=omega) only [go_sem,Ab,hni,hg,hc,DA]
   refine ⟨(i+1,n+x.parts[k].cap),⟨k+1,by dsimp only; omega,hlt,by dsimp only; omega,by dsimp only; omega,hs⟩,by dsimp only; omega,?_⟩
   simp only [and_self]
 ·have hd:x.parts.drop k=[]:=zF hge
  rw [hd,Fm.capL] at hs
  simp (disch:=omega) only [go_sem,Ab,hni]
  exact hs
theorem RP (x:Fm) (hn:x.nodes≤1099511627776):E 33 [x.sv] []=some (.int .i64 x.cap,[]) :=
 UD x hn fun y hy=>RP y (by have:=Fm.nodes_mem hy; have:=Fm.nodes_eq x; omega)
termination_by SizeOf.sizeOf x
decreasing_by exact Fm.lt_of_mem hy
def Iz:SC:=(.seq (.reg [⟨some 2,none,.boxv 29 5 (.t 0)⟩,⟨some 4,none,.mv (.c (.int .i64 0))⟩]) (.seq (.reg [⟨some 5,none,.mv (.c (.int .i64 1))⟩]) (.seq (.seq (.reg [⟨some 6,none,.mv (.c (.int .i64 0))⟩]) (.block 0 (.loop [0,1,1,0,0,1,1,0,0,0,0,0,0,0,0,0,0,0,0,0,0,0,0,0,0,0,0,0,0,0,0] (.seq (.seq (.reg [⟨some 7,none,.mv (.t 6)⟩,⟨some 8,none,.faddr 4 (.t 2)⟩,⟨some 9,none,.load false 1 (.t 8)⟩,⟨some 10,none,.len false (.t 9)⟩,⟨some 11,none,.bin .lss false (.t 7) (.t 10)⟩,⟨some 12,none,.mv (.t 11)⟩,⟨(some 13),(some (12,true)),(.mv (.t 5))⟩,⟨(some 14),(some (12,true)),(.mv (.t 1))⟩,⟨(some 15),(some (12,true)),(.bin .leq false (.t 13) (.t 14))⟩,⟨some 16,none,.pick (.t 12) (.t 15) (.c (.bool false))⟩]) (.cond (.t 16) .skip (.exit 0))) (.seq (.block 1 (.reg [⟨some 19,none,.mv (.t 5)⟩,⟨some 20,none,.faddr 4 (.t 2)⟩,⟨some 21,none,.load false 1 (.t 20)⟩,⟨some 22,none,.mv (.t 6)⟩,⟨some 23,none,.iaddr 5 (.t 21) (.t 22)⟩,⟨some 24,none,.load true 5 (.t 23)⟩,⟨some 25,none,.mv (.t 1)⟩,⟨some 26,none,.mv (.t 5)⟩,⟨some 27,none,.bin .sub false (.t 25) (.t 26)⟩,⟨some 28,none,.call 49 [(.t 24),(.t 27)]⟩,⟨some 29,none,.bin .add false (.t 19) (.t 28)⟩,⟨some 5,none,.mv (.t 29)⟩])) (.reg [⟨some 17,none,.mv (.t 6)⟩,⟨some 18,none,.bin .add false (.t 17) (.c (.int .i64 1))⟩,⟨some 6,none,.mv (.t 18)⟩])))))) (.seq (.reg [⟨some 30,none,.mv (.t 5)⟩,⟨some 4,none,.mv (.t 30)⟩]) .ret))))
theorem ME:Ar Tryz.prog 49=some ⟨31,Iz,[(.tmp 4)]⟩:=by kernel_rfl
theorem DB:modes 49=⟨[],.asis,none,false⟩:=by unfold modes; rfl
theorem UE (x:Fm) (m:Int) (hm:0≤m) (hm1:m≤1099511627776) (hn:x.nodes≤1099511627776) (ih:∀ y∈x.parts,∀ m:Int,0≤m→m≤1099511627776→E 49 [y.sv,.int .i64 m] []=some (.int .i64 (y.many m),[])):E 49 [x.sv,.int .i64 m] []=some (.int .i64 (x.many m),[]):=by
 have hl:=Fm.length_le x.parts
 have hx:=Fm.nodes_eq x
 rw [Fm.many_eq]
 refine Ai ME DB (of_decide_eq_true rfl) ?_
 simp (disch:=omega) only [Iz,go_sem,Ab]
 refine go_loop (α:=Int × Int) (fun a=>⟨slots 31 0 [(1,.int .i64 m),(2,.ptr 0 0),(5,.int .i64 a.2),(6,.int .i64 a.1)],[.box 29 [.int .i64 x.op,.str x.atom.name,.arr (x.atom.args.map Tm.d),.str x.var,.arr (x.parts.map Fm.d)]]⟩) (fun a=>∃ k:Nat,a.1=k∧k≤x.parts.length∧1≤a.2∧a.2+Fm.nodeS (x.parts.drop k)≤x.nodes∧Fm.manyL (x.parts.drop k) m a.2=Fm.manyL x.parts m 1) (fun a=>x.parts.length-a.1.toNat) (0,1) ⟨0,rfl,zK _,by dsimp only; omega,by rw [zJ]; dsimp only; omega,rfl⟩ (by simp (disch:=omega) only [go_sem,Ab]) ?_
 rintro ⟨i,n⟩ ⟨k,hi,hk,hn0,hn1,hs⟩
 dsimp only at hi hn0 hn1 hs
 have hni:i.toNat=k:=by omega
 rcases zC k x.parts.length with hlt | hge
 ·have hg:=get_at Fm.d hlt
  rw [Fm.d_eq] at hg
  have hd:x.parts.drop k=x.parts[k] :: x.parts.drop (k+1):=zB hlt
  rw [hd,Fm.manyL] at hs
  rw [hd,Fm.nodeS] at hn1
  rcases Int.lt_or_le m n with h30 | h30
  ·rw [if_neg (by omega)] at hs
   simp (disch:=omega) only [go_sem,Ab,hni,hg,DB]
   exact hs
  ·rw [if_pos h30] at hs
   have hc:=ih x.parts[k] (zG hlt) (m-n) (by omega) (by omega)
   have hp:=Fm.many_spec x.parts[k] (m-n)
   simp (disch:=omega) only [go_sem,Ab,hni,hg,hc,DB]
   refine ⟨(i+1,n+x.parts[k].many (m-n)),⟨k+1,by dsimp only; omega,hlt,by dsimp only; omega,by dsimp only; omega,hs⟩,by dsimp only; omega,?_⟩
   simp only [and_self]
 ·have hd:x.parts.drop k=[]:=zF hge
  rw [hd,Fm.manyL] at hs
  simp (disch:=omega) only [go_sem,Ab,hni]
  exact hs
theorem RQ (x:Fm) (m:Int) (hm:0≤m) (hm1:m≤1099511627776) (hn:x.nodes≤1099511627776):E 49 [x.sv,.int .i64 m] []=some (.int .i64 (x.many m),[]) :=
 UE x m hm hm1 hn fun y hy m hm hm1=>RQ y m hm hm1 (by have:=Fm.nodes_mem hy; have:=Fm.nodes_eq x; omega)
termination_by SizeOf.sizeOf x
decreasing_by exact Fm.lt_of_mem hy
def D3:SC:=(.seq (.reg [⟨some 2,none,.mv (.c (.bool false))⟩]) (.seq (.reg [⟨some 3,none,.mv (.t 0)⟩,⟨some 4,none,.bin .eql false (.t 3) (.c (.int .i64 8))⟩,⟨some 5,none,.mv (.t 4)⟩,⟨(some 6),(some (5,false)),(.mv (.t 0))⟩,⟨(some 7),(some (5,false)),(.bin .eql false (.t 6) (.c (.int .i64 9)))⟩,⟨some 8,none,.pick (.t 5) (.c (.bool true)) (.t 7)⟩,⟨some 2,none,.mv (.t 8)⟩]) .ret))
theorem EU:Ar Tryz.prog 41=some ⟨9,D3,[(.tmp 2)]⟩:=by kernel_rfl
theorem Ac:modes 41=⟨[],.asis,none,false⟩:=by unfold modes; rfl
def Hf:SC:=(.seq (.reg [⟨some 2,none,.mv (.c (.bool false))⟩]) (.seq (.reg [⟨some 3,none,.mv (.t 0)⟩,⟨some 4,none,.bin .eql false (.t 3) (.c (.int .i64 5))⟩,⟨some 5,none,.mv (.t 4)⟩,⟨(some 6),(some (5,false)),(.mv (.t 0))⟩,⟨(some 7),(some (5,false)),(.bin .eql false (.t 6) (.c (.int .i64 6)))⟩,⟨some 8,none,.pick (.t 5) (.c (.bool true)) (.t 7)⟩,⟨some 9,none,.mv (.t 8)⟩,⟨(some 10),(some (9,false)),(.mv (.t 0))⟩,⟨(some 11),(some (9,false)),(.bin .eql false (.t 10) (.c (.int .i64 7)))⟩,⟨some 12,none,.pick (.t 9) (.c (.bool true)) (.t 11)⟩,⟨some 2,none,.mv (.t 12)⟩]) .ret))
theorem KE:Ar Tryz.prog 66=some ⟨13,Hf,[(.tmp 2)]⟩:=by kernel_rfl
theorem Ah:modes 66=⟨[],.asis,none,false⟩:=by unfold modes; rfl
def DW:SC:=(.seq (.reg [⟨some 1,none,.boxv 26 2 (.t 0)⟩,⟨some 2,none,.mv (.c (.bool false))⟩]) (.seq (.reg [⟨some 3,none,.faddr 0 (.t 1)⟩,⟨some 4,none,.load false 1 (.t 3)⟩,⟨(some 5),none,(.bin .eql false (.t 4) (.c (.str ⟨#[]⟩)))⟩,⟨some 6,none,.mv (.t 5)⟩,⟨(some 7),(some (6,true)),(.faddr 1 (.t 1))⟩,⟨(some 8),(some (6,true)),(.load false 1 (.t 7))⟩,⟨(some 9),(some (6,true)),(.len false (.t 8))⟩,⟨(some 10),(some (6,true)),(.bin .eql false (.t 9) (.c (.int .i64 0)))⟩,⟨some 11,none,.pick (.t 6) (.t 10) (.c (.bool false))⟩,⟨some 2,none,.mv (.t 11)⟩]) .ret))
theorem FS:Ar Tryz.prog 68=some ⟨12,DW,[(.tmp 2)]⟩:=by kernel_rfl
theorem Af:modes 68=⟨[],.asis,none,false⟩:=by unfold modes; rfl
def Gb:SC:=(.seq (.reg [⟨some 1,none,.boxv 26 2 (.t 0)⟩,⟨some 2,none,.mv (.c (.bool false))⟩]) (.seq (.reg [⟨some 3,none,.faddr 0 (.t 1)⟩,⟨some 4,none,.load false 1 (.t 3)⟩,⟨(some 5),none,(.bin .eql false (.t 4) (.c (.str ⟨#[]⟩)))⟩,⟨some 6,none,.mv (.t 5)⟩,⟨(some 7),(some (6,true)),(.faddr 1 (.t 1))⟩,⟨(some 8),(some (6,true)),(.load false 1 (.t 7))⟩,⟨(some 9),(some (6,true)),(.len false (.t 8))⟩,⟨(some 10),(some (6,true)),(.bin .eql false (.t 9) (.c (.int .i64 0)))⟩,⟨some 11,none,.pick (.t 6) (.t 10) (.c (.bool false))⟩,⟨some 2,none,.mv (.t 11)⟩]) .ret))
theorem I1:Ar Tryz.prog 104=some ⟨12,Gb,[(.tmp 2)]⟩:=by kernel_rfl
theorem Al:modes 104=⟨[],.asis,none,false⟩:=by unfold modes; rfl
def BJ:SC:=(.seq (.reg [⟨some 4,none,.mv (.c (.int .i64 0))⟩]) (.seq (.seq (.reg [⟨some 6,none,.mv (.t 0)⟩,⟨some 7,none,.len false (.t 6)⟩,⟨some 8,none,.mv (.c (.int .i64 0))⟩]) (.block 0 (.loop [1,1,0,0,0,0,0,1,1,0,0,0,0,0,0,0,0,0,0] (.seq (.reg [⟨some 9,none,.bin .lss false (.t 8) (.t 7)⟩]) (.seq (.cond (.t 9) .skip (.exit 0)) (.seq (.block 1 (.seq (.reg [⟨some 10,none,.mv (.t 8)⟩,⟨some 5,none,.mv (.t 10)⟩]) (.seq (.reg [⟨some 11,none,.mv (.t 1)⟩,⟨some 12,none,.mv (.t 0)⟩,⟨some 13,none,.mv (.t 5)⟩,⟨some 14,none,.iaddr 5 (.t 12) (.t 13)⟩,⟨some 15,none,.load true 5 (.t 14)⟩,⟨some 16,none,.callv (.t 11) [(.t 15)]⟩]) (.cond (.t 16) (.seq (.reg [⟨some 17,none,.mv (.t 5)⟩,⟨some 4,none,.mv (.t 17)⟩]) .ret) .skip)))) (.reg [⟨some 18,none,.bin .add false (.t 8) (.c (.int .i64 1))⟩,⟨some 8,none,.mv (.t 18)⟩]))))))) (.seq (.reg [⟨some 4,none,.mv (.c (.int .i64 (-(0+1))))⟩]) .ret)))
theorem CI:Ar Tryz.prog 93=some ⟨19,BJ,[(.tmp 4)]⟩:=by kernel_rfl
theorem BK:modes 93=⟨[],.asis,none,false⟩:=by unfold modes; rfl
def BC:SC:=(.seq (.reg [⟨some 4,none,.mv (.c (.bool false))⟩]) (.seq (.reg [⟨some 5,none,.mv (.t 0)⟩,⟨some 6,none,.mv (.t 1)⟩,⟨some 7,none,.call 93 [(.t 5),(.t 6)]⟩,⟨some 8,none,.bin .geq false (.t 7) (.c (.int .i64 0))⟩,⟨some 4,none,.mv (.t 8)⟩]) .ret))
theorem C5:Ar Tryz.prog 69=some ⟨9,BC,[(.tmp 4)]⟩:=by kernel_rfl
theorem Aa:modes 69=⟨[],.asis,none,false⟩:=by unfold modes; rfl
theorem KF (fid:Nat) (p:Fm→Bool) (xs:List Fm) (hl:xs.length≤1099511627776) (hg:Hm Tryz.prog fid=true) (hm:(modes fid).hand=[]) (hE:∀ x∈xs,E fid [x.sv] []=some (.bool (p x),[])):E 93 [.arr (xs.map Fm.d),.fn fid []] []=some (.int .i64 (D2 p xs 0),[]):=by
 refine Ai CI BK (of_decide_eq_true rfl) ?_
 simp (disch:=omega) only [BJ,go_sem,Ab]
 refine go_loop (α:=Int) (fun a=>⟨slots 19 0 [(0,.arr (xs.map Fm.d)),(1,.fn fid []),(7,.int .i64 xs.length),(8,.int .i64 a)],[]⟩) (fun a=>∃ k:Nat,a=k∧k≤(xs).length∧D2 p (xs.drop k) a=D2 p xs 0) (fun a=>(xs).length-(a).toNat) 0 ⟨0,rfl,zK _,by rw [zJ]⟩ (by simp (disch:=omega) only [go_sem,Ab]) ?_
 rintro i ⟨k,hi,hk,hR⟩
 have hni:i.toNat=k:=by omega
 have hni1:(i+1).toNat=k+1:=by omega
 rcases zC k (xs).length with hlt | hge
 ·have hg':=get_at Fm.d hlt
  rw [Fm.d_eq] at hg'
  have hc:=hE xs[k] (zG hlt)
  rw [zB hlt,D2] at hR
  cases hp:p xs[k] with
  | true =>
   rw [hp] at hc hR
   simp (disch:=omega) only [go_sem,Ab,hni,hg',hc,hg,hm]
   simpa using hR
  | false =>
   rw [hp] at hc hR
   simp (disch:=omega) only [go_sem,Ab,hni,hg',hc,hg,hm]
   exact ⟨i+1,⟨k+1,by omega,hlt,by simpa using hR⟩,by omega,by first | trivial | rfl⟩
 ·rw [zF hge,D2] at hR
  simp (disch:=omega) only [go_sem,Ab,hni]
  exact hR
theorem IW (fid:Nat) (p:Fm→Bool) (xs:List Fm) (hl:xs.length≤1099511627776) (hg:Hm Tryz.prog fid=true) (hm:(modes fid).hand=[]) (hE:∀ x∈xs,E fid [x.sv] []=some (.bool (p x),[])):E 69 [.arr (xs.map Fm.d),.fn fid []] []=some (.bool (xs.any p),[]):=by
 have h:=KF fid p xs hl hg hm hE
 refine Ai C5 Aa (of_decide_eq_true rfl) ?_
 simp (disch:=omega) only [BC,go_sem,Ab,h,BK]
 rw [LF]
def A7:SC:=(.seq (.reg [⟨some 1,none,.boxv 29 5 (.t 0)⟩,⟨some 2,none,.mv (.c (.bool false))⟩]) (.seq (.reg [⟨some 3,none,.mv (.c (.int .i64 0))⟩]) (.seq (.block 0 (.seq (.seq (.reg [⟨some 5,none,.faddr 0 (.t 1)⟩,⟨some 6,none,.load false 1 (.t 5)⟩,⟨some 7,none,.bin .eql false (.t 6) (.c (.int .i64 1))⟩,⟨some 4,none,.mv (.t 7)⟩]) (.cond (.t 4) .skip (.seq (.reg [⟨some 8,none,.faddr 0 (.t 1)⟩,⟨some 9,none,.load false 1 (.t 8)⟩,⟨some 10,none,.bin .eql false (.t 9) (.c (.int .i64 2))⟩,⟨some 4,none,.mv (.t 10)⟩]) (.cond (.t 4) .skip (.reg [⟨some 11,none,.faddr 0 (.t 1)⟩,⟨some 12,none,.load false 1 (.t 11)⟩,⟨some 13,none,.bin .eql false (.t 12) (.c (.int .i64 3))⟩,⟨some 4,none,.mv (.t 13)⟩]))))) (.cond (.t 4) .skip (.seq (.seq (.reg [⟨some 15,none,.faddr 0 (.t 1)⟩,⟨some 16,none,.load false 1 (.t 15)⟩,⟨some 17,none,.bin .eql false (.t 16) (.c (.int .i64 4))⟩,⟨some 14,none,.mv (.t 17)⟩]) (.cond (.t 14) .skip (.reg [⟨some 18,none,.faddr 0 (.t 1)⟩,⟨some 19,none,.load false 1 (.t 18)⟩,⟨some 20,none,.call 41 [(.t 19)]⟩,⟨some 14,none,.mv (.t 20)⟩]))) (.cond (.t 14) (.reg [⟨some 3,none,.mv (.c (.int .i64 1))⟩]) (.seq (.reg [⟨some 22,none,.faddr 0 (.t 1)⟩,⟨some 23,none,.load false 1 (.t 22)⟩,⟨some 24,none,.call 66 [(.t 23)]⟩,⟨some 21,none,.mv (.t 24)⟩]) (.cond (.t 21) (.reg [⟨some 3,none,.mv (.c (.int .i64 2))⟩]) (.seq (.reg [⟨some 2,none,.mv (.c (.bool false))⟩]) .ret)))))))) (.seq (.seq (.reg [⟨some 25,none,.faddr 4 (.t 1)⟩,⟨some 26,none,.load false 1 (.t 25)⟩,⟨some 27,none,.len false (.t 26)⟩,⟨some 28,none,.mv (.t 3)⟩,⟨some 29,none,.bin .neq false (.t 27) (.t 28)⟩,⟨some 30,none,.mv (.t 29)⟩,⟨(some 31),(some (30,false)),(.faddr 0 (.t 1))⟩,⟨(some 32),(some (30,false)),(.load false 1 (.t 31))⟩,⟨(some 33),(some (30,false)),(.call 41 [(.t 32)])⟩,⟨(some 34),(some (30,false)),(.mv (.t 33))⟩,⟨(some 35),(some (34,true)),(.faddr 3 (.t 1))⟩,⟨(some 36),(some (34,true)),(.load false 1 (.t 35))⟩,⟨(some 37),(some (34,true)),(.call 16 [(.t 36)])⟩,⟨(some 38),(some (34,true)),(.un .not (.t 37))⟩,⟨(some 39),(some (30,false)),(.pick (.t 34) (.t 38) (.c (.bool false)))⟩,⟨some 40,none,.pick (.t 30) (.c (.bool true)) (.t 39)⟩,⟨some 41,none,.mv (.t 40)⟩,⟨(some 42),(some (41,false)),(.faddr 0 (.t 1))⟩,⟨(some 43),(some (41,false)),(.load false 1 (.t 42))⟩,⟨(some 44),(some (41,false)),(.call 41 [(.t 43)])⟩,⟨(some 45),(some (41,false)),(.un .not (.t 44))⟩,⟨(some 46),(some (41,false)),(.mv (.t 45))⟩,⟨(some 47),(some (46,true)),(.faddr 3 (.t 1))⟩,⟨(some 48),(some (46,true)),(.load false 1 (.t 47))⟩,⟨(some 49),(some (46,true)),(.bin .neq false (.t 48) (.c (.str ⟨#[]⟩)))⟩,⟨(some 50),(some (41,false)),(.pick (.t 46) (.t 49) (.c (.bool false)))⟩,⟨some 51,none,.pick (.t 41) (.c (.bool true)) (.t 50)⟩]) (.cond (.t 51) (.seq (.reg [⟨some 2,none,.mv (.c (.bool false))⟩]) .ret) .skip)) (.seq (.seq (.reg [⟨some 52,none,.faddr 0 (.t 1)⟩,⟨some 53,none,.load false 1 (.t 52)⟩,⟨some 54,none,.bin .eql false (.t 53) (.c (.int .i64 3))⟩,⟨some 55,none,.mv (.t 54)⟩,⟨(some 56),(some (55,true)),(.faddr 1 (.t 1))⟩,⟨(some 57),(some (55,true)),(.load true 2 (.t 56))⟩,⟨(some 58),(some (55,true)),(.call 67 [(.t 57)])⟩,⟨(some 59),(some (55,true)),(.un .not (.t 58))⟩,⟨some 60,none,.pick (.t 55) (.t 59) (.c (.bool false))⟩,⟨some 61,none,.mv (.t 60)⟩,⟨(some 62),(some (61,false)),(.faddr 0 (.t 1))⟩,⟨(some 63),(some (61,false)),(.load false 1 (.t 62))⟩,⟨(some 64),(some (61,false)),(.bin .neq false (.t 63) (.c (.int .i64 3)))⟩,⟨(some 65),(some (61,false)),(.mv (.t 64))⟩,⟨(some 66),(some (65,true)),(.faddr 1 (.t 1))⟩,⟨(some 67),(some (65,true)),(.load true 2 (.t 66))⟩,⟨(some 68),(some (65,true)),(.call 68 [(.t 67)])⟩,⟨(some 69),(some (65,true)),(.un .not (.t 68))⟩,⟨(some 70),(some (61,false)),(.pick (.t 65) (.t 69) (.c (.bool false)))⟩,⟨some 71,none,.pick (.t 61) (.c (.bool true)) (.t 70)⟩]) (.cond (.t 71) (.seq (.reg [⟨some 2,none,.mv (.c (.bool false))⟩]) .ret) .skip)) (.seq (.reg [⟨some 72,none,.faddr 4 (.t 1)⟩,⟨some 73,none,.load false 1 (.t 72)⟩,⟨some 74,none,.call 69 [(.t 73),(.c (.fn 70 []))]⟩,⟨some 75,none,.un .not (.t 74)⟩,⟨some 2,none,.mv (.t 75)⟩]) .ret))))))
theorem AA:Ar Tryz.prog 34=some ⟨76,A7,[(.tmp 2)]⟩:=by kernel_rfl
theorem A3:modes 34=⟨[],.asis,none,false⟩:=by unfold modes; rfl
def G2:SC:=(.seq (.reg [⟨some 1,none,.boxv 29 5 (.t 0)⟩,⟨some 2,none,.mv (.c (.bool false))⟩]) (.seq (.reg [⟨some 3,none,.load true 5 (.t 1)⟩,⟨some 4,none,.call 34 [(.t 3)]⟩,⟨some 5,none,.un .not (.t 4)⟩,⟨some 2,none,.mv (.t 5)⟩]) .ret))
theorem JZ:Ar Tryz.prog 70=some ⟨6,G2,[(.tmp 2)]⟩:=by kernel_rfl
theorem G3:modes 70=⟨[],.asis,none,false⟩:=by unfold modes; rfl
theorem Ka:Hm Tryz.prog 70=true:=by kernel_rfl
def AW:SC:=(.seq (.reg [⟨some 1,none,.boxv 29 5 (.t 0)⟩,⟨some 2,none,.mv (.c (.bool false))⟩]) (.seq (.reg [⟨some 4,none,.faddr 4 (.t 1)⟩,⟨some 5,none,.load false 1 (.t 4)⟩,⟨some 6,none,.len false (.t 5)⟩,⟨some 3,none,.mv (.t 6)⟩]) (.seq (.seq (.reg [⟨some 7,none,.faddr 0 (.t 1)⟩,⟨some 8,none,.load false 1 (.t 7)⟩]) (.block 0 (.seq (.seq (.reg [⟨some 10,none,.bin .eql false (.t 8) (.c (.int .i64 1))⟩,⟨some 9,none,.mv (.t 10)⟩]) (.cond (.t 9) .skip (.reg [⟨some 11,none,.bin .eql false (.t 8) (.c (.int .i64 2))⟩,⟨some 9,none,.mv (.t 11)⟩]))) (.cond (.t 9) (.seq (.reg [⟨some 12,none,.mv (.t 3)⟩,⟨some 13,none,.bin .eql false (.t 12) (.c (.int .i64 0))⟩,⟨some 14,none,.mv (.t 13)⟩,⟨(some 15),(some (14,true)),(.faddr 1 (.t 1))⟩,⟨(some 16),(some (14,true)),(.load true 2 (.t 15))⟩,⟨(some 17),(some (14,true)),(.call 104 [(.t 16)])⟩,⟨some 18,none,.pick (.t 14) (.t 17) (.c (.bool false))⟩,⟨some 19,none,.mv (.t 18)⟩,⟨(some 20),(some (19,true)),(.faddr 3 (.t 1))⟩,⟨(some 21),(some (19,true)),(.load false 1 (.t 20))⟩,⟨(some 22),(some (19,true)),(.bin .eql false (.t 21) (.c (.str ⟨#[]⟩)))⟩,⟨some 23,none,.pick (.t 19) (.t 22) (.c (.bool false))⟩,⟨some 2,none,.mv (.t 23)⟩]) .ret) (.seq (.reg [⟨some 25,none,.bin .eql false (.t 8) (.c (.int .i64 3))⟩,⟨some 24,none,.mv (.t 25)⟩]) (.cond (.t 24) (.seq (.reg [⟨some 26,none,.mv (.t 3)⟩,⟨some 27,none,.bin .eql false (.t 26) (.c (.int .i64 0))⟩,⟨some 28,none,.mv (.t 27)⟩,⟨(some 29),(some (28,true)),(.faddr 1 (.t 1))⟩,⟨(some 30),(some (28,true)),(.load true 2 (.t 29))⟩,⟨(some 31),(some (28,true)),(.call 57 [(.t 30)])⟩,⟨some 32,none,.pick (.t 28) (.t 31) (.c (.bool false))⟩,⟨some 33,none,.mv (.t 32)⟩,⟨(some 34),(some (33,true)),(.faddr 3 (.t 1))⟩,⟨(some 35),(some (33,true)),(.load false 1 (.t 34))⟩,⟨(some 36),(some (33,true)),(.bin .eql false (.t 35) (.c (.str ⟨#[]⟩)))⟩,⟨some 37,none,.pick (.t 33) (.t 36) (.c (.bool false))⟩,⟨some 2,none,.mv (.t 37)⟩]) .ret) (.seq (.reg [⟨some 39,none,.bin .eql false (.t 8) (.c (.int .i64 4))⟩,⟨some 38,none,.mv (.t 39)⟩]) (.cond (.t 38) (.seq (.reg [⟨some 40,none,.mv (.t 3)⟩,⟨some 41,none,.bin .eql false (.t 40) (.c (.int .i64 1))⟩,⟨some 42,none,.mv (.t 41)⟩,⟨(some 43),(some (42,true)),(.faddr 1 (.t 1))⟩,⟨(some 44),(some (42,true)),(.load true 2 (.t 43))⟩,⟨(some 45),(some (42,true)),(.call 104 [(.t 44)])⟩,⟨some 46,none,.pick (.t 42) (.t 45) (.c (.bool false))⟩,⟨some 47,none,.mv (.t 46)⟩,⟨(some 48),(some (47,true)),(.faddr 3 (.t 1))⟩,⟨(some 49),(some (47,true)),(.load false 1 (.t 48))⟩,⟨(some 50),(some (47,true)),(.bin .eql false (.t 49) (.c (.str ⟨#[]⟩)))⟩,⟨some 51,none,.pick (.t 47) (.t 50) (.c (.bool false))⟩,⟨some 2,none,.mv (.t 51)⟩]) .ret) (.seq (.seq (.reg [⟨some 53,none,.bin .eql false (.t 8) (.c (.int .i64 5))⟩,⟨some 52,none,.mv (.t 53)⟩]) (.cond (.t 52) .skip (.seq (.reg [⟨some 54,none,.bin .eql false (.t 8) (.c (.int .i64 6))⟩,⟨some 52,none,.mv (.t 54)⟩]) (.cond (.t 52) .skip (.reg [⟨some 55,none,.bin .eql false (.t 8) (.c (.int .i64 7))⟩,⟨some 52,none,.mv (.t 55)⟩]))))) (.cond (.t 52) (.seq (.reg [⟨some 56,none,.mv (.t 3)⟩,⟨some 57,none,.bin .eql false (.t 56) (.c (.int .i64 2))⟩,⟨some 58,none,.mv (.t 57)⟩,⟨(some 59),(some (58,true)),(.faddr 1 (.t 1))⟩,⟨(some 60),(some (58,true)),(.load true 2 (.t 59))⟩,⟨(some 61),(some (58,true)),(.call 104 [(.t 60)])⟩,⟨some 62,none,.pick (.t 58) (.t 61) (.c (.bool false))⟩,⟨some 63,none,.mv (.t 62)⟩,⟨(some 64),(some (63,true)),(.faddr 3 (.t 1))⟩,⟨(some 65),(some (63,true)),(.load false 1 (.t 64))⟩,⟨(some 66),(some (63,true)),(.bin .eql false (.t 65) (.c (.str ⟨#[]⟩)))⟩,⟨some 67,none,.pick (.t 63) (.t 66) (.c (.bool false))⟩,⟨some 2,none,.mv (.t 67)⟩]) .ret) (.seq (.seq (.reg [⟨some 69,none,.bin .eql false (.t 8) (.c (.int .i64 8))⟩,⟨some 68,none,.mv (.t 69)⟩]) (.cond (.t 68) .skip (.reg [⟨some 70,none,.bin .eql false (.t 8) (.c (.int .i64 9))⟩,⟨some 68,none,.mv (.t 70)⟩]))) (.cond (.t 68) (.seq (.reg [⟨some 71,none,.mv (.t 3)⟩,⟨some 72,none,.bin .eql false (.t 71) (.c (.int .i64 1))⟩,⟨some 73,none,.mv (.t 72)⟩,⟨(some 74),(some (73,true)),(.faddr 1 (.t 1))⟩,⟨(some 75),(some (73,true)),(.load true 2 (.t 74))⟩,⟨(some 76),(some (73,true)),(.call 104 [(.t 75)])⟩,⟨some 77,none,.pick (.t 73) (.t 76) (.c (.bool false))⟩,⟨some 78,none,.mv (.t 77)⟩,⟨(some 79),(some (78,true)),(.faddr 3 (.t 1))⟩,⟨(some 80),(some (78,true)),(.load false 1 (.t 79))⟩,⟨(some 81),(some (78,true)),(.call 21 [(.t 80)])⟩,⟨some 82,none,.pick (.t 78) (.t 81) (.c (.bool false))⟩,⟨some 2,none,.mv (.t 82)⟩]) .ret) .skip)))))))))))) (.seq (.reg [⟨some 2,none,.mv (.c (.bool false))⟩]) .ret))))
theorem Be:Ar Tryz.prog 82=some ⟨83,AW,[(.tmp 2)]⟩:=by kernel_rfl
theorem AO:modes 82=⟨[],.asis,none,false⟩:=by unfold modes; rfl
def F8:SC:=(.seq (.reg [⟨some 1,none,.boxv 29 5 (.t 0)⟩,⟨some 2,none,.mv (.c (.bool false))⟩]) (.seq (.seq (.reg [⟨some 4,none,.load true 5 (.t 1)⟩,⟨some 5,none,.call 82 [(.t 4)]⟩,⟨some 6,none,.un .not (.t 5)⟩]) (.cond (.t 6) (.seq (.reg [⟨some 2,none,.mv (.c (.bool false))⟩]) .ret) .skip)) (.seq (.seq (.reg [⟨some 3,none,.mv (.c (.int .i64 0))⟩]) (.block 0 (.loop [0,1,0,1,0,0,0,0,0,0,0,0,0,0,0,0,0,0,0,0,0] (.seq (.seq (.reg [⟨some 7,none,.mv (.t 3)⟩,⟨some 8,none,.faddr 4 (.t 1)⟩,⟨some 9,none,.load false 1 (.t 8)⟩,⟨some 10,none,.len false (.t 9)⟩,⟨some 11,none,.bin .lss false (.t 7) (.t 10)⟩]) (.cond (.t 11) .skip (.exit 0))) (.seq (.block 1 (.seq (.reg [⟨some 14,none,.faddr 4 (.t 1)⟩,⟨some 15,none,.load false 1 (.t 14)⟩,⟨some 16,none,.mv (.t 3)⟩,⟨some 17,none,.iaddr 5 (.t 15) (.t 16)⟩,⟨some 18,none,.load true 5 (.t 17)⟩,⟨some 19,none,.call 50 [(.t 18)]⟩,⟨some 20,none,.un .not (.t 19)⟩]) (.cond (.t 20) (.seq (.reg [⟨some 2,none,.mv (.c (.bool false))⟩]) .ret) .skip))) (.reg [⟨some 12,none,.mv (.t 3)⟩,⟨some 13,none,.bin .add false (.t 12) (.c (.int .i64 1))⟩,⟨some 3,none,.mv (.t 13)⟩])))))) (.seq (.reg [⟨some 2,none,.mv (.c (.bool true))⟩]) .ret))))
theorem HF:Ar Tryz.prog 50=some ⟨21,F8,[(.tmp 2)]⟩:=by kernel_rfl
theorem CJ:modes 50=⟨[],.asis,none,false⟩:=by unfold modes; rfl
def Dh:SC:=(.seq (.reg [⟨some 1,none,.boxv 29 5 (.t 0)⟩,⟨some 2,none,.mv (.c (.bool false))⟩]) (.seq (.reg [⟨some 3,none,.load true 5 (.t 1)⟩,⟨some 4,none,.call 33 [(.t 3)]⟩,⟨some 5,none,.bin .leq false (.t 4) (.c (.int .i64 40))⟩,⟨some 6,none,.mv (.t 5)⟩,⟨(some 7),(some (6,true)),(.load true 5 (.t 1))⟩,⟨(some 8),(some (6,true)),(.call 34 [(.t 7)])⟩,⟨some 9,none,.pick (.t 6) (.t 8) (.c (.bool false))⟩,⟨some 2,none,.mv (.t 9)⟩]) .ret))
theorem Eb:Ar Tryz.prog 15=some ⟨10,Dh,[(.tmp 2)]⟩:=by kernel_rfl
theorem AP:modes 15=⟨[],.asis,none,false⟩:=by unfold modes; rfl
def Gc:SC:=(.seq (.reg [⟨some 1,none,.boxv 29 5 (.t 0)⟩,⟨some 2,none,.mv (.c (.bool false))⟩]) (.seq (.reg [⟨some 3,none,.load true 5 (.t 1)⟩,⟨some 4,none,.call 49 [(.t 3),(.c (.int .i64 40))]⟩,⟨some 5,none,.bin .leq false (.t 4) (.c (.int .i64 40))⟩,⟨some 6,none,.mv (.t 5)⟩,⟨(some 7),(some (6,true)),(.load true 5 (.t 1))⟩,⟨(some 8),(some (6,true)),(.call 50 [(.t 7)])⟩,⟨some 9,none,.pick (.t 6) (.t 8) (.c (.bool false))⟩,⟨some 2,none,.mv (.t 9)⟩]) .ret))
theorem I3:Ar Tryz.prog 20=some ⟨10,Gc,[(.tmp 2)]⟩:=by kernel_rfl
theorem CB:modes 20=⟨[],.asis,none,false⟩:=by unfold modes; rfl
theorem Cj (n:Int):E 41 [.int .i64 n] []=some (.bool (dec (n=8) || dec (n=9)),[]):=by
 cases h1:dec (n=8) with
 | true =>
  refine Ai EU Ac (of_decide_eq_true rfl) ?_
  simp (disch:=omega) only [D3,go_sem,Ab,h1]
 | false =>
  refine Ai EU Ac (of_decide_eq_true rfl) ?_
  simp (disch:=omega) only [D3,go_sem,Ab,h1]
theorem Et (n:Int):E 66 [.int .i64 n] []=some (.bool (dec (n=5) || dec (n=6) || dec (n=7)),[]):=by
 cases h1:dec (n=5) <;> cases h2:dec (n=6)
 all_goals
  refine Ai KE Ah (of_decide_eq_true rfl) ?_
  simp (disch:=omega) only [Hf,go_sem,Ab,h1,h2]
theorem Fb (x:Tm):E 68 [x.sv] []=some (.bool x.isZ,[]):=by
 unfold Tm.isZ
 have hl:dec ((x.args.length:Int)=0)=(x.args.length == 0):=by
  rw [IG]
  cases x.args <;> simp <;> omega
 cases h1:dec (x.name=⟨#[]⟩) with
 | true =>
  refine Ai FS Af (of_decide_eq_true rfl) ?_
  simp (disch:=omega) only [DW,go_sem,Ab,h1]
  try rw [hl]
 | false =>
  refine Ai FS Af (of_decide_eq_true rfl) ?_
  simp (disch:=omega) only [DW,go_sem,Ab,h1]
theorem J1 (x:Tm):E 104 [x.sv] []=some (.bool x.isZ,[]):=by
 unfold Tm.isZ
 have hl:dec ((x.args.length:Int)=0)=(x.args.length == 0):=by
  rw [IG]
  cases x.args <;> simp <;> omega
 cases h1:dec (x.name=⟨#[]⟩) with
 | true =>
  refine Ai I1 Al (of_decide_eq_true rfl) ?_
  simp (disch:=omega) only [Gb,go_sem,Ab,h1]
  try rw [hl]
 | false =>
  refine Ai I1 Al (of_decide_eq_true rfl) ?_
  simp (disch:=omega) only [Gb,go_sem,Ab,h1]
theorem PR (x:Fm) (hn:x.atom.nodes≤1099511627776) (ho:x.op=1∨x.op=2):E 82 [x.sv] []=some (.bool x.form,[]):=by
 have hf:x.form=(x.parts.length == 0&&x.atom.isZ&&dec (x.var=⟨#[]⟩)):=by unfold Fm.form; rcases ho with ho | ho <;> simp [ho]
 rcases ho with ho | ho
 all_goals
  first
   |(have o1:dec (x.op=1)=true:=A5 ho)
   |(have o1:dec (x.op=1)=false:=An (by omega))
  first
   |(have o2:dec (x.op=2)=true:=A5 ho)
   |(have o2:dec (x.op=2)=false:=An (by omega))
  have o3:dec (x.op=3)=false:=An (by omega)
  have o4:dec (x.op=4)=false:=An (by omega)
  have o5:dec (x.op=5)=false:=An (by omega)
  have o6:dec (x.op=6)=false:=An (by omega)
  have o7:dec (x.op=7)=false:=An (by omega)
  have o8:dec (x.op=8)=false:=An (by omega)
  have o9:dec (x.op=9)=false:=An (by omega)
  have ha:=J1 x.atom
  have hv:=CG x.var
  rw [hf]
  by_cases hl:x.parts.length=0
  ·have hl2:dec ((x.parts.length:Int)=0)=true:=A5 (by omega)
   rw [hl,beq_self_eq_true,zD]
   cases hq:x.atom.isZ with
   | true =>
    rw [hq] at ha
    rw [zD]
    refine Ai Be AO (of_decide_eq_true rfl) ?_
    simp (disch:=omega) only [AW,go_sem,o1,o2,o3,o4,o5,o6,o7,o8,o9,hl2,ha,hv,Aj,Al,Ak]
    repeat ((first | (refine Aw ?_ ?_; (focus (simp (disch:=omega) only [go_sem,o1,o2,o3,o4,o5,o6,o7,o8,o9,hl2,ha,hv,Aj,Al,Ak]; done))) | (refine Ax ?_ ?_; (focus (simp (disch:=omega) only [go_sem,o1,o2,o3,o4,o5,o6,o7,o8,o9,hl2,ha,hv,Aj,Al,Ak]; done)))); (try simp (disch:=omega) only [go_sem,o1,o2,o3,o4,o5,o6,o7,o8,o9,hl2,ha,hv,Aj,Al,Ak]))
   | false =>
    rw [hq] at ha
    rw [zA]
    refine Ai Be AO (of_decide_eq_true rfl) ?_
    simp (disch:=omega) only [AW,go_sem,o1,o2,o3,o4,o5,o6,o7,o8,o9,hl2,ha,hv,Aj,Al,Ak]
    repeat ((first | (refine Aw ?_ ?_; (focus (simp (disch:=omega) only [go_sem,o1,o2,o3,o4,o5,o6,o7,o8,o9,hl2,ha,hv,Aj,Al,Ak]; done))) | (refine Ax ?_ ?_; (focus (simp (disch:=omega) only [go_sem,o1,o2,o3,o4,o5,o6,o7,o8,o9,hl2,ha,hv,Aj,Al,Ak]; done)))); (try simp (disch:=omega) only [go_sem,o1,o2,o3,o4,o5,o6,o7,o8,o9,hl2,ha,hv,Aj,Al,Ak]))
  ·have hl2:dec ((x.parts.length:Int)=0)=false:=An (by omega)
   have hl3:(x.parts.length == 0)=false:=by simpa using hl
   rw [hl3,zA,zA]
   refine Ai Be AO (of_decide_eq_true rfl) ?_
   simp (disch:=omega) only [AW,go_sem,o1,o2,o3,o4,o5,o6,o7,o8,o9,hl2,ha,hv,Aj,Al,Ak]
   repeat ((first | (refine Aw ?_ ?_; (focus (simp (disch:=omega) only [go_sem,o1,o2,o3,o4,o5,o6,o7,o8,o9,hl2,ha,hv,Aj,Al,Ak]; done))) | (refine Ax ?_ ?_; (focus (simp (disch:=omega) only [go_sem,o1,o2,o3,o4,o5,o6,o7,o8,o9,hl2,ha,hv,Aj,Al,Ak]; done)))); (try simp (disch:=omega) only [go_sem,o1,o2,o3,o4,o5,o6,o7,o8,o9,hl2,ha,hv,Aj,Al,Ak]))
theorem UF (x:Fm) (hn:x.atom.nodes≤1099511627776) (ho:x.op=3):E 82 [x.sv] []=some (.bool x.form,[]):=by
 have hf:x.form=(x.parts.length == 0&&x.atom.atom&&dec (x.var=⟨#[]⟩)):=by unfold Fm.form; rcases ho with ho <;> simp [ho]
 rcases ho with ho
 all_goals
  have o1:dec (x.op=1)=false:=An (by omega)
  have o2:dec (x.op=2)=false:=An (by omega)
  have o3:dec (x.op=3)=true:=A5 ho
  have o4:dec (x.op=4)=false:=An (by omega)
  have o5:dec (x.op=5)=false:=An (by omega)
  have o6:dec (x.op=6)=false:=An (by omega)
  have o7:dec (x.op=7)=false:=An (by omega)
  have o8:dec (x.op=8)=false:=An (by omega)
  have o9:dec (x.op=9)=false:=An (by omega)
  have ha:=P4 x.atom (by omega)
  have hv:=CG x.var
  rw [hf]
  by_cases hl:x.parts.length=0
  ·have hl2:dec ((x.parts.length:Int)=0)=true:=A5 (by omega)
   rw [hl,beq_self_eq_true,zD]
   cases hq:x.atom.atom with
   | true =>
    rw [hq] at ha
    rw [zD]
    refine Ai Be AO (of_decide_eq_true rfl) ?_
    simp (disch:=omega) only [AW,go_sem,o1,o2,o3,o4,o5,o6,o7,o8,o9,hl2,ha,hv,Aj,Al,Ak]
    repeat ((first | (refine Aw ?_ ?_; (focus (simp (disch:=omega) only [go_sem,o1,o2,o3,o4,o5,o6,o7,o8,o9,hl2,ha,hv,Aj,Al,Ak]; done))) | (refine Ax ?_ ?_; (focus (simp (disch:=omega) only [go_sem,o1,o2,o3,o4,o5,o6,o7,o8,o9,hl2,ha,hv,Aj,Al,Ak]; done)))); (try simp (disch:=omega) only [go_sem,o1,o2,o3,o4,o5,o6,o7,o8,o9,hl2,ha,hv,Aj,Al,Ak]))
   | false =>
    rw [hq] at ha
    rw [zA]
    refine Ai Be AO (of_decide_eq_true rfl) ?_
    simp (disch:=omega) only [AW,go_sem,o1,o2,o3,o4,o5,o6,o7,o8,o9,hl2,ha,hv,Aj,Al,Ak]
    repeat ((first | (refine Aw ?_ ?_; (focus (simp (disch:=omega) only [go_sem,o1,o2,o3,o4,o5,o6,o7,o8,o9,hl2,ha,hv,Aj,Al,Ak]; done))) | (refine Ax ?_ ?_; (focus (simp (disch:=omega) only [go_sem,o1,o2,o3,o4,o5,o6,o7,o8,o9,hl2,ha,hv,Aj,Al,Ak]; done)))); (try simp (disch:=omega) only [go_sem,o1,o2,o3,o4,o5,o6,o7,o8,o9,hl2,ha,hv,Aj,Al,Ak]))
  ·have hl2:dec ((x.parts.length:Int)=0)=false:=An (by omega)
   have hl3:(x.parts.length == 0)=false:=by simpa using hl
   rw [hl3,zA,zA]
   refine Ai Be AO (of_decide_eq_true rfl) ?_
   simp (disch:=omega) only [AW,go_sem,o1,o2,o3,o4,o5,o6,o7,o8,o9,hl2,ha,hv,Aj,Al,Ak]
   repeat ((first | (refine Aw ?_ ?_; (focus (simp (disch:=omega) only [go_sem,o1,o2,o3,o4,o5,o6,o7,o8,o9,hl2,ha,hv,Aj,Al,Ak]; done))) | (refine Ax ?_ ?_; (focus (simp (disch:=omega) only [go_sem,o1,o2,o3,o4,o5,o6,o7,o8,o9,hl2,ha,hv,Aj,Al,Ak]; done)))); (try simp (disch:=omega) only [go_sem,o1,o2,o3,o4,o5,o6,o7,o8,o9,hl2,ha,hv,Aj,Al,Ak]))
theorem UG (x:Fm) (hn:x.atom.nodes≤1099511627776) (ho:x.op=4):E 82 [x.sv] []=some (.bool x.form,[]):=by
 have hf:x.form=(x.parts.length == 1&&x.atom.isZ&&dec (x.var=⟨#[]⟩)):=by unfold Fm.form; rcases ho with ho <;> simp [ho]
 rcases ho with ho
 all_goals
  have o1:dec (x.op=1)=false:=An (by omega)
  have o2:dec (x.op=2)=false:=An (by omega)
  have o3:dec (x.op=3)=false:=An (by omega)
  have o4:dec (x.op=4)=true:=A5 ho
  have o5:dec (x.op=5)=false:=An (by omega)
  have o6:dec (x.op=6)=false:=An (by omega)
  have o7:dec (x.op=7)=false:=An (by omega)
  have o8:dec (x.op=8)=false:=An (by omega)
  have o9:dec (x.op=9)=false:=An (by omega)
  have ha:=J1 x.atom
  have hv:=CG x.var
  rw [hf]
  by_cases hl:x.parts.length=1
  ·have hl2:dec ((x.parts.length:Int)=1)=true:=A5 (by omega)
   rw [hl,beq_self_eq_true,zD]
   cases hq:x.atom.isZ with
   | true =>
    rw [hq] at ha
    rw [zD]
    refine Ai Be AO (of_decide_eq_true rfl) ?_
    simp (disch:=omega) only [AW,go_sem,o1,o2,o3,o4,o5,o6,o7,o8,o9,hl2,ha,hv,Aj,Al,Ak]
    repeat ((first | (refine Aw ?_ ?_; (focus (simp (disch:=omega) only [go_sem,o1,o2,o3,o4,o5,o6,o7,o8,o9,hl2,ha,hv,Aj,Al,Ak]; done))) | (refine Ax ?_ ?_; (focus (simp (disch:=omega) only [go_sem,o1,o2,o3,o4,o5,o6,o7,o8,o9,hl2,ha,hv,Aj,Al,Ak]; done)))); (try simp (disch:=omega) only [go_sem,o1,o2,o3,o4,o5,o6,o7,o8,o9,hl2,ha,hv,Aj,Al,Ak]))
   | false =>
    rw [hq] at ha
    rw [zA]
    refine Ai Be AO (of_decide_eq_true rfl) ?_
    simp (disch:=omega) only [AW,go_sem,o1,o2,o3,o4,o5,o6,o7,o8,o9,hl2,ha,hv,Aj,Al,Ak]
    repeat ((first | (refine Aw ?_ ?_; (focus (simp (disch:=omega) only [go_sem,o1,o2,o3,o4,o5,o6,o7,o8,o9,hl2,ha,hv,Aj,Al,Ak]; done))) | (refine Ax ?_ ?_; (focus (simp (disch:=omega) only [go_sem,o1,o2,o3,o4,o5,o6,o7,o8,o9,hl2,ha,hv,Aj,Al,Ak]; done)))); (try simp (disch:=omega) only [go_sem,o1,o2,o3,o4,o5,o6,o7,o8,o9,hl2,ha,hv,Aj,Al,Ak]))
  ·have hl2:dec ((x.parts.length:Int)=1)=false:=An (by omega)
   have hl3:(x.parts.length == 1)=false:=by simpa using hl
   rw [hl3,zA,zA]
   refine Ai Be AO (of_decide_eq_true rfl) ?_
   simp (disch:=omega) only [AW,go_sem,o1,o2,o3,o4,o5,o6,o7,o8,o9,hl2,ha,hv,Aj,Al,Ak]
   repeat ((first | (refine Aw ?_ ?_; (focus (simp (disch:=omega) only [go_sem,o1,o2,o3,o4,o5,o6,o7,o8,o9,hl2,ha,hv,Aj,Al,Ak]; done))) | (refine Ax ?_ ?_; (focus (simp (disch:=omega) only [go_sem,o1,o2,o3,o4,o5,o6,o7,o8,o9,hl2,ha,hv,Aj,Al,Ak]; done)))); (try simp (disch:=omega) only [go_sem,o1,o2,o3,o4,o5,o6,o7,o8,o9,hl2,ha,hv,Aj,Al,Ak]))
theorem Mq (x:Fm) (hn:x.atom.nodes≤1099511627776) (ho:x.op=5∨x.op=6∨x.op=7):E 82 [x.sv] []=some (.bool x.form,[]):=by
 have hf:x.form=(x.parts.length == 2&&x.atom.isZ&&dec (x.var=⟨#[]⟩)):=by unfold Fm.form; rcases ho with ho | ho | ho <;> simp [ho]
 rcases ho with ho | ho | ho
 all_goals
  have o1:dec (x.op=1)=false:=An (by omega)
  have o2:dec (x.op=2)=false:=An (by omega)
  have o3:dec (x.op=3)=false:=An (by omega)
  have o4:dec (x.op=4)=false:=An (by omega)
  first
   |(have o5:dec (x.op=5)=true:=A5 ho)
   |(have o5:dec (x.op=5)=false:=An (by omega))
  first
   |(have o6:dec (x.op=6)=true:=A5 ho)
   |(have o6:dec (x.op=6)=false:=An (by omega))
  first
   |(have o7:dec (x.op=7)=true:=A5 ho)
   |(have o7:dec (x.op=7)=false:=An (by omega))
  have o8:dec (x.op=8)=false:=An (by omega)
  have o9:dec (x.op=9)=false:=An (by omega)
  have ha:=J1 x.atom
  have hv:=CG x.var
  rw [hf]
  by_cases hl:x.parts.length=2
  ·have hl2:dec ((x.parts.length:Int)=2)=true:=A5 (by omega)
   rw [hl,beq_self_eq_true,zD]
   cases hq:x.atom.isZ with
   | true =>
    rw [hq] at ha
    rw [zD]
    refine Ai Be AO (of_decide_eq_true rfl) ?_
    simp (disch:=omega) only [AW,go_sem,o1,o2,o3,o4,o5,o6,o7,o8,o9,hl2,ha,hv,Aj,Al,Ak]
    repeat ((first | (refine Aw ?_ ?_; (focus (simp (disch:=omega) only [go_sem,o1,o2,o3,o4,o5,o6,o7,o8,o9,hl2,ha,hv,Aj,Al,Ak]; done))) | (refine Ax ?_ ?_; (focus (simp (disch:=omega) only [go_sem,o1,o2,o3,o4,o5,o6,o7,o8,o9,hl2,ha,hv,Aj,Al,Ak]; done)))); (try simp (disch:=omega) only [go_sem,o1,o2,o3,o4,o5,o6,o7,o8,o9,hl2,ha,hv,Aj,Al,Ak]))
   | false =>
    rw [hq] at ha
    rw [zA]
    refine Ai Be AO (of_decide_eq_true rfl) ?_
    simp (disch:=omega) only [AW,go_sem,o1,o2,o3,o4,o5,o6,o7,o8,o9,hl2,ha,hv,Aj,Al,Ak]
    repeat ((first | (refine Aw ?_ ?_; (focus (simp (disch:=omega) only [go_sem,o1,o2,o3,o4,o5,o6,o7,o8,o9,hl2,ha,hv,Aj,Al,Ak]; done))) | (refine Ax ?_ ?_; (focus (simp (disch:=omega) only [go_sem,o1,o2,o3,o4,o5,o6,o7,o8,o9,hl2,ha,hv,Aj,Al,Ak]; done)))); (try simp (disch:=omega) only [go_sem,o1,o2,o3,o4,o5,o6,o7,o8,o9,hl2,ha,hv,Aj,Al,Ak]))
  ·have hl2:dec ((x.parts.length:Int)=2)=false:=An (by omega)
   have hl3:(x.parts.length == 2)=false:=by simpa using hl
   rw [hl3,zA,zA]
   refine Ai Be AO (of_decide_eq_true rfl) ?_
   simp (disch:=omega) only [AW,go_sem,o1,o2,o3,o4,o5,o6,o7,o8,o9,hl2,ha,hv,Aj,Al,Ak]
   repeat ((first | (refine Aw ?_ ?_; (focus (simp (disch:=omega) only [go_sem,o1,o2,o3,o4,o5,o6,o7,o8,o9,hl2,ha,hv,Aj,Al,Ak]; done))) | (refine Ax ?_ ?_; (focus (simp (disch:=omega) only [go_sem,o1,o2,o3,o4,o5,o6,o7,o8,o9,hl2,ha,hv,Aj,Al,Ak]; done)))); (try simp (disch:=omega) only [go_sem,o1,o2,o3,o4,o5,o6,o7,o8,o9,hl2,ha,hv,Aj,Al,Ak]))
theorem PS (x:Fm) (hn:x.atom.nodes≤1099511627776) (ho:x.op=8∨x.op=9):E 82 [x.sv] []=some (.bool x.form,[]):=by
 have hf:x.form=(x.parts.length == 1&&x.atom.isZ&&Bs x.var):=by unfold Fm.form; rcases ho with ho | ho <;> simp [ho]
 rcases ho with ho | ho
 all_goals
  have o1:dec (x.op=1)=false:=An (by omega)
  have o2:dec (x.op=2)=false:=An (by omega)
  have o3:dec (x.op=3)=false:=An (by omega)
  have o4:dec (x.op=4)=false:=An (by omega)
  have o5:dec (x.op=5)=false:=An (by omega)
  have o6:dec (x.op=6)=false:=An (by omega)
  have o7:dec (x.op=7)=false:=An (by omega)
  first
   |(have o8:dec (x.op=8)=true:=A5 ho)
   |(have o8:dec (x.op=8)=false:=An (by omega))
  first
   |(have o9:dec (x.op=9)=true:=A5 ho)
   |(have o9:dec (x.op=9)=false:=An (by omega))
  have ha:=J1 x.atom
  have hv:=CG x.var
  rw [hf]
  by_cases hl:x.parts.length=1
  ·have hl2:dec ((x.parts.length:Int)=1)=true:=A5 (by omega)
   rw [hl,beq_self_eq_true,zD]
   cases hq:x.atom.isZ with
   | true =>
    rw [hq] at ha
    rw [zD]
    refine Ai Be AO (of_decide_eq_true rfl) ?_
    simp (disch:=omega) only [AW,go_sem,o1,o2,o3,o4,o5,o6,o7,o8,o9,hl2,ha,hv,Aj,Al,Ak]
    repeat ((first | (refine Aw ?_ ?_; (focus (simp (disch:=omega) only [go_sem,o1,o2,o3,o4,o5,o6,o7,o8,o9,hl2,ha,hv,Aj,Al,Ak]; done))) | (refine Ax ?_ ?_; (focus (simp (disch:=omega) only [go_sem,o1,o2,o3,o4,o5,o6,o7,o8,o9,hl2,ha,hv,Aj,Al,Ak]; done)))); (try simp (disch:=omega) only [go_sem,o1,o2,o3,o4,o5,o6,o7,o8,o9,hl2,ha,hv,Aj,Al,Ak]))
   | false =>
    rw [hq] at ha
    rw [zA]
    refine Ai Be AO (of_decide_eq_true rfl) ?_
    simp (disch:=omega) only [AW,go_sem,o1,o2,o3,o4,o5,o6,o7,o8,o9,hl2,ha,hv,Aj,Al,Ak]
    repeat ((first | (refine Aw ?_ ?_; (focus (simp (disch:=omega) only [go_sem,o1,o2,o3,o4,o5,o6,o7,o8,o9,hl2,ha,hv,Aj,Al,Ak]; done))) | (refine Ax ?_ ?_; (focus (simp (disch:=omega) only [go_sem,o1,o2,o3,o4,o5,o6,o7,o8,o9,hl2,ha,hv,Aj,Al,Ak]; done)))); (try simp (disch:=omega) only [go_sem,o1,o2,o3,o4,o5,o6,o7,o8,o9,hl2,ha,hv,Aj,Al,Ak]))
  ·have hl2:dec ((x.parts.length:Int)=1)=false:=An (by omega)
   have hl3:(x.parts.length == 1)=false:=by simpa using hl
   rw [hl3,zA,zA]
   refine Ai Be AO (of_decide_eq_true rfl) ?_
   simp (disch:=omega) only [AW,go_sem,o1,o2,o3,o4,o5,o6,o7,o8,o9,hl2,ha,hv,Aj,Al,Ak]
   repeat ((first | (refine Aw ?_ ?_; (focus (simp (disch:=omega) only [go_sem,o1,o2,o3,o4,o5,o6,o7,o8,o9,hl2,ha,hv,Aj,Al,Ak]; done))) | (refine Ax ?_ ?_; (focus (simp (disch:=omega) only [go_sem,o1,o2,o3,o4,o5,o6,o7,o8,o9,hl2,ha,hv,Aj,Al,Ak]; done)))); (try simp (disch:=omega) only [go_sem,o1,o2,o3,o4,o5,o6,o7,o8,o9,hl2,ha,hv,Aj,Al,Ak]))
theorem UH (x:Fm) (hn:x.atom.nodes≤1099511627776):E 82 [x.sv] []=some (.bool x.form,[]):=by
 rcases LM x.op with h | h | h | h | h | h | h | h | h | h
 ·exact PR x hn (.inl h)
 ·exact PR x hn (.inr h)
 ·exact UF x hn h
 ·exact UG x hn h
 ·exact Mq x hn (.inl h)
 ·exact Mq x hn (.inr (.inl h))
 ·exact Mq x hn (.inr (.inr h))
 ·exact PS x hn (.inl h)
 ·exact PS x hn (.inr h)
 ·obtain ⟨h1,h2,h3,h4,h5,h6,h7,h8,h9⟩:=h
  have hf:x.form=false:=by unfold Fm.form; simp [h1,h2,h3,h4,h5,h6,h7,h8,h9]
  have o1:=An h1
  have o2:=An h2
  have o3:=An h3
  have o4:=An h4
  have o5:=An h5
  have o6:=An h6
  have o7:=An h7
  have o8:=An h8
  have o9:=An h9
  rw [hf]
  refine Ai Be AO (of_decide_eq_true rfl) ?_
  simp (disch:=omega) only [AW,go_sem,o1,o2,o3,o4,o5,o6,o7,o8,o9]
  repeat ((first | (refine Aw ?_ ?_; (focus (simp (disch:=omega) only [go_sem,o1,o2,o3,o4,o5,o6,o7,o8,o9]; done))) | (refine Ax ?_ ?_; (focus (simp (disch:=omega) only [go_sem,o1,o2,o3,o4,o5,o6,o7,o8,o9]; done)))); (try simp (disch:=omega) only [go_sem,o1,o2,o3,o4,o5,o6,o7,o8,o9]))
theorem QS (x:Fm) (ht:x.tame) (hn:x.nodes≤1099511627776) (ih:∀ y∈x.parts,E 50 [y.sv] []=some (.bool y.forms,[])):E 50 [x.sv] []=some (.bool x.forms,[]):=by
 have hl:=Fm.length_le x.parts
 have hx:=Fm.nodes_eq x
 have hf:=UH x (Fm.tame_at ht)
 rw [Fm.CX]
 cases hq:x.form with
 | false =>
  rw [hq] at hf
  rw [zA]
  refine Ai HF CJ (of_decide_eq_true rfl) ?_
  simp (disch:=omega) only [F8,go_sem,Ab,hf,AO]
 | true =>
  rw [hq] at hf
  rw [zD]
  refine Ai HF CJ (of_decide_eq_true rfl) ?_
  simp (disch:=omega) only [F8,go_sem,Ab,hf,AO]
  refine go_loop (α:=Int) (fun a=>⟨slots 21 0 [(1,.ptr 0 0),(3,.int .i64 a)],[.box 29 [.int .i64 x.op,.str x.atom.name,.arr (x.atom.args.map Tm.d),.str x.var,.arr (x.parts.map Fm.d)]]⟩) (fun a=>∃ k:Nat,a=k∧k≤(x.parts).length∧Fm.EQ (x.parts.drop k)=Fm.EQ x.parts) (fun a=>(x.parts).length-(a).toNat) 0 ⟨0,rfl,zK _,by rw [zJ]⟩ (by simp (disch:=omega) only [go_sem,Ab]) ?_
  rintro i ⟨k,hi,hk,hR⟩
  have hni:i.toNat=k:=by omega
  have hni1:(i+1).toNat=k+1:=by omega
  rcases zC k (x.parts).length with hlt | hge
  ·have hg:=get_at Fm.d hlt
   rw [Fm.d_eq] at hg
   have hc:=ih x.parts[k] (zG hlt)
   rw [zB hlt,Fm.EQ] at hR
   cases hp:x.parts[k].forms with
   | true =>
    rw [hp] at hc hR
    rw [zD] at hR
    simp (disch:=omega) only [go_sem,Ab,hni,hg,hc,CJ]
    exact ⟨i+1,⟨k+1,by omega,hlt,hR⟩,by omega,by first | trivial | rfl⟩
   | false =>
    rw [hp] at hc hR
    rw [zA] at hR
    simp (disch:=omega) only [go_sem,Ab,hni,hg,hc,CJ]
    exact hR
  ·rw [zF hge,Fm.EQ] at hR
   simp (disch:=omega) only [go_sem,Ab,hni]
   exact hR
theorem NN (x:Fm) (ht:x.tame) (hn:x.nodes≤1099511627776):E 50 [x.sv] []=some (.bool x.forms,[]) :=
 QS x ht hn fun y hy=>NN y (Fm.Fg ht hy) (by have:=Fm.nodes_mem hy; have:=Fm.nodes_eq x; omega)
termination_by SizeOf.sizeOf x
decreasing_by exact Fm.lt_of_mem hy
theorem NO (x:Fm) (hn:x.atom.nodes≤1099511627776) (hl0:x.parts.length≤1099511627776) (ho:x.op=1∨x.op=2) (h2:E 69 [.arr (x.parts.map Fm.d),.fn 70 []] []=some (.bool (x.parts.any fun y=>!y.forms),[])):E 34 [x.sv] []=some (.bool x.forms,[]):=by
 have hf:x.form=(x.parts.length == 0&&x.atom.isZ&&dec (x.var=⟨#[]⟩)):=by unfold Fm.form; rcases ho with ho | ho <;> simp [ho]
 rcases ho with ho | ho
 all_goals
  first
   |(have o1:dec (x.op=1)=true:=A5 ho)
   |(have o1:dec (x.op=1)=false:=An (by omega))
  first
   |(have o2:dec (x.op=2)=true:=A5 ho)
   |(have o2:dec (x.op=2)=false:=An (by omega))
  have o3:dec (x.op=3)=false:=An (by omega)
  have o4:dec (x.op=4)=false:=An (by omega)
  have o5:dec (x.op=5)=false:=An (by omega)
  have o6:dec (x.op=6)=false:=An (by omega)
  have o7:dec (x.op=7)=false:=An (by omega)
  have o8:dec (x.op=8)=false:=An (by omega)
  have o9:dec (x.op=9)=false:=An (by omega)
  have ha:=Fb x.atom
  have hv:=C1 x.var
  have hb:=Et x.op
  have hu:=Cj x.op
  rw [o5,o6,o7] at hb
  rw [o8,o9] at hu
  rw [Fm.CX,hf,← Fm.any_not]
  by_cases hl:x.parts.length=0
  ·have hl2:dec ((x.parts.length:Int)=0)=true:=A5 (by omega)
   rw [hl,beq_self_eq_true,zD]
   cases hw:dec (x.var=⟨#[]⟩) with
   | false =>
    try rw [hw] at hv
    rw [zY,zA]
    refine Ai AA A3 (of_decide_eq_true rfl) ?_
    simp (disch:=omega) only [A7,go_sem,o1,o2,o3,o4,o5,o6,o7,o8,o9,hl2,ha,hv,hb,hu,hw,h2,Ad,Af,Ae,Ac,Ah,Aa]
    repeat ((first | (refine Aw ?_ ?_; (focus (simp (disch:=omega) only [go_sem,o1,o2,o3,o4,o5,o6,o7,o8,o9,hl2,ha,hv,hb,hu,hw,h2,Ad,Af,Ae,Ac,Ah,Aa]; done))) | (refine Ax ?_ ?_; (focus (simp (disch:=omega) only [go_sem,o1,o2,o3,o4,o5,o6,o7,o8,o9,hl2,ha,hv,hb,hu,hw,h2,Ad,Af,Ae,Ac,Ah,Aa]; done)))); (try simp (disch:=omega) only [go_sem,o1,o2,o3,o4,o5,o6,o7,o8,o9,hl2,ha,hv,hb,hu,hw,h2,Ad,Af,Ae,Ac,Ah,Aa]))
   | true =>
    try rw [hw] at hv
    rw [yB]
    cases hq:x.atom.isZ with
    | true =>
     rw [hq] at ha
     rw [zD]
     refine Ai AA A3 (of_decide_eq_true rfl) ?_
     simp (disch:=omega) only [A7,go_sem,o1,o2,o3,o4,o5,o6,o7,o8,o9,hl2,ha,hv,hb,hu,hw,h2,Ad,Af,Ae,Ac,Ah,Aa]
     repeat ((first | (refine Aw ?_ ?_; (focus (simp (disch:=omega) only [go_sem,o1,o2,o3,o4,o5,o6,o7,o8,o9,hl2,ha,hv,hb,hu,hw,h2,Ad,Af,Ae,Ac,Ah,Aa]; done))) | (refine Ax ?_ ?_; (focus (simp (disch:=omega) only [go_sem,o1,o2,o3,o4,o5,o6,o7,o8,o9,hl2,ha,hv,hb,hu,hw,h2,Ad,Af,Ae,Ac,Ah,Aa]; done)))); (try simp (disch:=omega) only [go_sem,o1,o2,o3,o4,o5,o6,o7,o8,o9,hl2,ha,hv,hb,hu,hw,h2,Ad,Af,Ae,Ac,Ah,Aa]))
    | false =>
     rw [hq] at ha
     rw [zA]
     refine Ai AA A3 (of_decide_eq_true rfl) ?_
     simp (disch:=omega) only [A7,go_sem,o1,o2,o3,o4,o5,o6,o7,o8,o9,hl2,ha,hv,hb,hu,hw,h2,Ad,Af,Ae,Ac,Ah,Aa]
     repeat ((first | (refine Aw ?_ ?_; (focus (simp (disch:=omega) only [go_sem,o1,o2,o3,o4,o5,o6,o7,o8,o9,hl2,ha,hv,hb,hu,hw,h2,Ad,Af,Ae,Ac,Ah,Aa]; done))) | (refine Ax ?_ ?_; (focus (simp (disch:=omega) only [go_sem,o1,o2,o3,o4,o5,o6,o7,o8,o9,hl2,ha,hv,hb,hu,hw,h2,Ad,Af,Ae,Ac,Ah,Aa]; done)))); (try simp (disch:=omega) only [go_sem,o1,o2,o3,o4,o5,o6,o7,o8,o9,hl2,ha,hv,hb,hu,hw,h2,Ad,Af,Ae,Ac,Ah,Aa]))
  ·have hl2:dec ((x.parts.length:Int)=0)=false:=An (by omega)
   have hl3:(x.parts.length == 0)=false:=by simpa using hl
   rw [hl3,zA,zA,zA]
   refine Ai AA A3 (of_decide_eq_true rfl) ?_
   simp (disch:=omega) only [A7,go_sem,o1,o2,o3,o4,o5,o6,o7,o8,o9,hl2,ha,hv,hb,hu, h2,Ad,Af,Ae,Ac,Ah,Aa]
   repeat ((first | (refine Aw ?_ ?_; (focus (simp (disch:=omega) only [go_sem,o1,o2,o3,o4,o5,o6,o7,o8,o9,hl2,ha,hv,hb,hu, h2,Ad,Af,Ae,Ac,Ah,Aa]; done))) | (refine Ax ?_ ?_; (focus (simp (disch:=omega) only [go_sem,o1,o2,o3,o4,o5,o6,o7,o8,o9,hl2,ha,hv,hb,hu, h2,Ad,Af,Ae,Ac,Ah,Aa]; done)))); (try simp (disch:=omega) only [go_sem,o1,o2,o3,o4,o5,o6,o7,o8,o9,hl2,ha,hv,hb,hu, h2,Ad,Af,Ae,Ac,Ah,Aa]))
theorem SP (x:Fm) (hn:x.atom.nodes≤1099511627776) (hl0:x.parts.length≤1099511627776) (ho:x.op=3) (h2:E 69 [.arr (x.parts.map Fm.d),.fn 70 []] []=some (.bool (x.parts.any fun y=>!y.forms),[])):E 34 [x.sv] []=some (.bool x.forms,[]):=by
 have hf:x.form=(x.parts.length == 0&&x.atom.atom&&dec (x.var=⟨#[]⟩)):=by unfold Fm.form; rcases ho with ho <;> simp [ho]
 rcases ho with ho
 all_goals
  have o1:dec (x.op=1)=false:=An (by omega)
  have o2:dec (x.op=2)=false:=An (by omega)
  have o3:dec (x.op=3)=true:=A5 ho
  have o4:dec (x.op=4)=false:=An (by omega)
  have o5:dec (x.op=5)=false:=An (by omega)
  have o6:dec (x.op=6)=false:=An (by omega)
  have o7:dec (x.op=7)=false:=An (by omega)
  have o8:dec (x.op=8)=false:=An (by omega)
  have o9:dec (x.op=9)=false:=An (by omega)
  have ha:=M7 x.atom (by omega)
  have hv:=C1 x.var
  have hb:=Et x.op
  have hu:=Cj x.op
  rw [o5,o6,o7] at hb
  rw [o8,o9] at hu
  rw [Fm.CX,hf,← Fm.any_not]
  by_cases hl:x.parts.length=0
  ·have hl2:dec ((x.parts.length:Int)=0)=true:=A5 (by omega)
   rw [hl,beq_self_eq_true,zD]
   cases hw:dec (x.var=⟨#[]⟩) with
   | false =>
    try rw [hw] at hv
    rw [zY,zA]
    refine Ai AA A3 (of_decide_eq_true rfl) ?_
    simp (disch:=omega) only [A7,go_sem,o1,o2,o3,o4,o5,o6,o7,o8,o9,hl2,ha,hv,hb,hu,hw,h2,Ad,Af,Ae,Ac,Ah,Aa]
    repeat ((first | (refine Aw ?_ ?_; (focus (simp (disch:=omega) only [go_sem,o1,o2,o3,o4,o5,o6,o7,o8,o9,hl2,ha,hv,hb,hu,hw,h2,Ad,Af,Ae,Ac,Ah,Aa]; done))) | (refine Ax ?_ ?_; (focus (simp (disch:=omega) only [go_sem,o1,o2,o3,o4,o5,o6,o7,o8,o9,hl2,ha,hv,hb,hu,hw,h2,Ad,Af,Ae,Ac,Ah,Aa]; done)))); (try simp (disch:=omega) only [go_sem,o1,o2,o3,o4,o5,o6,o7,o8,o9,hl2,ha,hv,hb,hu,hw,h2,Ad,Af,Ae,Ac,Ah,Aa]))
   | true =>
    try rw [hw] at hv
    rw [yB]
    cases hq:x.atom.atom with
    | true =>
     rw [hq] at ha
     rw [zD]
     refine Ai AA A3 (of_decide_eq_true rfl) ?_
     simp (disch:=omega) only [A7,go_sem,o1,o2,o3,o4,o5,o6,o7,o8,o9,hl2,ha,hv,hb,hu,hw,h2,Ad,Af,Ae,Ac,Ah,Aa]
     repeat ((first | (refine Aw ?_ ?_; (focus (simp (disch:=omega) only [go_sem,o1,o2,o3,o4,o5,o6,o7,o8,o9,hl2,ha,hv,hb,hu,hw,h2,Ad,Af,Ae,Ac,Ah,Aa]; done))) | (refine Ax ?_ ?_; (focus (simp (disch:=omega) only [go_sem,o1,o2,o3,o4,o5,o6,o7,o8,o9,hl2,ha,hv,hb,hu,hw,h2,Ad,Af,Ae,Ac,Ah,Aa]; done)))); (try simp (disch:=omega) only [go_sem,o1,o2,o3,o4,o5,o6,o7,o8,o9,hl2,ha,hv,hb,hu,hw,h2,Ad,Af,Ae,Ac,Ah,Aa]))
    | false =>
     rw [hq] at ha
     rw [zA]
     refine Ai AA A3 (of_decide_eq_true rfl) ?_
     simp (disch:=omega) only [A7,go_sem,o1,o2,o3,o4,o5,o6,o7,o8,o9,hl2,ha,hv,hb,hu,hw,h2,Ad,Af,Ae,Ac,Ah,Aa]
     repeat ((first | (refine Aw ?_ ?_; (focus (simp (disch:=omega) only [go_sem,o1,o2,o3,o4,o5,o6,o7,o8,o9,hl2,ha,hv,hb,hu,hw,h2,Ad,Af,Ae,Ac,Ah,Aa]; done))) | (refine Ax ?_ ?_; (focus (simp (disch:=omega) only [go_sem,o1,o2,o3,o4,o5,o6,o7,o8,o9,hl2,ha,hv,hb,hu,hw,h2,Ad,Af,Ae,Ac,Ah,Aa]; done)))); (try simp (disch:=omega) only [go_sem,o1,o2,o3,o4,o5,o6,o7,o8,o9,hl2,ha,hv,hb,hu,hw,h2,Ad,Af,Ae,Ac,Ah,Aa]))
  ·have hl2:dec ((x.parts.length:Int)=0)=false:=An (by omega)
   have hl3:(x.parts.length == 0)=false:=by simpa using hl
   rw [hl3,zA,zA,zA]
   refine Ai AA A3 (of_decide_eq_true rfl) ?_
   simp (disch:=omega) only [A7,go_sem,o1,o2,o3,o4,o5,o6,o7,o8,o9,hl2,ha,hv,hb,hu, h2,Ad,Af,Ae,Ac,Ah,Aa]
   repeat ((first | (refine Aw ?_ ?_; (focus (simp (disch:=omega) only [go_sem,o1,o2,o3,o4,o5,o6,o7,o8,o9,hl2,ha,hv,hb,hu, h2,Ad,Af,Ae,Ac,Ah,Aa]; done))) | (refine Ax ?_ ?_; (focus (simp (disch:=omega) only [go_sem,o1,o2,o3,o4,o5,o6,o7,o8,o9,hl2,ha,hv,hb,hu, h2,Ad,Af,Ae,Ac,Ah,Aa]; done)))); (try simp (disch:=omega) only [go_sem,o1,o2,o3,o4,o5,o6,o7,o8,o9,hl2,ha,hv,hb,hu, h2,Ad,Af,Ae,Ac,Ah,Aa]))
theorem SQ (x:Fm) (hn:x.atom.nodes≤1099511627776) (hl0:x.parts.length≤1099511627776) (ho:x.op=4) (h2:E 69 [.arr (x.parts.map Fm.d),.fn 70 []] []=some (.bool (x.parts.any fun y=>!y.forms),[])):E 34 [x.sv] []=some (.bool x.forms,[]):=by
 have hf:x.form=(x.parts.length == 1&&x.atom.isZ&&dec (x.var=⟨#[]⟩)):=by unfold Fm.form; rcases ho with ho <;> simp [ho]
 rcases ho with ho
 all_goals
  have o1:dec (x.op=1)=false:=An (by omega)
  have o2:dec (x.op=2)=false:=An (by omega)
  have o3:dec (x.op=3)=false:=An (by omega)
  have o4:dec (x.op=4)=true:=A5 ho
  have o5:dec (x.op=5)=false:=An (by omega)
  have o6:dec (x.op=6)=false:=An (by omega)
  have o7:dec (x.op=7)=false:=An (by omega)
  have o8:dec (x.op=8)=false:=An (by omega)
  have o9:dec (x.op=9)=false:=An (by omega)
  have ha:=Fb x.atom
  have hv:=C1 x.var
  have hb:=Et x.op
  have hu:=Cj x.op
  rw [o5,o6,o7] at hb
  rw [o8,o9] at hu
  rw [Fm.CX,hf,← Fm.any_not]
  by_cases hl:x.parts.length=1
  ·have hl2:dec ((x.parts.length:Int)=1)=true:=A5 (by omega)
   rw [hl,beq_self_eq_true,zD]
   cases hw:dec (x.var=⟨#[]⟩) with
   | false =>
    try rw [hw] at hv
    rw [zY,zA]
    refine Ai AA A3 (of_decide_eq_true rfl) ?_
    simp (disch:=omega) only [A7,go_sem,o1,o2,o3,o4,o5,o6,o7,o8,o9,hl2,ha,hv,hb,hu,hw,h2,Ad,Af,Ae,Ac,Ah,Aa]
    repeat ((first | (refine Aw ?_ ?_; (focus (simp (disch:=omega) only [go_sem,o1,o2,o3,o4,o5,o6,o7,o8,o9,hl2,ha,hv,hb,hu,hw,h2,Ad,Af,Ae,Ac,Ah,Aa]; done))) | (refine Ax ?_ ?_; (focus (simp (disch:=omega) only [go_sem,o1,o2,o3,o4,o5,o6,o7,o8,o9,hl2,ha,hv,hb,hu,hw,h2,Ad,Af,Ae,Ac,Ah,Aa]; done)))); (try simp (disch:=omega) only [go_sem,o1,o2,o3,o4,o5,o6,o7,o8,o9,hl2,ha,hv,hb,hu,hw,h2,Ad,Af,Ae,Ac,Ah,Aa]))
   | true =>
    try rw [hw] at hv
    rw [yB]
    cases hq:x.atom.isZ with
    | true =>
     rw [hq] at ha
     rw [zD]
     refine Ai AA A3 (of_decide_eq_true rfl) ?_
     simp (disch:=omega) only [A7,go_sem,o1,o2,o3,o4,o5,o6,o7,o8,o9,hl2,ha,hv,hb,hu,hw,h2,Ad,Af,Ae,Ac,Ah,Aa]
     repeat ((first | (refine Aw ?_ ?_; (focus (simp (disch:=omega) only [go_sem,o1,o2,o3,o4,o5,o6,o7,o8,o9,hl2,ha,hv,hb,hu,hw,h2,Ad,Af,Ae,Ac,Ah,Aa]; done))) | (refine Ax ?_ ?_; (focus (simp (disch:=omega) only [go_sem,o1,o2,o3,o4,o5,o6,o7,o8,o9,hl2,ha,hv,hb,hu,hw,h2,Ad,Af,Ae,Ac,Ah,Aa]; done)))); (try simp (disch:=omega) only [go_sem,o1,o2,o3,o4,o5,o6,o7,o8,o9,hl2,ha,hv,hb,hu,hw,h2,Ad,Af,Ae,Ac,Ah,Aa]))
    | false =>
     rw [hq] at ha
     rw [zA]
     refine Ai AA A3 (of_decide_eq_true rfl) ?_
     simp (disch:=omega) only [A7,go_sem,o1,o2,o3,o4,o5,o6,o7,o8,o9,hl2,ha,hv,hb,hu,hw,h2,Ad,Af,Ae,Ac,Ah,Aa]
     repeat ((first | (refine Aw ?_ ?_; (focus (simp (disch:=omega) only [go_sem,o1,o2,o3,o4,o5,o6,o7,o8,o9,hl2,ha,hv,hb,hu,hw,h2,Ad,Af,Ae,Ac,Ah,Aa]; done))) | (refine Ax ?_ ?_; (focus (simp (disch:=omega) only [go_sem,o1,o2,o3,o4,o5,o6,o7,o8,o9,hl2,ha,hv,hb,hu,hw,h2,Ad,Af,Ae,Ac,Ah,Aa]; done)))); (try simp (disch:=omega) only [go_sem,o1,o2,o3,o4,o5,o6,o7,o8,o9,hl2,ha,hv,hb,hu,hw,h2,Ad,Af,Ae,Ac,Ah,Aa]))
  ·have hl2:dec ((x.parts.length:Int)=1)=false:=An (by omega)
   have hl3:(x.parts.length == 1)=false:=by simpa using hl
   rw [hl3,zA,zA,zA]
   refine Ai AA A3 (of_decide_eq_true rfl) ?_
   simp (disch:=omega) only [A7,go_sem,o1,o2,o3,o4,o5,o6,o7,o8,o9,hl2,ha,hv,hb,hu, h2,Ad,Af,Ae,Ac,Ah,Aa]
   repeat ((first | (refine Aw ?_ ?_; (focus (simp (disch:=omega) only [go_sem,o1,o2,o3,o4,o5,o6,o7,o8,o9,hl2,ha,hv,hb,hu, h2,Ad,Af,Ae,Ac,Ah,Aa]; done))) | (refine Ax ?_ ?_; (focus (simp (disch:=omega) only [go_sem,o1,o2,o3,o4,o5,o6,o7,o8,o9,hl2,ha,hv,hb,hu, h2,Ad,Af,Ae,Ac,Ah,Aa]; done)))); (try simp (disch:=omega) only [go_sem,o1,o2,o3,o4,o5,o6,o7,o8,o9,hl2,ha,hv,hb,hu, h2,Ad,Af,Ae,Ac,Ah,Aa]))
theorem Kb (x:Fm) (hn:x.atom.nodes≤1099511627776) (hl0:x.parts.length≤1099511627776) (ho:x.op=5∨x.op=6∨x.op=7) (h2:E 69 [.arr (x.parts.map Fm.d),.fn 70 []] []=some (.bool (x.parts.any fun y=>!y.forms),[])):E 34 [x.sv] []=some (.bool x.forms,[]):=by
 have hf:x.form=(x.parts.length == 2&&x.atom.isZ&&dec (x.var=⟨#[]⟩)):=by unfold Fm.form; rcases ho with ho | ho | ho <;> simp [ho]
 rcases ho with ho | ho | ho
 all_goals
  have o1:dec (x.op=1)=false:=An (by omega)
  have o2:dec (x.op=2)=false:=An (by omega)
  have o3:dec (x.op=3)=false:=An (by omega)
  have o4:dec (x.op=4)=false:=An (by omega)
  first
   |(have o5:dec (x.op=5)=true:=A5 ho)
   |(have o5:dec (x.op=5)=false:=An (by omega))
  first
   |(have o6:dec (x.op=6)=true:=A5 ho)
   |(have o6:dec (x.op=6)=false:=An (by omega))
  first
   |(have o7:dec (x.op=7)=true:=A5 ho)
   |(have o7:dec (x.op=7)=false:=An (by omega))
  have o8:dec (x.op=8)=false:=An (by omega)
  have o9:dec (x.op=9)=false:=An (by omega)
  have ha:=Fb x.atom
  have hv:=C1 x.var
  have hb:=Et x.op
  have hu:=Cj x.op
  rw [o5,o6,o7] at hb
  rw [o8,o9] at hu
  rw [Fm.CX,hf,← Fm.any_not]
  by_cases hl:x.parts.length=2
  ·have hl2:dec ((x.parts.length:Int)=2)=true:=A5 (by omega)
   rw [hl,beq_self_eq_true,zD]
   cases hw:dec (x.var=⟨#[]⟩) with
   | false =>
    try rw [hw] at hv
    rw [zY,zA]
    refine Ai AA A3 (of_decide_eq_true rfl) ?_
    simp (disch:=omega) only [A7,go_sem,o1,o2,o3,o4,o5,o6,o7,o8,o9,hl2,ha,hv,hb,hu,hw,h2,Ad,Af,Ae,Ac,Ah,Aa]
    repeat ((first | (refine Aw ?_ ?_; (focus (simp (disch:=omega) only [go_sem,o1,o2,o3,o4,o5,o6,o7,o8,o9,hl2,ha,hv,hb,hu,hw,h2,Ad,Af,Ae,Ac,Ah,Aa]; done))) | (refine Ax ?_ ?_; (focus (simp (disch:=omega) only [go_sem,o1,o2,o3,o4,o5,o6,o7,o8,o9,hl2,ha,hv,hb,hu,hw,h2,Ad,Af,Ae,Ac,Ah,Aa]; done)))); (try simp (disch:=omega) only [go_sem,o1,o2,o3,o4,o5,o6,o7,o8,o9,hl2,ha,hv,hb,hu,hw,h2,Ad,Af,Ae,Ac,Ah,Aa]))
   | true =>
    try rw [hw] at hv
    rw [yB]
    cases hq:x.atom.isZ with
    | true =>
     rw [hq] at ha
     rw [zD]
     refine Ai AA A3 (of_decide_eq_true rfl) ?_
     simp (disch:=omega) only [A7,go_sem,o1,o2,o3,o4,o5,o6,o7,o8,o9,hl2,ha,hv,hb,hu,hw,h2,Ad,Af,Ae,Ac,Ah,Aa]
     repeat ((first | (refine Aw ?_ ?_; (focus (simp (disch:=omega) only [go_sem,o1,o2,o3,o4,o5,o6,o7,o8,o9,hl2,ha,hv,hb,hu,hw,h2,Ad,Af,Ae,Ac,Ah,Aa]; done))) | (refine Ax ?_ ?_; (focus (simp (disch:=omega) only [go_sem,o1,o2,o3,o4,o5,o6,o7,o8,o9,hl2,ha,hv,hb,hu,hw,h2,Ad,Af,Ae,Ac,Ah,Aa]; done)))); (try simp (disch:=omega) only [go_sem,o1,o2,o3,o4,o5,o6,o7,o8,o9,hl2,ha,hv,hb,hu,hw,h2,Ad,Af,Ae,Ac,Ah,Aa]))
    | false =>
     rw [hq] at ha
     rw [zA]
     refine Ai AA A3 (of_decide_eq_true rfl) ?_
     simp (disch:=omega) only [A7,go_sem,o1,o2,o3,o4,o5,o6,o7,o8,o9,hl2,ha,hv,hb,hu,hw,h2,Ad,Af,Ae,Ac,Ah,Aa]
     repeat ((first | (refine Aw ?_ ?_; (focus (simp (disch:=omega) only [go_sem,o1,o2,o3,o4,o5,o6,o7,o8,o9,hl2,ha,hv,hb,hu,hw,h2,Ad,Af,Ae,Ac,Ah,Aa]; done))) | (refine Ax ?_ ?_; (focus (simp (disch:=omega) only [go_sem,o1,o2,o3,o4,o5,o6,o7,o8,o9,hl2,ha,hv,hb,hu,hw,h2,Ad,Af,Ae,Ac,Ah,Aa]; done)))); (try simp (disch:=omega) only [go_sem,o1,o2,o3,o4,o5,o6,o7,o8,o9,hl2,ha,hv,hb,hu,hw,h2,Ad,Af,Ae,Ac,Ah,Aa]))
  ·have hl2:dec ((x.parts.length:Int)=2)=false:=An (by omega)
   have hl3:(x.parts.length == 2)=false:=by simpa using hl
   rw [hl3,zA,zA,zA]
   refine Ai AA A3 (of_decide_eq_true rfl) ?_
   simp (disch:=omega) only [A7,go_sem,o1,o2,o3,o4,o5,o6,o7,o8,o9,hl2,ha,hv,hb,hu, h2,Ad,Af,Ae,Ac,Ah,Aa]
   repeat ((first | (refine Aw ?_ ?_; (focus (simp (disch:=omega) only [go_sem,o1,o2,o3,o4,o5,o6,o7,o8,o9,hl2,ha,hv,hb,hu, h2,Ad,Af,Ae,Ac,Ah,Aa]; done))) | (refine Ax ?_ ?_; (focus (simp (disch:=omega) only [go_sem,o1,o2,o3,o4,o5,o6,o7,o8,o9,hl2,ha,hv,hb,hu, h2,Ad,Af,Ae,Ac,Ah,Aa]; done)))); (try simp (disch:=omega) only [go_sem,o1,o2,o3,o4,o5,o6,o7,o8,o9,hl2,ha,hv,hb,hu, h2,Ad,Af,Ae,Ac,Ah,Aa]))
theorem NP (x:Fm) (hn:x.atom.nodes≤1099511627776) (hl0:x.parts.length≤1099511627776) (ho:x.op=8∨x.op=9) (h2:E 69 [.arr (x.parts.map Fm.d),.fn 70 []] []=some (.bool (x.parts.any fun y=>!y.forms),[])):E 34 [x.sv] []=some (.bool x.forms,[]):=by
 have hf:x.form=(x.parts.length == 1&&x.atom.isZ&&Bs x.var):=by unfold Fm.form; rcases ho with ho | ho <;> simp [ho]
 rcases ho with ho | ho
 all_goals
  have o1:dec (x.op=1)=false:=An (by omega)
  have o2:dec (x.op=2)=false:=An (by omega)
  have o3:dec (x.op=3)=false:=An (by omega)
  have o4:dec (x.op=4)=false:=An (by omega)
  have o5:dec (x.op=5)=false:=An (by omega)
  have o6:dec (x.op=6)=false:=An (by omega)
  have o7:dec (x.op=7)=false:=An (by omega)
  first
   |(have o8:dec (x.op=8)=true:=A5 ho)
   |(have o8:dec (x.op=8)=false:=An (by omega))
  first
   |(have o9:dec (x.op=9)=true:=A5 ho)
   |(have o9:dec (x.op=9)=false:=An (by omega))
  have ha:=Fb x.atom
  have hv:=C1 x.var
  have hb:=Et x.op
  have hu:=Cj x.op
  rw [o5,o6,o7] at hb
  rw [o8,o9] at hu
  rw [Fm.CX,hf,← Fm.any_not]
  by_cases hl:x.parts.length=1
  ·have hl2:dec ((x.parts.length:Int)=1)=true:=A5 (by omega)
   rw [hl,beq_self_eq_true,zD]
   cases hw:Bs x.var with
   | false =>
    try rw [hw] at hv
    rw [zY,zA]
    refine Ai AA A3 (of_decide_eq_true rfl) ?_
    simp (disch:=omega) only [A7,go_sem,o1,o2,o3,o4,o5,o6,o7,o8,o9,hl2,ha,hv,hb,hu, h2,Ad,Af,Ae,Ac,Ah,Aa]
    repeat ((first | (refine Aw ?_ ?_; (focus (simp (disch:=omega) only [go_sem,o1,o2,o3,o4,o5,o6,o7,o8,o9,hl2,ha,hv,hb,hu, h2,Ad,Af,Ae,Ac,Ah,Aa]; done))) | (refine Ax ?_ ?_; (focus (simp (disch:=omega) only [go_sem,o1,o2,o3,o4,o5,o6,o7,o8,o9,hl2,ha,hv,hb,hu, h2,Ad,Af,Ae,Ac,Ah,Aa]; done)))); (try simp (disch:=omega) only [go_sem,o1,o2,o3,o4,o5,o6,o7,o8,o9,hl2,ha,hv,hb,hu, h2,Ad,Af,Ae,Ac,Ah,Aa]))
   | true =>
    try rw [hw] at hv
    rw [yB]
    cases hq:x.atom.isZ with
    | true =>
     rw [hq] at ha
     rw [zD]
     refine Ai AA A3 (of_decide_eq_true rfl) ?_
     simp (disch:=omega) only [A7,go_sem,o1,o2,o3,o4,o5,o6,o7,o8,o9,hl2,ha,hv,hb,hu, h2,Ad,Af,Ae,Ac,Ah,Aa]
     repeat ((first | (refine Aw ?_ ?_; (focus (simp (disch:=omega) only [go_sem,o1,o2,o3,o4,o5,o6,o7,o8,o9,hl2,ha,hv,hb,hu, h2,Ad,Af,Ae,Ac,Ah,Aa]; done))) | (refine Ax ?_ ?_; (focus (simp (disch:=omega) only [go_sem,o1,o2,o3,o4,o5,o6,o7,o8,o9,hl2,ha,hv,hb,hu, h2,Ad,Af,Ae,Ac,Ah,Aa]; done)))); (try simp (disch:=omega) only [go_sem,o1,o2,o3,o4,o5,o6,o7,o8,o9,hl2,ha,hv,hb,hu, h2,Ad,Af,Ae,Ac,Ah,Aa]))
    | false =>
     rw [hq] at ha
     rw [zA]
     refine Ai AA A3 (of_decide_eq_true rfl) ?_
     simp (disch:=omega) only [A7,go_sem,o1,o2,o3,o4,o5,o6,o7,o8,o9,hl2,ha,hv,hb,hu, h2,Ad,Af,Ae,Ac,Ah,Aa]
     repeat ((first | (refine Aw ?_ ?_; (focus (simp (disch:=omega) only [go_sem,o1,o2,o3,o4,o5,o6,o7,o8,o9,hl2,ha,hv,hb,hu, h2,Ad,Af,Ae,Ac,Ah,Aa]; done))) | (refine Ax ?_ ?_; (focus (simp (disch:=omega) only [go_sem,o1,o2,o3,o4,o5,o6,o7,o8,o9,hl2,ha,hv,hb,hu, h2,Ad,Af,Ae,Ac,Ah,Aa]; done)))); (try simp (disch:=omega) only [go_sem,o1,o2,o3,o4,o5,o6,o7,o8,o9,hl2,ha,hv,hb,hu, h2,Ad,Af,Ae,Ac,Ah,Aa]))
  ·have hl2:dec ((x.parts.length:Int)=1)=false:=An (by omega)
   have hl3:(x.parts.length == 1)=false:=by simpa using hl
   rw [hl3,zA,zA,zA]
   refine Ai AA A3 (of_decide_eq_true rfl) ?_
   simp (disch:=omega) only [A7,go_sem,o1,o2,o3,o4,o5,o6,o7,o8,o9,hl2,ha,hv,hb,hu, h2,Ad,Af,Ae,Ac,Ah,Aa]
   repeat ((first | (refine Aw ?_ ?_; (focus (simp (disch:=omega) only [go_sem,o1,o2,o3,o4,o5,o6,o7,o8,o9,hl2,ha,hv,hb,hu, h2,Ad,Af,Ae,Ac,Ah,Aa]; done))) | (refine Ax ?_ ?_; (focus (simp (disch:=omega) only [go_sem,o1,o2,o3,o4,o5,o6,o7,o8,o9,hl2,ha,hv,hb,hu, h2,Ad,Af,Ae,Ac,Ah,Aa]; done)))); (try simp (disch:=omega) only [go_sem,o1,o2,o3,o4,o5,o6,o7,o8,o9,hl2,ha,hv,hb,hu, h2,Ad,Af,Ae,Ac,Ah,Aa]))
theorem QT (x:Fm) (ht:x.tame) (hn:x.nodes≤1099511627776) (ih:∀ y∈x.parts,E 34 [y.sv] []=some (.bool y.forms,[])):E 34 [x.sv] []=some (.bool x.forms,[]):=by
 have hl:=Fm.length_le x.parts
 have hx:=Fm.nodes_eq x
 have ha:=Fm.tame_at ht
 have h1:∀ y∈x.parts,E 70 [y.sv] []=some (.bool (!y.forms),[]):=fun y hy=>by
  have h:=ih y hy
  refine Ai JZ G3 (of_decide_eq_true rfl) ?_
  simp (disch:=omega) only [G2,go_sem,Ab,h,A3]
 have h2:=IW 70 (fun y=>!y.forms) x.parts (by omega) Ka (by rw [G3]) h1
 rcases LM x.op with h | h | h | h | h | h | h | h | h | h
 ·exact NO x ha (by omega) (.inl h) h2
 ·exact NO x ha (by omega) (.inr h) h2
 ·exact SP x ha (by omega) h h2
 ·exact SQ x ha (by omega) h h2
 ·exact Kb x ha (by omega) (.inl h) h2
 ·exact Kb x ha (by omega) (.inr (.inl h)) h2
 ·exact Kb x ha (by omega) (.inr (.inr h)) h2
 ·exact NP x ha (by omega) (.inl h) h2
 ·exact NP x ha (by omega) (.inr h) h2
 ·obtain ⟨k1,k2,k3,k4,k5,k6,k7,k8,k9⟩:=h
  have hf:x.form=false:=by unfold Fm.form; simp [k1,k2,k3,k4,k5,k6,k7,k8,k9]
  have o1:=An k1
  have o2:=An k2
  have o3:=An k3
  have o4:=An k4
  have o5:=An k5
  have o6:=An k6
  have o7:=An k7
  have o8:=An k8
  have o9:=An k9
  have hb:=Et x.op
  have hu:=Cj x.op
  rw [o5,o6,o7] at hb
  rw [o8,o9] at hu
  rw [Fm.CX,hf,zA]
  refine Ai AA A3 (of_decide_eq_true rfl) ?_
  simp (disch:=omega) only [A7,go_sem,o1,o2,o3,o4,o5,o6,o7,o8,o9,hb,hu,Ac,Ah]
  repeat ((first | (refine Aw ?_ ?_; (focus (simp (disch:=omega) only [go_sem,o1,o2,o3,o4,o5,o6,o7,o8,o9,hb,hu,Ac,Ah]; done))) | (refine Ax ?_ ?_; (focus (simp (disch:=omega) only [go_sem,o1,o2,o3,o4,o5,o6,o7,o8,o9,hb,hu,Ac,Ah]; done)))); (try simp (disch:=omega) only [go_sem,o1,o2,o3,o4,o5,o6,o7,o8,o9,hb,hu,Ac,Ah]))
theorem NQ (x:Fm) (ht:x.tame) (hn:x.nodes≤1099511627776):E 34 [x.sv] []=some (.bool x.forms,[]) :=
 QT x ht hn fun y hy=>NQ y (Fm.Fg ht hy) (by have:=Fm.nodes_mem hy; have:=Fm.nodes_eq x; omega)
termination_by SizeOf.sizeOf x
decreasing_by exact Fm.lt_of_mem hy
theorem Eu (x:Fm) (ht:x.tame) (hn:x.nodes≤1099511627776):E 15 [x.sv] []=some (.bool x.valid,[]):=by
 have h1:=RP x hn
 have h2:=NQ x ht hn
 have h3:=Fm.cap_spec x
 unfold Fm.valid
 rcases zC 40 x.nodes with h5 | h5
 ·rw [decide_eq_false (by omega),zA]
  have d:dec (x.cap≤40)=false:=An (by omega)
  refine Ai Eb AP (of_decide_eq_true rfl) ?_
  simp (disch:=omega) only [Dh,go_sem,Ab,h1,h2,d,DA,A3]
 ·rw [decide_eq_true h5,zD]
  have d:dec (x.cap≤40)=true:=A5 (by omega)
  refine Ai Eb AP (of_decide_eq_true rfl) ?_
  simp (disch:=omega) only [Dh,go_sem,Ab,h1,h2,d,DA,A3]
theorem UI (x:Fm) (ht:x.tame) (hn:x.nodes≤1099511627776):E 20 [x.sv] []=some (.bool x.valid,[]):=by
 have h1:=RQ x 40 (by omega) (by omega) hn
 have h2:=NN x ht hn
 have h3:=Fm.many_spec x 40
 unfold Fm.valid
 rcases zC 40 x.nodes with h5 | h5
 ·rw [decide_eq_false (by omega),zA]
  have d:dec ((x.many 40)≤40)=false:=An (by omega)
  refine Ai I3 CB (of_decide_eq_true rfl) ?_
  simp (disch:=omega) only [Gc,go_sem,Ab,h1,h2,d,DB,CJ]
 ·rw [decide_eq_true h5,zD]
  have d:dec ((x.many 40)≤40)=true:=A5 (by omega)
  refine Ai I3 CB (of_decide_eq_true rfl) ?_
  simp (disch:=omega) only [Gc,go_sem,Ab,h1,h2,d,DB,CJ]
def Fm.osh (x:Fm):List OT:=[.int x.op,.str x.atom.name,.sh (x.atom.args.map Tm.d),.str x.var,.sh (x.parts.map Fm.d)]
theorem Fm.osh_eq (x:Fm):x.osh=[.int x.op,.str x.atom.name,.sh (x.atom.args.map Tm.d),.str x.var,.sh (x.parts.map Fm.d)]:=rfl
theorem Fm.osh_full:∀ xs:List Fm,OT.AH (xs.map Fm.osh)=true
 | []=>rfl
 | x :: xs=>by simp only [zP,OT.AH,Fm.osh,OT.CR,OT.full,Fm.osh_full xs,yG]
theorem Fm.osh_er:∀ xs:List Fm,OT.erss (xs.map Fm.osh)=xs.map Fm.d
 | []=>rfl
 | x :: xs=>by simp only [zP,OT.erss,Fm.osh,OT.ers,OT.er,Fm.osh_er xs,Fm.d_eq]
theorem Fm.eta (x:Fm):Fm.mk x.op x.atom x.var x.parts=x:=by
 obtain ⟨a,b,c,d⟩:=x
 rfl
def EK:SC:=(.seq (.reg [⟨some 2,none,.boxv 29 5 (.t 0)⟩,⟨(some 4),none,(.alloc 29 [(.int .i64 0),(.str ⟨#[]⟩),.nil,(.str ⟨#[]⟩),.nil])⟩]) (.seq (.dreg [[],[0],[],[2],[3,2],[],[5],[1,0,4,3,2,6,5],[],[8,7,1,0,4,3,2,6,5]] [⟨some 8,none,.faddr 0 (.t 2)⟩,⟨some 9,none,.load false 1 (.t 8)⟩,⟨some 10,none,.faddr 1 (.t 2)⟩,⟨some 11,none,.load true 2 (.t 10)⟩,⟨some 12,none,.call 80 [(.t 11)]⟩,⟨some 13,none,.faddr 3 (.t 2)⟩,⟨some 14,none,.load false 1 (.t 13)⟩,⟨(some 15),none,(.build [(.int .i64 0),(.str ⟨#[]⟩),.nil,(.str ⟨#[]⟩),.nil] [(0,(1,(.t 9))),(1,(2,(.t 12))),(3,(1,(.t 14)))])⟩,⟨(some 5),none,(.alloc 29 [(.int .i64 0),(.str ⟨#[]⟩),.nil,(.str ⟨#[]⟩),.nil])⟩,⟨none,none,(.store 5 (.t 5) (.t 15))⟩]) (.seq (.seq (.reg [⟨some 16,none,.faddr 4 (.t 2)⟩,⟨some 17,none,.load false 1 (.t 16)⟩,⟨some 18,none,.len false (.t 17)⟩,⟨some 19,none,.mv (.c (.int .i64 0))⟩]) (.block 0 (.loop [0,1,0,0,1,1,0,0,0,0,0,0,0,0,0,0,0,1,1,1,0,0,0,0,0,0,0,0,0,0,0,0,0] (.seq (.reg [⟨some 20,none,.bin .lss false (.t 19) (.t 18)⟩]) (.seq (.cond (.t 20) .skip (.exit 0)) (.seq (.block 1 (.seq (.reg [⟨some 21,none,.iaddr 5 (.t 17) (.t 19)⟩,⟨some 22,none,.load true 5 (.t 21)⟩,⟨(some 7),none,(.alloc 29 [(.int .i64 0),(.str ⟨#[]⟩),.nil,(.str ⟨#[]⟩),.nil])⟩,⟨none,none,(.store 5 (.t 7) (.t 22))⟩]) (.dreg [[],[0],[],[],[2,3],[4,2,3],[1,0,5,4,2,3],[0,1,2,3,4,5,6],[7,0,1,2,3,4,5,6]] [⟨some 23,none,.faddr 4 (.t 5)⟩,⟨some 24,none,.load false 1 (.t 23)⟩,⟨some 25,none,.mv (.t 1)⟩,⟨some 26,none,.load true 5 (.t 7)⟩,⟨some 27,none,.callv (.t 25) [(.t 26)]⟩,⟨(some 28),none,(.mkrow 29 5 [(.int .i64 0),(.str ⟨#[]⟩),.nil,(.str ⟨#[]⟩),.nil] 1 [(0,(.t 27))])⟩,⟨(some 29),none,(.append 29 5 88 [(.int .i64 0),(.str ⟨#[]⟩),.nil,(.str ⟨#[]⟩),.nil] (.t 24) (.t 28))⟩,⟨some 30,none,.faddr 4 (.t 5)⟩,⟨none,none,(.store 1 (.t 30) (.t 29))⟩]))) (.reg [⟨some 31,none,.bin .add false (.t 19) (.c (.int .i64 1))⟩,⟨some 19,none,.mv (.t 31)⟩]))))))) (.seq (.reg [⟨some 32,none,.load true 5 (.t 5)⟩,⟨none,none,(.store 5 (.t 4) (.t 32))⟩]) .ret))))
theorem Hg:Ar Tryz.prog 46=some ⟨33,EK,[(.cell 4 true 5)]⟩:=by kernel_rfl
theorem AQ:modes 46=⟨[],.own [none,none,some (26,2),none,some (29,5)],none,false⟩:=by unfold modes; rfl
def F9:SC:=(.seq (.reg [⟨some 1,none,.boxv 29 5 (.t 0)⟩,⟨(some 2),none,(.alloc 29 [(.int .i64 0),(.str ⟨#[]⟩),.nil,(.str ⟨#[]⟩),.nil])⟩]) (.seq (.reg [⟨some 3,none,.load true 5 (.t 1)⟩,⟨some 4,none,.call 46 [(.t 3),(.c (.fn 44 []))]⟩,⟨none,none,(.store 5 (.t 2) (.t 4))⟩]) .ret))
theorem IX:Ar Tryz.prog 44=some ⟨5,F9,[(.cell 2 true 5)]⟩:=by kernel_rfl
theorem AZ:modes 44=⟨[],.own [none,none,some (26,2),none,some (29,5)],none,false⟩:=by unfold modes; rfl
theorem IY:Hm Tryz.prog 44=true:=by kernel_rfl
def J2:SC:=(.seq (.reg [⟨some 1,none,.boxv 29 5 (.t 0)⟩,⟨(some 2),none,(.alloc 29 [(.int .i64 0),(.str ⟨#[]⟩),.nil,(.str ⟨#[]⟩),.nil])⟩]) (.seq (.dreg [[],[0],[],[2],[3,2],[],[5],[1,0,4,3,2,6,5],[],[8,7,1,0,4,3,2,6,5]] [⟨some 5,none,.faddr 0 (.t 1)⟩,⟨some 6,none,.load false 1 (.t 5)⟩,⟨some 7,none,.faddr 1 (.t 1)⟩,⟨some 8,none,.load true 2 (.t 7)⟩,⟨some 9,none,.call 87 [(.t 8)]⟩,⟨some 10,none,.faddr 3 (.t 1)⟩,⟨some 11,none,.load false 1 (.t 10)⟩,⟨(some 12),none,(.build [(.int .i64 0),(.str ⟨#[]⟩),.nil,(.str ⟨#[]⟩),.nil] [(0,(1,(.t 6))),(1,(2,(.t 9))),(3,(1,(.t 11)))])⟩,⟨(some 3),none,(.alloc 29 [(.int .i64 0),(.str ⟨#[]⟩),.nil,(.str ⟨#[]⟩),.nil])⟩,⟨none,none,(.store 5 (.t 3) (.t 12))⟩]) (.seq (.seq (.reg [⟨some 4,none,.mv (.c (.int .i64 0))⟩]) (.block 0 (.loop [0,1,1,1,1,0,0,0,0,0,0,0,0,0,0,0,0,0,0,0,0,0,0,0,0,0,0,0,0,0,0,0] (.seq (.seq (.reg [⟨some 13,none,.mv (.t 4)⟩,⟨some 14,none,.faddr 4 (.t 1)⟩,⟨some 15,none,.load false 1 (.t 14)⟩,⟨some 16,none,.len false (.t 15)⟩,⟨some 17,none,.bin .lss false (.t 13) (.t 16)⟩]) (.cond (.t 17) .skip (.exit 0))) (.seq (.block 1 (.dreg [[],[0],[],[2],[],[3,2,4],[5,3,2,4],[6,5,3,2,4],[7,6,5,3,2,4],[1,0,8,7,6,5,3,2,4],[0,1,2,3,4,5,6,7,8,9],[10,0,1,2,3,4,5,6,7,8,9]] [⟨some 20,none,.faddr 4 (.t 3)⟩,⟨some 21,none,.load false 1 (.t 20)⟩,⟨some 22,none,.faddr 4 (.t 1)⟩,⟨some 23,none,.load false 1 (.t 22)⟩,⟨some 24,none,.mv (.t 4)⟩,⟨some 25,none,.iaddr 5 (.t 23) (.t 24)⟩,⟨some 26,none,.load true 5 (.t 25)⟩,⟨some 27,none,.call 60 [(.t 26)]⟩,⟨(some 28),none,(.mkrow 29 5 [(.int .i64 0),(.str ⟨#[]⟩),.nil,(.str ⟨#[]⟩),.nil] 1 [(0,(.t 27))])⟩,⟨(some 29),none,(.append 29 5 88 [(.int .i64 0),(.str ⟨#[]⟩),.nil,(.str ⟨#[]⟩),.nil] (.t 21) (.t 28))⟩,⟨some 30,none,.faddr 4 (.t 3)⟩,⟨none,none,(.store 1 (.t 30) (.t 29))⟩])) (.reg [⟨some 18,none,.mv (.t 4)⟩,⟨some 19,none,.bin .add false (.t 18) (.c (.int .i64 1))⟩,⟨some 4,none,.mv (.t 19)⟩])))))) (.seq (.reg [⟨some 31,none,.load true 5 (.t 3)⟩,⟨none,none,(.store 5 (.t 2) (.t 31))⟩]) .ret))))
theorem O8:Ar Tryz.prog 60=some ⟨32,J2,[(.cell 2 true 5)]⟩:=by kernel_rfl
theorem AV:modes 60=⟨[],.frz,none,false⟩:=by unfold modes; rfl
theorem PT (fid:Nat) (g:Fm→Fm) (x:Fm) (hl:x.parts.length≤1099511627776) (hat:x.atom.nodes≤1099511627776) (hg:Hm Tryz.prog fid=true) (hm:(modes fid).hand=[]) (hr:∀ r,Fn (modes fid).res r=r) (hE:∀ y∈x.parts,E fid [y.sv] []=some ((g y).osv,(g y).obs)):E 46 [x.sv,.fn fid []] []=some ((Fm.mk x.op x.atom x.var (x.parts.map g)).osv,(Fm.mk x.op x.atom x.var (x.parts.map g)).obs):=by
 have hct:=GP x.atom hat
 have h10:((1:Int)=0)=False:=by simp
 have hmm:∀ ys:List Fm,(ys.map g).map Fm.o=ys.map fun y=>Fm.o (g y):=fun ys=>by rw [zZ]; rfl
 show _=some (SV.agg [.int .i64 x.op,.str x.atom.name,.ref 0,.str x.var,.ref 1],[Ob.row 26 2 (x.atom.args.map Tm.o),.row 29 5 ((x.parts.map g).map Fm.o)])
 rw [hmm]
 refine Ai Hg AQ (of_decide_eq_true rfl) ?_
 simp (disch:=omega) only [EK,go_sem,Ab,hct,Da,Tm.osv,Tm.obs]
 refine go_loop (α:=Int) (fun a=>⟨slots 33 0 [(1,.fn fid []),(4,.ptr 0 0),(5,.ptr 1 0),(17,.arr (x.parts.map Fm.d)),(18,.int .i64 x.parts.length),(19,.int .i64 a)],(if a=0 then [.box 29 [.int .i64 0,.str ⟨#[]⟩,.nil,.str ⟨#[]⟩,.nil],.box 29 [.int .i64 x.op,.str x.atom.name,.ref 2,.str x.var,.nil],.row 26 2 (x.atom.args.map Tm.o)] else [.box 29 [.int .i64 0,.str ⟨#[]⟩,.nil,.str ⟨#[]⟩,.nil],.box 29 [.int .i64 x.op,.str x.atom.name,.ref 2,.str x.var,.ref 3],.row 26 2 (x.atom.args.map Tm.o),.row 29 5 ((x.parts.take a.toNat).map fun y=>Fm.o (g y))])⟩) (fun a=>∃ k:Nat,a=k∧k≤(x.parts).length) (fun a=>(x.parts).length-(a).toNat) 0 ⟨0,rfl,zK _⟩ (by simp (disch:=omega) only [go_sem,Ab,eq_self,if_true]) ?_
 rintro i ⟨k,hi,hk⟩
 have hni:i.toNat=k:=by omega
 have hni1:(i+1).toNat=k+1:=by omega
 rcases zC k (x.parts).length with hlt | hge
 ·have hgt:=get_at Fm.d hlt
  rw [Fm.d_eq] at hgt
  have hc:=hE x.parts[k] (zG hlt)
  have hs:=EB (fun y=>Fm.o (g y)) hlt
  rw [Fm.o_eq] at hs
  rcases zI k with h0 | h0
  ·subst h0
   obtain rfl:i=0:=hi
   rw [zN,zH,zV] at hs
   simp (disch:=omega) only [go_sem,Ab,hni,hgt,hc,hg,hm,hr,Fm.osv,Fm.obs,eq_self,if_true]
   refine ⟨1,⟨1,rfl,hlt⟩,by omega,?_⟩
   simp (disch:=omega) only [go_sem,Ab,h10,if_false,hs]
  ·have hi0:(i=0)=False:=by simp; omega
   have hi1:(i+1=0)=False:=by simp; omega
   have htl:(x.parts.take k).length=k:=by rw [zT]; omega
   simp (disch:=omega) only [go_sem,Ab,hni,hgt,hc,hg,hm,hr,Fm.osv,Fm.obs,hi0,if_false,htl]
   refine ⟨i+1,⟨k+1,by omega,hlt⟩,by omega,?_⟩
   simp (disch:=omega) only [go_sem,Ab,hni1,hi1,if_false,hs]
 ·obtain rfl:k=x.parts.length:=by omega
  have ht:x.parts.take x.parts.length=x.parts:=yA
  rcases zI x.parts.length with h0 | h0
  ·have hx:x.parts=[]:=zQ h0
   obtain rfl:i=0:=by omega
   simp (disch:=omega) only [go_sem,Ab,hni,hx,eq_self,if_true,zH,zS]
  ·have hi0:(i=0)=False:=by simp; omega
   simp (disch:=omega) only [go_sem,Ab,hni,hi0,if_false,ht]
theorem Mr (x:Fm) (ht:x.tame) (hn:x.nodes≤1099511627776) (ih:∀ y∈x.parts,E 44 [y.sv] []=some (y.osv,y.obs)):E 44 [x.sv] []=some (x.osv,x.obs):=by
 have hx:=Fm.nodes_eq x
 have hl:=Fm.length_le x.parts
 have hat:=Fm.tame_at ht
 have h:=PT 44 (fun y=>y) x (by omega) (by omega) IY (by rw [AZ]) (fun r=>by rw [AZ]; rfl) ih
 rw [List.map_id',Fm.eta] at h
 refine Ai IX AZ (of_decide_eq_true rfl) ?_
 simp (disch:=omega) only [F9,go_sem,Ab,h,AQ,Fm.osv,Fm.obs]
theorem I4 (x:Fm) (ht:x.tame) (hn:x.nodes≤1099511627776):E 44 [x.sv] []=some (x.osv,x.obs) :=
 Mr x ht hn fun y hy=>I4 y (Fm.Fg ht hy) (by have:=Fm.nodes_mem hy; have:=Fm.nodes_eq x; omega)
termination_by SizeOf.sizeOf x
decreasing_by exact Fm.lt_of_mem hy
theorem UJ (x:Fm) (ht:x.tame) (hn:x.nodes≤1099511627776) (ih:∀ y∈x.parts,E 60 [y.sv] []=some (y.sv,[])):E 60 [x.sv] []=some (x.sv,[]):=by
 have hx0:=Fm.nodes_eq x
 have hl:=Fm.length_le x.parts
 have hat:=Fm.tame_at ht
 have hct:=KN x.atom (by omega)
 have h10:((1:Int)=0)=False:=by simp
 have hfu:=Fm.osh_full x.parts
 have her:=Fm.osh_er x.parts
 refine Ai O8 AV (of_decide_eq_true rfl) ?_
 simp (disch:=omega) only [J2,go_sem,Ab,hct,Dx]
 refine go_loop (α:=Int) (fun a=>⟨slots 32 0 [(1,.ptr 0 0),(2,.ptr 1 0),(3,.ptr 2 0),(4,.int .i64 a)],(if a=0 then [.box 29 [.int .i64 x.op,.str x.atom.name,.arr (x.atom.args.map Tm.d),.str x.var,.arr (x.parts.map Fm.d)],.box 29 [.int .i64 0,.str ⟨#[]⟩,.nil,.str ⟨#[]⟩,.nil],.box 29 [.int .i64 x.op,.str x.atom.name,.arr (x.atom.args.map Tm.d),.str x.var,.nil]] else [.box 29 [.int .i64 x.op,.str x.atom.name,.arr (x.atom.args.map Tm.d),.str x.var,.arr (x.parts.map Fm.d)],.box 29 [.int .i64 0,.str ⟨#[]⟩,.nil,.str ⟨#[]⟩,.nil],.box 29 [.int .i64 x.op,.str x.atom.name,.arr (x.atom.args.map Tm.d),.str x.var,.ref 3],.row 29 5 ((x.parts.take a.toNat).map Fm.osh)])⟩) (fun a=>∃ k:Nat,a=k∧k≤(x.parts).length) (fun a=>(x.parts).length-(a).toNat) 0 ⟨0,rfl,zK _⟩ (by simp (disch:=omega) only [go_sem,Ab,eq_self,if_true]) ?_
 rintro i ⟨k,hi,hk⟩
 have hni:i.toNat=k:=by omega
 have hni1:(i+1).toNat=k+1:=by omega
 rcases zC k (x.parts).length with hlt | hge
 ·have hg:=get_at Fm.d hlt
  rw [Fm.d_eq] at hg
  have hc:=ih x.parts[k] (zG hlt)
  have hs:=EB Fm.osh hlt
  rw [Fm.osh_eq] at hs
  rcases zI k with h0 | h0
  ·subst h0
   obtain rfl:i=0:=hi
   rw [zN,zH,zV] at hs
   simp (disch:=omega) only [go_sem,Ab,hni,hg,hc,AV,eq_self,if_true]
   refine ⟨1,⟨1,rfl,hlt⟩,by omega,?_⟩
   simp (disch:=omega) only [go_sem,Ab,h10,if_false,hs]
  ·have hi0:(i=0)=False:=by simp; omega
   have hi1:(i+1=0)=False:=by simp; omega
   have htl:(x.parts.take k).length=k:=by rw [zT]; omega
   simp (disch:=omega) only [go_sem,Ab,hni,hg,hc,AV,hi0,if_false,htl]
   refine ⟨i+1,⟨k+1,by omega,hlt⟩,by omega,?_⟩
   simp (disch:=omega) only [go_sem,Ab,hni1,hi1,if_false,hs]
 ·obtain rfl:k=x.parts.length:=by omega
  have ht2:x.parts.take x.parts.length=x.parts:=yA
  rcases zI x.parts.length with h0 | h0
  ·have hx:x.parts=[]:=zQ h0
   obtain rfl:i=0:=by omega
   simp (disch:=omega) only [go_sem,Ab,hni,hx,eq_self,if_true,zH,zS]
  ·have hi0:(i=0)=False:=by simp; omega
   simp (disch:=omega) only [go_sem,Ab,hni,hi0,if_false,ht2,hfu,her]
theorem RR (x:Fm) (ht:x.tame) (hn:x.nodes≤1099511627776):E 60 [x.sv] []=some (x.sv,[]) :=
 UJ x ht hn fun y hy=>RR y (Fm.Fg ht hy) (by have:=Fm.nodes_mem hy; have:=Fm.nodes_eq x; omega)
termination_by SizeOf.sizeOf x
decreasing_by exact Fm.lt_of_mem hy
theorem UK (xs:List ByteArray) (h:xs.length≤1048576):E 97 [.arr (xs.map fun s=>[D.str s])] []=some (.ref 0,[.row 9 1 (xs.map fun s=>[OT.str s])]):=by
 rw [QA (g:=JO) (by unfold modes; rfl)]
 unfold JO
 simp only
 rw [A5 ⟨fun e he=>by obtain ⟨s,_,rfl⟩:=yK.1 he; exact ⟨s,rfl⟩,by simpa using h⟩,cond_true,zZ]
 rfl
theorem EM:modes 97=⟨[],.asis,some JO,false⟩:=by unfold modes; rfl
theorem O9 {x:Fm} (h:x.form=true) (ho:x.op=3):E 96 [x.atom.sv] []=some (.ref 0,[.row 9 1 ((CF [] x.atom.vs).map fun s=>[OT.str s])]):=by
 have ha:=(Fm.Dw h ho).2.1
 have hn:=Tm.LN ha
 have h1:=Ot x.atom (QI x.atom ha) (by omega)
 have e:x.atom.vars=CF [] x.atom.vs:=NC _
 rw [e] at h1
 exact h1
theorem PU (b acc:List ByteArray) (n:ByteArray) (ns:List ByteArray):Cp acc ((n :: ns).filter fun m=>!dec (m∈b))=Cp (bif dec (n∈b) then acc else GO acc n) (ns.filter fun m=>!dec (m∈b)):=by
 rw [List.filter_cons]
 cases dec (n∈b) with
 | true=>rfl
 | false=>rfl
def E2:SC:=(.seq (.reg [⟨some 4,none,.boxv 29 5 (.t 1)⟩,⟨some 6,none,.mv (.c .nil)⟩]) (.seq (.seq (.reg [⟨some 11,none,.faddr 0 (.t 4)⟩,⟨some 12,none,.load false 1 (.t 11)⟩,⟨some 13,none,.bin .eql false (.t 12) (.c (.int .i64 3))⟩]) (.cond (.t 13) (.seq (.seq (.reg [⟨some 14,none,.faddr 1 (.t 4)⟩,⟨some 15,none,.load true 2 (.t 14)⟩,⟨some 16,none,.call 96 [(.t 15)]⟩,⟨some 17,none,.len false (.t 16)⟩,⟨some 18,none,.mv (.c (.int .i64 0))⟩]) (.block 0 (.loop [1,0,1,0,0,0,0,0,0,0,0,0,0,0,0,0,1,1,1,0,0,0,0,0,0,0,0,0,0,0,0,0,0,0,0,0,0,0,0,0,0,0,0,0,0,0,0,0,0,0,0,0,0,0,0,0,0,0,0,0] (.seq (.reg [⟨some 19,none,.bin .lss false (.t 18) (.t 17)⟩]) (.seq (.cond (.t 19) .skip (.exit 0)) (.seq (.block 1 (.seq (.reg [⟨some 20,none,.iaddr 1 (.t 16) (.t 18)⟩,⟨some 21,none,.load false 1 (.t 20)⟩,⟨some 8,none,.mv (.t 21)⟩]) (.seq (.reg [⟨some 22,none,.mv (.t 2)⟩,⟨some 23,none,.mv (.t 8)⟩,⟨some 24,none,.call 42 [(.t 22),(.t 23)]⟩,⟨some 25,none,.un .not (.t 24)⟩,⟨some 26,none,.mv (.t 25)⟩,⟨(some 27),(some (26,true)),(.mv (.t 0))⟩,⟨(some 28),(some (26,true)),(.mv (.t 8))⟩,⟨(some 29),(some (26,true)),(.call 42 [(.t 27),(.t 28)])⟩,⟨(some 30),(some (26,true)),(.un .not (.t 29))⟩,⟨some 31,none,.pick (.t 26) (.t 30) (.c (.bool false))⟩]) (.cond (.t 31) (.reg [⟨some 32,none,.mv (.t 0)⟩,⟨some 33,none,.mv (.t 8)⟩,⟨(some 34),none,(.mkrow 9 1 [(.str ⟨#[]⟩)] 1 [(0,(.t 33))])⟩,⟨(some 35),none,(.append 9 1 16 [(.str ⟨#[]⟩)] (.t 32) (.t 34))⟩,⟨some 0,none,.mv (.t 35)⟩]) .skip)))) (.reg [⟨some 36,none,.bin .add false (.t 18) (.c (.int .i64 1))⟩,⟨some 18,none,.mv (.t 36)⟩]))))))) (.seq (.reg [⟨some 37,none,.mv (.t 0)⟩,⟨some 6,none,.mv (.t 37)⟩]) .ret)) .skip)) (.seq (.seq (.reg [⟨some 38,none,.faddr 0 (.t 4)⟩,⟨some 39,none,.load false 1 (.t 38)⟩,⟨some 40,none,.call 41 [(.t 39)]⟩]) (.cond (.t 40) (.dreg [[],[0],[],[2],[3,2],[1,0,4,3,2],[5,1,0,4,3,2]] [⟨some 41,none,.mv (.t 2)⟩,⟨some 42,none,.call 97 [(.t 41)]⟩,⟨some 43,none,.faddr 3 (.t 4)⟩,⟨some 44,none,.load false 1 (.t 43)⟩,⟨(some 45),none,(.mkrow 9 1 [(.str ⟨#[]⟩)] 1 [(0,(.t 44))])⟩,⟨(some 46),none,(.append 9 1 16 [(.str ⟨#[]⟩)] (.t 42) (.t 45))⟩,⟨some 2,none,.mv (.t 46)⟩]) .skip)) (.seq (.seq (.reg [⟨some 47,none,.faddr 4 (.t 4)⟩,⟨some 48,none,.load false 1 (.t 47)⟩,⟨some 49,none,.len false (.t 48)⟩,⟨some 50,none,.mv (.c (.int .i64 0))⟩]) (.block 2 (.loop [1,0,1,0,0,0,0,0,0,0,0,0,0,0,0,0,0,0,0,0,0,0,0,0,0,0,0,0,0,0,0,0,0,0,0,0,0,0,0,0,0,0,0,0,0,0,0,0,1,1,1,0,0,0,0,0,0,0,0,0] (.seq (.reg [⟨some 51,none,.bin .lss false (.t 50) (.t 49)⟩]) (.seq (.cond (.t 51) .skip (.exit 2)) (.seq (.block 3 (.seq (.reg [⟨some 52,none,.iaddr 5 (.t 48) (.t 50)⟩,⟨some 53,none,.load true 5 (.t 52)⟩,⟨(some 10),none,(.alloc 29 [(.int .i64 0),(.str ⟨#[]⟩),.nil,(.str ⟨#[]⟩),.nil])⟩,⟨none,none,(.store 5 (.t 10) (.t 53))⟩]) (.reg [⟨some 54,none,.mv (.t 0)⟩,⟨some 55,none,.load true 5 (.t 10)⟩,⟨some 56,none,.mv (.t 2)⟩,⟨some 57,none,.call 77 [(.t 54),(.t 55),(.t 56)]⟩,⟨some 0,none,.mv (.t 57)⟩]))) (.reg [⟨some 58,none,.bin .add false (.t 50) (.c (.int .i64 1))⟩,⟨some 50,none,.mv (.t 58)⟩]))))))) (.seq (.reg [⟨some 59,none,.mv (.t 0)⟩,⟨some 6,none,.mv (.t 59)⟩]) .ret)))))
theorem Gd:Ar Tryz.prog 77=some ⟨60,E2,[(.tmp 6)]⟩:=by kernel_rfl
theorem CC:modes 77=⟨[true],.asis,none,false⟩:=by unfold modes; rfl
def HG:SC:=(.seq (.reg [⟨some 1,none,.boxv 29 5 (.t 0)⟩,⟨some 2,none,.mv (.c .nil)⟩]) (.seq (.reg [⟨(some 4),none,(.mkrow 9 1 [(.str ⟨#[]⟩)] 0 [])⟩,⟨some 5,none,.load true 5 (.t 1)⟩,⟨some 6,none,.call 77 [(.t 4),(.t 5),(.c .nil)]⟩,⟨some 3,none,.mv (.t 6)⟩]) (.seq (.reg [⟨some 7,none,.mv (.t 3)⟩,⟨some 8,none,.call 78 [(.t 7)]⟩]) (.seq (.reg [⟨some 9,none,.mv (.t 3)⟩,⟨some 2,none,.mv (.t 9)⟩]) .ret))))
theorem K3:Ar Tryz.prog 43=some ⟨10,HG,[(.tmp 2)]⟩:=by kernel_rfl
theorem Bm:modes 43=⟨[],.asis,none,false⟩:=by unfold modes; rfl
abbrev Xq (x:Fm):Prop:=∀ l b:List ByteArray,l.length+x.vn≤1048576→b.length+x.nodes≤1048576→E 77 [.ref 0,x.sv,.arr (b.map fun s=>[D.str s])] [.row 9 1 (l.map fun s=>[OT.str s])]=some ((bif dec (l.length<(Cp l (x.fv b)).length) then .ref 1 else .ref 0),(bif dec (l.length<(Cp l (x.fv b)).length) then [.gone,.row 9 1 ((Cp l (x.fv b)).map fun s=>[OT.str s])] else [.row 9 1 ((Cp l (x.fv b)).map fun s=>[OT.str s])]))
theorem SR (x:Fm) (hx:x.forms=true) (ih:∀ y∈x.parts,Xq y):Xq x:=by
 intro l b hn hb
 have hfo:=Fm.Cr hx
 have hvn:=Fm.R9 x
 have hnd:=Fm.nodes_eq x
 have hpl:=Fm.length_le x.parts
 have hfv:=Fm.K1 x b
 have hat:=Fm.FK hfo
 have hgl:dec (l.length<l.length)=false:=An (by omega)
 have hxs:x.sv=.agg [.int .i64 x.op,.str x.atom.name,.arr (x.atom.args.map Tm.d),.str x.var,.arr (x.parts.map Fm.d)]:=rfl
 have has:x.atom.sv=.agg [.str x.atom.name,.arr (x.atom.args.map Tm.d)]:=rfl
 cases ho:dec (x.op=3) with
 | true =>
  rw [ho] at hfv
  simp only [cond_true] at hfv
  have hv:=O9 hfo (Av.1 ho)
  have hil:=D7 x.atom.vs []
  have hvl:=Tm.H7 x.atom
  simp only [zS] at hil
  obtain ⟨ns,hns⟩:∃ ns,ns=CF [] x.atom.vs:=⟨_,rfl⟩
  rw [←hns] at hv hfv hil
  rw [hfv]
  refine Ai Gd CC (of_decide_eq_true rfl) ?_
  simp (disch:=omega) only [E2,go_sem,Ab,ho,hv,En]
  refine go_loop (α:=Int × (List ByteArray)) (fun a=>⟨slots 60 0 [(0,(bif dec (l.length<(a.2).length) then .ref 1 else .ref 0)),(2,.arr (b.map fun s=>[D.str s])),(16,(bif dec (l.length<(a.2).length) then .ref 2 else .ref 1)),(17,.int .i64 ns.length),(18,.int .i64 (a.1))],(bif dec (l.length<(a.2).length) then [.gone,.row 9 1 ((a.2).map fun s=>[OT.str s]),.row 9 1 (ns.map fun s=>[OT.str s])] else [.row 9 1 ((a.2).map fun s=>[OT.str s]),.row 9 1 (ns.map fun s=>[OT.str s])])⟩) (fun a=>∃ k:Nat,a.1=k∧k≤(ns).length∧Cp (a.2) ((ns.drop k).filter fun m=>!dec (m∈b))=Cp l (ns.filter fun m=>!dec (m∈b))∧(a.2).length+(ns.length-k)≤1048576∧l.length≤(a.2).length) (fun a=>(ns).length-(a.1).toNat) (0,l) ⟨0,rfl,zK _,by rw [zJ],by dsimp only; omega,yD _⟩ (by simp (disch:=omega) only [go_sem,Ab,hgl]) ?_
  rintro ⟨i,acc⟩ ⟨k,hi,hk,hR⟩
  dsimp only at hi hR
  have hni:i.toNat=k:=by omega
  have hni1:(i+1).toNat=k+1:=by omega
  rcases zC k (ns).length with hlt | hge
  ·have hg:(ns.map fun s=>[OT.str s])[k]?=some [OT.str ns[k]]:=by rw [List.getElem?_map,zX hlt]; rfl
   obtain ⟨hR1,hR2,hR3⟩:=hR
   rw [zB hlt,PU] at hR1
   have c1:=FL b ns[k] (by omega)
   have c2:=FL acc ns[k] (by omega)
   rcases zC l.length acc.length with q1 | q1
   all_goals
    cases hq:dec (ns[k]∈b) with
    | true =>
     rw [hq] at c1 hR1
     simp only [cond_true] at hR1
     simp (disch:=omega) only [go_sem,Ab,hni,hg,c1,c2,Am]
     refine ⟨(i+1,acc),⟨k+1,by dsimp only; omega,hlt,hR1,by dsimp only; omega,by dsimp only; omega⟩,by dsimp only; omega,?_⟩
     first | done | simp (disch:=omega) only [go_sem,Ab]
    | false =>
     rw [hq] at c1 hR1
     simp only [cond_false] at hR1
     cases hm:dec (ns[k]∈acc) with
     | true =>
      have e2:GO acc ns[k]=acc:=by unfold GO; rw [hm]; rfl
      rw [hm] at c2
      rw [e2] at hR1
      simp (disch:=omega) only [go_sem,Ab,hni,hg,c1,c2,Am]
      refine ⟨(i+1,acc),⟨k+1,by dsimp only; omega,hlt,hR1,by dsimp only; omega,by dsimp only; omega⟩,by dsimp only; omega,?_⟩
      first | done | simp (disch:=omega) only [go_sem,Ab]
     | false =>
      have e2:GO acc ns[k]=acc++[ns[k]]:=by unfold GO; rw [hm]; rfl
      have hl1:(acc.map fun s=>[OT.str s])++[[OT.str ns[k]]]=(acc++[ns[k]]).map fun s=>[OT.str s]:=by simp
      have q2:dec (l.length<(acc++[ns[k]]).length)=true:=A5 (by simp; omega)
      rw [hm] at c2
      rw [e2] at hR1
      simp (disch:=omega) only [go_sem,Ab,hni,hg,c1,c2,hl1,Am]
      refine ⟨(i+1,acc++[ns[k]]),⟨k+1,by dsimp only; omega,hlt,hR1,by simp; omega,by simp; omega⟩,by dsimp only; omega,?_⟩
      first | done | simp (disch:=omega) only [go_sem,Ab,q2,hl1]
  ·rw [zF hge] at hR
   obtain ⟨hR1,hR2,hR3⟩:=hR
   have hR1:acc=_:=hR1
   rw [←hR1]
   rcases zC l.length acc.length with q1 | q1
   ·simp (disch:=omega) only [go_sem,Ab,hni]
   ·simp (disch:=omega) only [go_sem,Ab,hni]
 | false =>
  rw [ho] at hfv
  simp only [cond_false] at hfv
  have hu:=Cj x.op
  cases hq:qB x.op with
  | false =>
   rw [hq] at hfv
   simp only [cond_false] at hfv
   rw [hfv]
   unfold qB at hq
   rw [hq] at hu
   obtain ⟨b',hb'⟩:∃ b',b'=b:=⟨_,rfl⟩
   have hbl:b'.length≤b.length+1:=by rw [hb']; omega
   rw [←hb']
   refine Ai Gd CC (of_decide_eq_true rfl) ?_
   simp (disch:=omega) only [E2,go_sem,Ab,ho,hu,Ac]
   refine go_loop (α:=Int × (List ByteArray)) (fun a=>⟨slots 60 0 [(0,(bif dec (l.length<(a.2).length) then .ref 1 else .ref 0)),(2,.arr (b'.map fun s=>[D.str s])),(48,.arr (x.parts.map Fm.d)),(49,.int .i64 x.parts.length),(50,.int .i64 (a.1))],(bif dec (l.length<(a.2).length) then [.gone,.row 9 1 ((a.2).map fun s=>[OT.str s])] else [.row 9 1 ((a.2).map fun s=>[OT.str s])])⟩) (fun a=>∃ k:Nat,a.1=k∧k≤(x.parts).length∧Cp (a.2) (Fm.fvL (x.parts.drop k) b')=Cp l (Fm.fvL x.parts b')∧(a.2).length+Fm.vnS (x.parts.drop k)≤1048576∧l.length≤(a.2).length) (fun a=>(x.parts).length-(a.1).toNat) (0,l) ⟨0,rfl,zK _,by rw [zJ],by rw [zJ]; dsimp only; omega,yD _⟩ (by simp (disch:=omega) only [go_sem,Ab,hgl]) ?_
   rintro ⟨i,acc⟩ ⟨k,hi,hk,hR⟩
   dsimp only at hi hR
   have hni:i.toNat=k:=by omega
   have hni1:(i+1).toNat=k+1:=by omega
   rcases zC k (x.parts).length with hlt | hge
   ·have hg:=get_at Fm.d hlt
    rw [Fm.d_eq] at hg
    obtain ⟨hR1,hR2,hR3⟩:=hR
    rw [zB hlt,Fm.fvL,LR] at hR1
    rw [zB hlt,Fm.vnS] at hR2
    have hnm:=Fm.nodes_le x.parts k hlt
    have hc:=ih x.parts[k] (zG hlt) acc b' (by omega) (by omega)
    have hlen:=Gw (x.parts[k].fv b') acc
    have hgr:=HZ (x.parts[k].fv b') acc
    have hvl:=Fm.H9 x.parts[k] b'
    obtain ⟨acc2,ha2⟩:∃ a,a=Cp acc (x.parts[k].fv b'):=⟨_,rfl⟩
    rw [←ha2] at hc hlen hgr hR1
    rcases zC l.length acc.length with q1 | q1 <;> rcases zC acc.length acc2.length with q2 | q2
    all_goals
     first
      |rw [A5 q2] at hc
      |rw [An (Nat.not_lt.2 q2)] at hc
     simp only [cond_true,cond_false] at hc
     simp (disch:=omega) only [go_sem,Ab,hni,hg,hc,CC]
     refine ⟨(i+1,acc2),⟨k+1,by dsimp only; omega,hlt,hR1,by dsimp only; omega,by dsimp only; omega⟩,by dsimp only; omega,?_⟩
     first | done | simp (disch:=omega) only [go_sem,Ab]
   ·rw [zF hge,Fm.fvL] at hR
    obtain ⟨hR1,hR2,hR3⟩:=hR
    have hR1:acc=_:=hR1
    rw [←hR1]
    rcases zC l.length acc.length with q1 | q1
    ·simp (disch:=omega) only [go_sem,Ab,hni]
    ·simp (disch:=omega) only [go_sem,Ab,hni]
  | true =>
   rw [hq] at hfv
   simp only [cond_true] at hfv
   rw [hfv]
   unfold qB at hq
   rw [hq] at hu
   have hcl:=UK b (by omega)
   have hl1:(b.map fun s=>[OT.str s])++[[OT.str x.var]]=(b++[x.var]).map fun s=>[OT.str s]:=by simp
   obtain ⟨b',hb'⟩:∃ b',b'=b++[x.var]:=⟨_,rfl⟩
   have hbl:b'.length≤b.length+1:=by rw [hb']; simp
   rw [←hb'] at hl1
   rw [←hb']
   refine Ai Gd CC (of_decide_eq_true rfl) ?_
   simp (disch:=omega) only [E2,go_sem,Ab,ho,hu,hcl,hl1,Ac,EM]
   refine go_loop (α:=Int × (List ByteArray)) (fun a=>⟨slots 60 0 [(0,(bif dec (l.length<(a.2).length) then .ref 1 else .ref 0)),(2,(bif dec (l.length<(a.2).length) then .ref 2 else .ref 1)),(48,.arr (x.parts.map Fm.d)),(49,.int .i64 x.parts.length),(50,.int .i64 (a.1))],(bif dec (l.length<(a.2).length) then [.gone,.row 9 1 ((a.2).map fun s=>[OT.str s]),.row 9 1 (b'.map fun s=>[OT.str s])] else [.row 9 1 ((a.2).map fun s=>[OT.str s]),.row 9 1 (b'.map fun s=>[OT.str s])])⟩) (fun a=>∃ k:Nat,a.1=k∧k≤(x.parts).length∧Cp (a.2) (Fm.fvL (x.parts.drop k) b')=Cp l (Fm.fvL x.parts b')∧(a.2).length+Fm.vnS (x.parts.drop k)≤1048576∧l.length≤(a.2).length) (fun a=>(x.parts).length-(a.1).toNat) (0,l) ⟨0,rfl,zK _,by rw [zJ],by rw [zJ]; dsimp only; omega,yD _⟩ (by simp (disch:=omega) only [go_sem,Ab,hgl]) ?_
   rintro ⟨i,acc⟩ ⟨k,hi,hk,hR⟩
   dsimp only at hi hR
   have hni:i.toNat=k:=by omega
   have hni1:(i+1).toNat=k+1:=by omega
   rcases zC k (x.parts).length with hlt | hge
   ·have hg:=get_at Fm.d hlt
    rw [Fm.d_eq] at hg
    obtain ⟨hR1,hR2,hR3⟩:=hR
    rw [zB hlt,Fm.fvL,LR] at hR1
    rw [zB hlt,Fm.vnS] at hR2
    have hnm:=Fm.nodes_le x.parts k hlt
    have hc:=ih x.parts[k] (zG hlt) acc b' (by omega) (by omega)
    have hlen:=Gw (x.parts[k].fv b') acc
    have hgr:=HZ (x.parts[k].fv b') acc
    have hvl:=Fm.H9 x.parts[k] b'
    obtain ⟨acc2,ha2⟩:∃ a,a=Cp acc (x.parts[k].fv b'):=⟨_,rfl⟩
    rw [←ha2] at hc hlen hgr hR1
    rcases zC l.length acc.length with q1 | q1 <;> rcases zC acc.length acc2.length with q2 | q2
    all_goals
     first
      |rw [A5 q2] at hc
      |rw [An (Nat.not_lt.2 q2)] at hc
     simp only [cond_true,cond_false] at hc
     simp (disch:=omega) only [go_sem,Ab,hni,hg,hc,CC]
     refine ⟨(i+1,acc2),⟨k+1,by dsimp only; omega,hlt,hR1,by dsimp only; omega,by dsimp only; omega⟩,by dsimp only; omega,?_⟩
     first | done | simp (disch:=omega) only [go_sem,Ab]
   ·rw [zF hge,Fm.fvL] at hR
    obtain ⟨hR1,hR2,hR3⟩:=hR
    have hR1:acc=_:=hR1
    rw [←hR1]
    rcases zC l.length acc.length with q1 | q1
    ·simp (disch:=omega) only [go_sem,Ab,hni]
    ·simp (disch:=omega) only [go_sem,Ab,hni]
theorem PV (x:Fm) (hx:x.forms=true):Xq x :=
 SR x hx fun y hy=>PV y (Fm.Co hx hy)
termination_by SizeOf.sizeOf x
decreasing_by exact Fm.lt_of_mem hy
theorem Xr (x:Fm) (hx:x.forms=true) (hv:x.vn≤1048576) (hn:x.nodes≤1048576):E 43 [x.sv] []=some (.ref 0,[.row 9 1 (x.free.map fun s=>[OT.str s])]):=by
 have h1:=PV x hx [] [] (by simpa using hv) (by simpa using hn)
 have hl:=Gw (x.fv []) []
 have hfl:=Fm.H9 x []
 rw [zS,Nat.zero_add] at hl
 have h2:=R5 (Cp [] (x.fv [])) (by omega)
 rw [NC] at h2
 rw [zH,zH,zS] at h1
 unfold Fm.free
 have hxs:x.sv=.agg [.int .i64 x.op,.str x.atom.name,.arr (x.atom.args.map Tm.d),.str x.var,.arr (x.parts.map Fm.d)]:=rfl
 rcases zC 0 (Cp [] (x.fv [])).length with q | q
 ·rw [A5 q] at h1
  simp only [cond_true] at h1
  refine Ai K3 Bm (of_decide_eq_true rfl) ?_
  simp (disch:=omega) only [HG,go_sem,Ab,h1,h2,CC,B3]
 ·rw [An (by omega)] at h1
  simp only [cond_false] at h1
  refine Ai K3 Bm (of_decide_eq_true rfl) ?_
  simp (disch:=omega) only [HG,go_sem,Ab,h1,h2,CC,B3]
def K4:SC:=(.seq (.reg [⟨some 4,none,.mv (.c (.bool false))⟩]) (.seq (.seq (.reg [⟨some 5,none,.mv (.c (.int .i64 0))⟩]) (.block 0 (.loop [1,1,0,0,0,1,0,0,0,0,0,0,0,0,0,0,0,0] (.seq (.seq (.reg [⟨some 6,none,.mv (.t 5)⟩,⟨some 7,none,.mv (.t 0)⟩,⟨some 8,none,.len false (.t 7)⟩,⟨some 9,none,.bin .lss false (.t 6) (.t 8)⟩]) (.cond (.t 9) .skip (.exit 0))) (.seq (.block 1 (.seq (.reg [⟨some 12,none,.mv (.t 0)⟩,⟨some 13,none,.mv (.t 5)⟩,⟨some 14,none,.iaddr 1 (.t 12) (.t 13)⟩,⟨some 15,none,.load false 1 (.t 14)⟩,⟨some 16,none,.mv (.t 1)⟩,⟨some 17,none,.bin .eql false (.t 15) (.t 16)⟩]) (.cond (.t 17) (.seq (.reg [⟨some 4,none,.mv (.c (.bool true))⟩]) .ret) .skip))) (.reg [⟨some 10,none,.mv (.t 5)⟩,⟨some 11,none,.bin .add false (.t 10) (.c (.int .i64 1))⟩,⟨some 5,none,.mv (.t 11)⟩])))))) (.seq (.reg [⟨some 4,none,.mv (.c (.bool false))⟩]) .ret)))
theorem PW:Ar Tryz.prog 58=some ⟨18,K4,[(.tmp 4)]⟩:=by kernel_rfl
theorem Ay:modes 58=⟨[],.asis,none,false⟩:=by unfold modes; rfl
theorem QU (xs:List ByteArray) (n:ByteArray) (hl:xs.length≤1099511627776):E 58 [.arr (xs.map fun s=>[D.str s]),.str n] []=some (.bool (dec (n∈xs)),[]):=by
 refine Ai PW Ay (of_decide_eq_true rfl) ?_
 simp (disch:=omega) only [K4,go_sem,Ab]
 refine go_loop (α:=Int) (fun a=>⟨slots 18 0 [(0,.arr (xs.map fun s=>[D.str s])),(1,.str n),(5,.int .i64 a)],[]⟩) (fun a=>∃ k:Nat,a=k∧k≤(xs).length∧dec (n∈xs.drop k)=dec (n∈xs)) (fun a=>(xs).length-(a).toNat) 0 ⟨0,rfl,zK _,by rw [zJ]⟩ (by simp (disch:=omega) only [go_sem,Ab]) ?_
 rintro i ⟨k,hi,hk,hR⟩
 have hni:i.toNat=k:=by omega
 have hni1:(i+1).toNat=k+1:=by omega
 rcases zC k (xs).length with hlt | hge
 ·have hg:=get_at (fun s=>[D.str s]) hlt
  rw [zB hlt] at hR
  by_cases hp:xs[k]=n
  ·have hq:=eq_true hp
   have ht:dec (n∈xs)=true:=A5 (hp▸zG hlt)
   simp (disch:=omega) only [go_sem,Ab,hni,hg,hq]
   exact ht.symm
  ·have hq:=eq_false hp
   have hR:dec (n∈xs.drop (k+1))=dec (n∈xs):=by
    rw [←hR]
    exact LG (by simp only [List.mem_cons]; exact ⟨.inr,fun h=>h.elim (fun e=>absurd e.symm hp) id⟩)
   simp (disch:=omega) only [go_sem,Ab,hni,hg,hq]
   exact ⟨i+1,⟨k+1,by omega,hlt,hR⟩,by omega,by first | trivial | rfl⟩
 ·rw [zF hge,An (by simp)] at hR
  simp (disch:=omega) only [go_sem,Ab,hni]
  exact hR
def E3:SC:=(.seq (.reg [⟨some 4,none,.boxv 29 5 (.t 1)⟩,⟨some 6,none,.mv (.c .nil)⟩]) (.seq (.seq (.reg [⟨some 10,none,.faddr 0 (.t 4)⟩,⟨some 11,none,.load false 1 (.t 10)⟩,⟨some 12,none,.bin .eql false (.t 11) (.c (.int .i64 3))⟩]) (.cond (.t 12) (.seq (.reg [⟨some 13,none,.faddr 1 (.t 4)⟩,⟨some 14,none,.load true 2 (.t 13)⟩,⟨some 15,none,.call 61 [(.t 14)]⟩,⟨some 7,none,.mv (.t 15)⟩]) (.seq (.reg [⟨some 8,none,.mv (.c (.int .i64 0))⟩]) (.block 0 (.loop [1,0,1,0,1,0,0,1,1,0,0,0,0,0,0,0,0,0,0,0,0,0,0,0,0,0,0,0,0,0,0,0,0,0,0,0,0,0,0,0,0,0,0,0,0,0,0,0,0,0,0,0,0,0,0,0,0,0,0,0,0,0,0,0,0,0] (.seq (.seq (.reg [⟨some 16,none,.mv (.t 8)⟩,⟨some 17,none,.mv (.t 7)⟩,⟨some 18,none,.len false (.t 17)⟩,⟨some 19,none,.bin .lss false (.t 16) (.t 18)⟩]) (.cond (.t 19) .skip (.exit 0))) (.seq (.block 1 (.seq (.reg [⟨some 22,none,.mv (.t 2)⟩,⟨some 23,none,.mv (.t 7)⟩,⟨some 24,none,.mv (.t 8)⟩,⟨some 25,none,.iaddr 1 (.t 23) (.t 24)⟩,⟨some 26,none,.load false 1 (.t 25)⟩,⟨some 27,none,.call 58 [(.t 22),(.t 26)]⟩,⟨some 28,none,.un .not (.t 27)⟩]) (.cond (.t 28) (.reg [⟨some 29,none,.mv (.t 0)⟩,⟨some 30,none,.mv (.t 7)⟩,⟨some 31,none,.mv (.t 8)⟩,⟨some 32,none,.iaddr 1 (.t 30) (.t 31)⟩,⟨some 33,none,.load false 1 (.t 32)⟩,⟨some 34,none,.call 106 [(.t 29),(.t 33)]⟩,⟨some 0,none,.mv (.t 34)⟩]) .skip))) (.reg [⟨some 20,none,.mv (.t 8)⟩,⟨some 21,none,.bin .add false (.t 20) (.c (.int .i64 1))⟩,⟨some 8,none,.mv (.t 21)⟩]))))))) .skip)) (.seq (.seq (.reg [⟨some 35,none,.faddr 0 (.t 4)⟩,⟨some 36,none,.load false 1 (.t 35)⟩,⟨some 37,none,.bin .eql false (.t 36) (.c (.int .i64 8))⟩,⟨some 38,none,.mv (.t 37)⟩,⟨(some 39),(some (38,false)),(.faddr 0 (.t 4))⟩,⟨(some 40),(some (38,false)),(.load false 1 (.t 39))⟩,⟨(some 41),(some (38,false)),(.bin .eql false (.t 40) (.c (.int .i64 9)))⟩,⟨some 42,none,.pick (.t 38) (.c (.bool true)) (.t 41)⟩]) (.cond (.t 42) (.dreg [[],[],[0,1],[],[3],[4,3],[2,0,1,5,4,3],[6,2,0,1,5,4,3]] [⟨(some 43),none,(.mkrow 9 1 [(.str ⟨#[]⟩)] 0 [])⟩,⟨some 44,none,.mv (.t 2)⟩,⟨(some 45),none,(.append 9 1 16 [(.str ⟨#[]⟩)] (.t 43) (.t 44))⟩,⟨some 46,none,.faddr 3 (.t 4)⟩,⟨some 47,none,.load false 1 (.t 46)⟩,⟨(some 48),none,(.mkrow 9 1 [(.str ⟨#[]⟩)] 1 [(0,(.t 47))])⟩,⟨(some 49),none,(.append 9 1 16 [(.str ⟨#[]⟩)] (.t 45) (.t 48))⟩,⟨some 2,none,.mv (.t 49)⟩]) .skip)) (.seq (.seq (.reg [⟨some 9,none,.mv (.c (.int .i64 0))⟩]) (.block 2 (.loop [1,0,1,0,1,0,0,0,0,1,0,0,0,0,0,0,0,0,0,0,0,0,0,0,0,0,0,0,0,0,0,0,0,0,0,0,0,0,0,0,0,0,0,0,0,0,0,0,0,0,0,0,0,0,0,0,0,0,0,0,0,0,0,0,0,0] (.seq (.seq (.reg [⟨some 50,none,.mv (.t 9)⟩,⟨some 51,none,.faddr 4 (.t 4)⟩,⟨some 52,none,.load false 1 (.t 51)⟩,⟨some 53,none,.len false (.t 52)⟩,⟨some 54,none,.bin .lss false (.t 50) (.t 53)⟩]) (.cond (.t 54) .skip (.exit 2))) (.seq (.block 3 (.reg [⟨some 57,none,.mv (.t 0)⟩,⟨some 58,none,.faddr 4 (.t 4)⟩,⟨some 59,none,.load false 1 (.t 58)⟩,⟨some 60,none,.mv (.t 9)⟩,⟨some 61,none,.iaddr 5 (.t 59) (.t 60)⟩,⟨some 62,none,.load true 5 (.t 61)⟩,⟨some 63,none,.mv (.t 2)⟩,⟨some 64,none,.call 88 [(.t 57),(.t 62),(.t 63)]⟩,⟨some 0,none,.mv (.t 64)⟩])) (.reg [⟨some 55,none,.mv (.t 9)⟩,⟨some 56,none,.bin .add false (.t 55) (.c (.int .i64 1))⟩,⟨some 9,none,.mv (.t 56)⟩])))))) (.seq (.reg [⟨some 65,none,.mv (.t 0)⟩,⟨some 6,none,.mv (.t 65)⟩]) .ret)))))
theorem Ge:Ar Tryz.prog 88=some ⟨66,E3,[(.tmp 6)]⟩:=by kernel_rfl
theorem Dd:modes 88=⟨[],.asis,none,false⟩:=by unfold modes; rfl
def I5:SC:=(.seq (.reg [⟨some 1,none,.boxv 29 5 (.t 0)⟩,⟨some 2,none,.mv (.c .nil)⟩]) (.seq (.reg [⟨(some 3),none,(.mkrow 9 1 [(.str ⟨#[]⟩)] 0 [])⟩,⟨some 4,none,.load true 5 (.t 1)⟩,⟨(some 5),none,(.mkrow 9 1 [(.str ⟨#[]⟩)] 0 [])⟩,⟨some 6,none,.call 88 [(.t 3),(.t 4),(.t 5)]⟩,⟨some 2,none,.mv (.t 6)⟩]) .ret))
theorem MG:Ar Tryz.prog 59=some ⟨7,I5,[(.tmp 2)]⟩:=by kernel_rfl
theorem As:modes 59=⟨[],.asis,none,false⟩:=by unfold modes; rfl
theorem PX (b acc:List ByteArray) (n:ByteArray) (ns:List ByteArray):CF acc ((n :: ns).filter fun m=>!dec (m∈b))=CF (bif dec (n∈b) then acc else DY acc n) (ns.filter fun m=>!dec (m∈b)):=by
 rw [List.filter_cons]
 cases dec (n∈b) with
 | true=>rfl
 | false=>rfl
abbrev Xs (x:Fm):Prop:=∀ l b:List ByteArray,l.length+x.vn≤1048576→b.length+x.nodes≤1048576→E 88 [.arr (l.map fun s=>[D.str s]),x.sv,.arr (b.map fun s=>[D.str s])] []=some (.arr ((CF l (x.fv b)).map fun s=>[D.str s]),[])
theorem SS (x:Fm) (hx:x.forms=true) (ih:∀ y∈x.parts,Xs y):Xs x:=by
 intro l b hn hb
 have hfo:=Fm.Cr hx
 have hvn:=Fm.R9 x
 have hnd:=Fm.nodes_eq x
 have hpl:=Fm.length_le x.parts
 have hfv:=Fm.K1 x b
 have hat:=Fm.FK hfo
 have hxs:x.sv=.agg [.int .i64 x.op,.str x.atom.name,.arr (x.atom.args.map Tm.d),.str x.var,.arr (x.parts.map Fm.d)]:=rfl
 cases ho:dec (x.op=3) with
 | true =>
  rw [ho] at hfv
  simp only [cond_true] at hfv
  have ho3:=Av.1 ho
  have hp0:=(Fm.Dw hfo ho3).1
  have o8:dec (x.op=8)=false:=An (by omega)
  have o9:dec (x.op=9)=false:=An (by omega)
  have hv:=P9 x.atom (by omega)
  have hil:=D7 x.atom.vs []
  have hvl:=Tm.H7 x.atom
  simp only [zS] at hil
  obtain ⟨ns,hns⟩:∃ ns,ns=CF [] x.atom.vs:=⟨_,rfl⟩
  rw [←hns] at hv hfv hil
  rw [hfv]
  refine Ai Ge Dd (of_decide_eq_true rfl) ?_
  simp (disch:=omega) only [E3,go_sem,Ab,ho,hv,AN]
  refine go_loop (α:=Int × (List ByteArray)) (fun a=>⟨slots 66 0 [(0,.arr ((a.2).map fun s=>[D.str s])),(2,.arr (b.map fun s=>[D.str s])),(4,.ptr 0 0),(7,.arr (ns.map fun s=>[D.str s])),(8,.int .i64 (a.1))],[.box 29 [.int .i64 x.op,.str x.atom.name,.arr (x.atom.args.map Tm.d),.str x.var,.arr (x.parts.map Fm.d)]]⟩) (fun a=>∃ k:Nat,a.1=k∧k≤(ns).length∧CF (a.2) ((ns.drop k).filter fun m=>!dec (m∈b))=CF l (ns.filter fun m=>!dec (m∈b))∧(a.2).length+(ns.length-k)≤1048576) (fun a=>(ns).length-(a.1).toNat) (0,l) ⟨0,rfl,zK _,by rw [zJ],by dsimp only; omega⟩ (by simp (disch:=omega) only [go_sem,Ab]) ?_
  rintro ⟨i,acc⟩ ⟨k,hi,hk,hR⟩
  dsimp only at hi hR
  have hni:i.toNat=k:=by omega
  have hni1:(i+1).toNat=k+1:=by omega
  rcases zC k (ns).length with hlt | hge
  ·have hg:=get_at (fun s=>[D.str s]) hlt
   obtain ⟨hR1,hR2⟩:=hR
   rw [zB hlt,PX] at hR1
   have c1:=QU b ns[k] (by omega)
   have c2:=R7 acc ns[k] (by omega)
   have hul:=LU acc ns[k]
   cases hq:dec (ns[k]∈b) with
   | true =>
    rw [hq] at c1 hR1
    simp only [cond_true] at hR1
    simp (disch:=omega) only [go_sem,Ab,hni,hg,c1,c2,Ay,Fa]
    exact ⟨(i+1,acc),⟨k+1,by dsimp only; omega,hlt,hR1,by dsimp only; omega⟩,by dsimp only; omega,by first | trivial | rfl⟩
   | false =>
    rw [hq] at c1 hR1
    simp only [cond_false] at hR1
    simp (disch:=omega) only [go_sem,Ab,hni,hg,c1,c2,Ay,Fa]
    exact ⟨(i+1,DY acc ns[k]),⟨k+1,by dsimp only; omega,hlt,hR1,by dsimp only; omega⟩,by dsimp only; omega,by first | trivial | rfl⟩
  ·rw [zF hge] at hR
   obtain ⟨hR1,hR2⟩:=hR
   have hR1:acc=_:=hR1
   rw [←hR1]
   simp (disch:=omega) only [go_sem,Ab,hni,o8,o9]
   refine go_loop (α:=Int) (fun a=>⟨slots 66 0 [(0,.arr (acc.map fun s=>[D.str s])),(2,.arr (b.map fun s=>[D.str s])),(4,.ptr 0 0),(9,.int .i64 a)],[.box 29 [.int .i64 x.op,.str x.atom.name,.arr (x.atom.args.map Tm.d),.str x.var,.arr (x.parts.map Fm.d)]]⟩) (fun a=>∃ k:Nat,a=k∧k≤(x.parts).length) (fun a=>(x.parts).length-(a).toNat) 0 ⟨0,rfl,zK _⟩ (by simp (disch:=omega) only [go_sem,Ab]) ?_
   rintro i ⟨k,hi,hk⟩
   have hni:i.toNat=k:=by omega
   have hni1:(i+1).toNat=k+1:=by omega
   rcases zC k (x.parts).length with hlt | hge
   ·rw [hp0] at hlt
    simp at hlt
   ·simp (disch:=omega) only [go_sem,Ab,hni]
 | false =>
  rw [ho] at hfv
  simp only [cond_false] at hfv
  cases o8:dec (x.op=8) <;> cases o9:dec (x.op=9)
  all_goals
   have hq:qB x.op=(dec (x.op=8) || dec (x.op=9)):=rfl
   rw [o8,o9] at hq
   simp only [Bool.or_self,Bool.or_true,Bool.or_false,Bool.true_or,z7] at hq
   rw [hq] at hfv
   simp only [cond_true,cond_false] at hfv
   rw [hfv]
  ·obtain ⟨b',hb'⟩:∃ b',b'=b:=⟨_,rfl⟩
   have hbl:b'.length≤b.length+1:=by rw [hb']; omega
   rw [←hb']
   refine Ai Ge Dd (of_decide_eq_true rfl) ?_
   simp (disch:=omega) only [E3,go_sem,Ab,ho,o8,o9]
   refine go_loop (α:=Int × (List ByteArray)) (fun a=>⟨slots 66 0 [(0,.arr ((a.2).map fun s=>[D.str s])),(2,.arr (b'.map fun s=>[D.str s])),(4,.ptr 0 0),(9,.int .i64 (a.1))],[.box 29 [.int .i64 x.op,.str x.atom.name,.arr (x.atom.args.map Tm.d),.str x.var,.arr (x.parts.map Fm.d)]]⟩) (fun a=>∃ k:Nat,a.1=k∧k≤(x.parts).length∧CF (a.2) (Fm.fvL (x.parts.drop k) b')=CF l (Fm.fvL x.parts b')∧(a.2).length+Fm.vnS (x.parts.drop k)≤1048576) (fun a=>(x.parts).length-(a.1).toNat) (0,l) ⟨0,rfl,zK _,by rw [zJ],by rw [zJ]; dsimp only; omega⟩ (by simp (disch:=omega) only [go_sem,Ab]) ?_
   rintro ⟨i,acc⟩ ⟨k,hi,hk,hR⟩
   dsimp only at hi hR
   have hni:i.toNat=k:=by omega
   have hni1:(i+1).toNat=k+1:=by omega
   rcases zC k (x.parts).length with hlt | hge
   ·have hg:=get_at Fm.d hlt
    rw [Fm.d_eq] at hg
    obtain ⟨hR1,hR2⟩:=hR
    rw [zB hlt,Fm.fvL,LX] at hR1
    rw [zB hlt,Fm.vnS] at hR2
    have hnm:=Fm.nodes_le x.parts k hlt
    have hc:=ih x.parts[k] (zG hlt) acc b' (by omega) (by omega)
    have hlen:=D7 (x.parts[k].fv b') acc
    have hvl:=Fm.H9 x.parts[k] b'
    simp (disch:=omega) only [go_sem,Ab,hni,hg,hc,Dd]
    exact ⟨(i+1,CF acc (x.parts[k].fv b')),⟨k+1,by dsimp only; omega,hlt,hR1,by dsimp only; omega⟩,by dsimp only; omega,by first | trivial | rfl⟩
   ·rw [zF hge,Fm.fvL] at hR
    obtain ⟨hR1,hR2⟩:=hR
    have hR1:acc=_:=hR1
    rw [←hR1]
    simp (disch:=omega) only [go_sem,Ab,hni]
  all_goals
   have hbm:((b.map fun s=>[D.str s]).map fun x=>x.map D.ot)=b.map fun s=>[OT.str s]:=by rw [zZ]; rfl
   have hal:=P7 b
   have hal2:=Ou b
   have hl1:(b.map fun s=>[OT.str s])++[[OT.str x.var]]=(b++[x.var]).map fun s=>[OT.str s]:=by simp
   obtain ⟨b',hb'⟩:∃ b',b'=b++[x.var]:=⟨_,rfl⟩
   have hbl:b'.length≤b.length+1:=by rw [hb']; simp
   rw [←hb'] at hl1
   rw [←hb']
   have hp1:x.parts.length=1:=by
    obtain ⟨_,p,hp⟩:=Fm.Dn hfo hq
    rw [hp]; rfl
   have h10:((1:Int)=0)=False:=by simp
   refine Ai Ge Dd (of_decide_eq_true rfl) ?_
   simp (disch:=omega) only [E3,go_sem,Ab,ho,o8,o9,hbm,hal,hal2,hl1,zV]
   refine go_loop (α:=Int × (List ByteArray)) (fun a=>⟨slots 66 0 [(0,.arr ((a.2).map fun s=>[D.str s])),(2,(if (a.1)=0 then .ref 0 else .any)),(4,(if (a.1)=0 then .ptr 1 0 else .ptr 0 0)),(9,.int .i64 (a.1))],(if (a.1)=0 then [.row 9 1 (b'.map fun s=>[OT.str s]),.box 29 [.int .i64 x.op,.str x.atom.name,.arr (x.atom.args.map Tm.d),.str x.var,.arr (x.parts.map Fm.d)]] else [.box 29 [.int .i64 x.op,.str x.atom.name,.arr (x.atom.args.map Tm.d),.str x.var,.arr (x.parts.map Fm.d)]])⟩) (fun a=>∃ k:Nat,a.1=k∧k≤(x.parts).length∧CF (a.2) (Fm.fvL (x.parts.drop k) b')=CF l (Fm.fvL x.parts b')∧(a.2).length+Fm.vnS (x.parts.drop k)≤1048576) (fun a=>(x.parts).length-(a.1).toNat) (0,l) ⟨0,rfl,zK _,by rw [zJ],by rw [zJ]; dsimp only; omega⟩ (by simp (disch:=omega) only [go_sem,Ab,eq_self,if_true]) ?_
   rintro ⟨i,acc⟩ ⟨k,hi,hk,hR⟩
   dsimp only at hi hR
   have hni:i.toNat=k:=by omega
   have hni1:(i+1).toNat=k+1:=by omega
   rcases zC k (x.parts).length with hlt | hge
   ·have hg:=get_at Fm.d hlt
    rw [Fm.d_eq] at hg
    obtain rfl:k=0:=by omega
    obtain rfl:i=0:=by omega
    obtain ⟨hR1,hR2⟩:=hR
    rw [zB hlt,Fm.fvL,LX] at hR1
    rw [zB hlt,Fm.vnS] at hR2
    rw [Nat.zero_add] at hR1 hR2
    have hnm:=Fm.nodes_le x.parts 0 hlt
    have hc:=ih x.parts[0] (zG hlt) acc b' (by omega) (by omega)
    have hlen:=D7 (x.parts[0].fv b') acc
    have hvl:=Fm.H9 x.parts[0] b'
    simp (disch:=omega) only [go_sem,Ab,hni,hg,hc,Dd,eq_self,if_true]
    refine ⟨(1,CF acc (x.parts[0].fv b')),⟨1,rfl,hlt,hR1,by dsimp only; omega⟩,by dsimp only; omega,?_⟩
    simp (disch:=omega) only [go_sem,Ab,h10,if_false]
   ·rw [zF hge,Fm.fvL] at hR
    obtain ⟨hR1,hR2⟩:=hR
    have hR1:acc=_:=hR1
    rw [←hR1]
    have hi0:(i=0)=False:=by simp; omega
    simp (disch:=omega) only [go_sem,Ab,hni,hi0,if_false]
theorem PY (x:Fm) (hx:x.forms=true):Xs x :=
 SS x hx fun y hy=>PY y (Fm.Co hx hy)
termination_by SizeOf.sizeOf x
decreasing_by exact Fm.lt_of_mem hy
theorem UL (x:Fm) (hx:x.forms=true) (hv:x.vn≤1048576) (hn:x.nodes≤1048576):E 59 [x.sv] []=some (.arr (x.free.map fun s=>[D.str s]),[]):=by
 have h1:=PY x hx [] [] (by simpa using hv) (by simpa using hn)
 rw [zH] at h1
 unfold Fm.free
 have hxs:x.sv=.agg [.int .i64 x.op,.str x.atom.name,.arr (x.atom.args.map Tm.d),.str x.var,.arr (x.parts.map Fm.d)]:=rfl
 refine Ai MG As (of_decide_eq_true rfl) ?_
 simp (disch:=omega) only [I5,go_sem,Ab,h1,Dd]
def G4:SC:=(.seq (.reg [⟨some 2,none,.boxv 26 2 (.t 0)⟩,⟨some 4,none,.mv (.c (.int .i64 0))⟩]) (.seq (.reg [⟨some 5,none,.mv (.c (.int .i64 0))⟩]) (.seq (.seq (.reg [⟨some 8,none,.faddr 0 (.t 2)⟩,⟨some 9,none,.load false 1 (.t 8)⟩,⟨some 10,none,.mv (.t 1)⟩,⟨some 11,none,.bin .eql false (.t 9) (.t 10)⟩]) (.cond (.t 11) (.reg [⟨some 5,none,.mv (.c (.int .i64 1))⟩]) .skip)) (.seq (.seq (.reg [⟨some 12,none,.faddr 1 (.t 2)⟩,⟨some 13,none,.load false 1 (.t 12)⟩,⟨some 14,none,.len false (.t 13)⟩,⟨some 15,none,.mv (.c (.int .i64 0))⟩]) (.block 0 (.loop [0,1,0,0,0,1,0,0,0,0,0,0,0,1,1,1,0,0,0,0,0,0,0,0,0,0] (.seq (.reg [⟨some 16,none,.bin .lss false (.t 15) (.t 14)⟩]) (.seq (.cond (.t 16) .skip (.exit 0)) (.seq (.block 1 (.seq (.reg [⟨some 17,none,.iaddr 2 (.t 13) (.t 15)⟩,⟨some 18,none,.load true 2 (.t 17)⟩,⟨(some 7),none,(.alloc 26 [(.str ⟨#[]⟩),.nil])⟩,⟨none,none,(.store 2 (.t 7) (.t 18))⟩]) (.reg [⟨some 19,none,.mv (.t 5)⟩,⟨some 20,none,.load true 2 (.t 7)⟩,⟨some 21,none,.mv (.t 1)⟩,⟨some 22,none,.call 79 [(.t 20),(.t 21)]⟩,⟨some 23,none,.bin .add false (.t 19) (.t 22)⟩,⟨some 5,none,.mv (.t 23)⟩]))) (.reg [⟨some 24,none,.bin .add false (.t 15) (.c (.int .i64 1))⟩,⟨some 15,none,.mv (.t 24)⟩]))))))) (.seq (.reg [⟨some 25,none,.mv (.t 5)⟩,⟨some 4,none,.mv (.t 25)⟩]) .ret)))))
theorem Kc:Ar Tryz.prog 79=some ⟨26,G4,[(.tmp 4)]⟩:=by kernel_rfl
theorem Ew:modes 79=⟨[],.asis,none,false⟩:=by unfold modes; rfl
mutual
noncomputable def Tm.cnt (n:ByteArray):Tm→Nat
 | .mk name args=>(bif dec (name=n) then 1 else 0)+Tm.Kd n args
noncomputable def Tm.Kd (n:ByteArray):List Tm→Nat
 | []=>0
 | x :: xs=>Tm.cnt n x+Tm.Kd n xs
end
theorem Tm.QV (n:ByteArray) (x:Tm):x.cnt n=(bif dec (x.name=n) then 1 else 0)+Tm.Kd n x.args:=by
 obtain ⟨a,b⟩:=x
 rw [Tm.cnt]; rfl
theorem Tm.RS (n:ByteArray):∀ xs:List Tm,(∀ x∈xs,x.cnt n≤x.nodes)→Tm.Kd n xs≤Tm.nodeS xs
 | [],_=>by rw [Tm.Kd]; omega
 | x :: xs,h=>by
  have h1:=h x (by simp)
  have h2:=Tm.RS n xs fun y hy=>h y (by simp [hy])
  rw [Tm.Kd,Tm.nodeS]; omega
theorem Tm.UM (n:ByteArray) (x:Tm):x.cnt n≤x.nodes:=by
 have h:=Tm.RS n x.args fun y hy=>Tm.UM n y
 rw [Tm.QV,Tm.nodes_eq]
 cases dec (x.name=n) with
 | true=>simp only [cond_true]; omega
 | false=>simp only [cond_false]; omega
termination_by SizeOf.sizeOf x
decreasing_by exact Tm.lt_of_mem hy
theorem Tm.PZ {n:ByteArray}:∀ {xs:List Tm},0<Tm.Kd n xs ↔ ∃ x∈xs,0<x.cnt n
 | []=>by rw [Tm.Kd]; simp
 | x :: xs=>by
  have h:=Tm.PZ (n:=n) (xs:=xs)
  rw [Tm.Kd]
  constructor
  ·intro hp
   rcases zI (x.cnt n) with h0 | h0
   ·obtain ⟨y,h1,h2⟩:=h.1 (by omega)
    exact ⟨y,by simp [h1],h2⟩
   ·exact ⟨x,by simp,h0⟩
  ·rintro ⟨y,h1,h2⟩
   rcases List.mem_cons.1 h1 with rfl | h1
   ·omega
   ·have:=h.2 ⟨y,h1,h2⟩; omega
theorem OA (x:Tm) (n:ByteArray) (hn:x.nodes≤1099511627776) (ih:∀ y∈x.args,E 79 [y.sv,.str n] []=some (.int .i64 (y.cnt n:Nat),[])):E 79 [x.sv,.str n] []=some (.int .i64 (x.cnt n:Nat),[]):=by
 have hx:=Tm.nodes_eq x
 have hl:=Tm.length_le x.args
 have hle:=Tm.UM n x
 have hc0:=Tm.QV n x
 have hsv:x.sv=.agg [.str x.name,.arr (x.args.map Tm.d)]:=rfl
 rw [hsv]
 obtain ⟨c0,hc0'⟩:∃ c0:Nat,c0=bif dec (x.name=n) then 1 else 0:=⟨_,rfl⟩
 rw [←hc0'] at hc0
 by_cases he:x.name=n
 all_goals
  have hq:=he
  first
   |rw [A5 he,cond_true] at hc0'
   |rw [An he,cond_false] at hc0'
  first
   |have hq:=eq_true he
   |have hq:=eq_false he
  refine Ai Kc Ew (of_decide_eq_true rfl) ?_
  simp (disch:=omega) only [G4,go_sem,Ab,hq]
  refine go_loop (α:=Int × (Nat)) (fun a=>⟨slots 26 0 [(1,.str n),(5,.int .i64 (((a.2):Nat):Int)),(13,.arr (x.args.map Tm.d)),(14,.int .i64 x.args.length),(15,.int .i64 (a.1))],[]⟩) (fun a=>∃ k:Nat,a.1=k∧k≤(x.args).length∧(a.2)+Tm.Kd n (x.args.drop k)=x.cnt n) (fun a=>(x.args).length-(a.1).toNat) (0,c0) ⟨0,rfl,zK _,by rw [zJ]; exact hc0.symm⟩ (by simp (disch:=omega) only [go_sem,Ab,hc0',yI,Int.natCast_one]) ?_
  rintro ⟨i,acc⟩ ⟨k,hi,hk,hR⟩
  dsimp only at hi hR
  have hni:i.toNat=k:=by omega
  have hni1:(i+1).toNat=k+1:=by omega
  rcases zC k (x.args).length with hlt | hge
  ·have hg:=get_at Tm.d hlt
   rw [Tm.d_eq] at hg
   have hc:=ih x.args[k] (zG hlt)
   rw [zB hlt,Tm.Kd] at hR
   simp (disch:=omega) only [go_sem,Ab,hni,hg,hc,Ew]
   exact ⟨(i+1,acc+x.args[k].cnt n),⟨k+1,by dsimp only; omega,hlt,by omega⟩,by dsimp only; omega,by simp⟩
  ·rw [zF hge,Tm.Kd] at hR
   simp (disch:=omega) only [go_sem,Ab,hni]
   try omega
theorem K5 (x:Tm) (n:ByteArray) (hn:x.nodes≤1099511627776):E 79 [x.sv,.str n] []=some (.int .i64 (x.cnt n:Nat),[]) :=
 OA x n hn fun y hy=>K5 y n (by have:=Tm.nodes_mem hy; have:=Tm.nodes_eq x; omega)
termination_by SizeOf.sizeOf x
decreasing_by exact Tm.lt_of_mem hy
def I6:SC:=(.seq (.reg [⟨some 3,none,.boxv 26 2 (.t 1)⟩,⟨some 4,none,.mv (.c (.bool false))⟩]) (.seq (.reg [⟨some 5,none,.load true 2 (.t 3)⟩,⟨some 6,none,.mv (.t 0)⟩,⟨some 7,none,.call 79 [(.t 5),(.t 6)]⟩,⟨some 8,none,.bin .gtr false (.t 7) (.c (.int .i64 0))⟩,⟨some 4,none,.mv (.t 8)⟩]) .ret))
theorem MH:Ar Tryz.prog 45=some ⟨9,I6,[(.tmp 4)]⟩:=by kernel_rfl
theorem Ce:modes 45=⟨[],.asis,none,false⟩:=by unfold modes; rfl
theorem Tm.RT {n:ByteArray} (hn:Bs n=true) (x:Tm) (hx:Bs x.name=true→x.args=[]) (ih:∀ y∈x.args,(0<y.cnt n ↔ n∈y.vs)):0<x.cnt n ↔ n∈x.vs:=by
 rw [Tm.QV,Tm.N8]
 cases hv:Bs x.name with
 | true =>
  rw [hx hv,Tm.Kd,cond_true]
  by_cases h:x.name=n
  ·rw [A5 h,h]; simp
  ·rw [An h]
   simp only [cond_false,List.mem_singleton]
   exact ⟨fun k=>absurd k (by omega),fun k=>absurd k.symm h⟩
 | false =>
  have h:¬ x.name=n:=fun e=>by rw [e,hn] at hv; cases hv
  rw [An h,cond_false,cond_false,Nat.zero_add,Tm.PZ,Tm.KM]
  constructor
  ·rintro ⟨y,h1,h2⟩; exact ⟨y,h1,(ih y h1).1 h2⟩
  ·rintro ⟨y,h1,h2⟩; exact ⟨y,h1,(ih y h1).2 h2⟩
theorem Tm.UN {n:ByteArray} (hn:Bs n=true) (x:Tm) (hx:x.names=true):0<x.cnt n ↔ n∈x.vs :=
 Tm.RT hn x (Tm.Ek hx) fun y hy=>Tm.UN hn y (Tm.El hx hy)
termination_by SizeOf.sizeOf x
decreasing_by exact Tm.lt_of_mem hy
theorem Tm.Xt {n:ByteArray} (hn:Bs n=true) (x:Tm) (hx:x.expr=true):dec ((0:Int)<(x.cnt n:Nat))=dec (n∈x.vs):=by
 have h:=Tm.RT hn x (Tm.TZ hx) fun y hy=>Tm.UN hn y (Tm.Ua hx hy)
 refine LG ?_
 rw [←h]; omega
theorem UO (n:ByteArray) (hn:Bs n=true) (x:Tm) (hx:x.expr=true):E 45 [.str n,x.sv] []=some (.bool (dec (n∈x.vs)),[]):=by
 have h:=K5 x n (by have:=Tm.LJ hx; omega)
 rw [←Tm.Xt hn x hx]
 refine Ai MH Ce (of_decide_eq_true rfl) ?_
 simp (disch:=omega) only [I6,go_sem,Ab,h,Ew]
def BH:SC:=(.seq (.reg [⟨some 3,none,.boxv 29 5 (.t 0)⟩,⟨some 4,none,.boxv 9 1 (.t 1)⟩,⟨some 5,none,.boxv 26 2 (.t 2)⟩,⟨(some 6),none,(.alloc 29 [(.int .i64 0),(.str ⟨#[]⟩),.nil,(.str ⟨#[]⟩),.nil])⟩,⟨some 7,none,.mv (.c (.bool false))⟩]) (.seq (.seq (.dreg [[],[0],[1,0],[2,1,0],[3,2,1,0],[4,3,2,1,0],[3,2,1,0],[5,4,3,2,1,0,6],[7,5,4,3,2,1,0,6],[8,7,5,4,3,2,1,0,6],[9,8,7,5,4,3,2,1,0,6],[8,7,5,4,3,2,1,0,6],[10,9,8,7,5,4,3,2,1,0,6,11],[12,10,9,8,7,5,4,3,2,1,0,6,11],[8,7,5,4,3,2,1,0,6,13,12,10,9,11],[3,2,1,0,14,8,7,5,4,6,13,12,10,9,11]] [⟨some 10,none,.faddr 0 (.t 3)⟩,⟨some 11,none,.load false 1 (.t 10)⟩,⟨some 12,none,.call 41 [(.t 11)]⟩,⟨some 13,none,.mv (.t 12)⟩,⟨(some 14),(some (13,true)),(.faddr 3 (.t 3))⟩,⟨(some 15),(some (13,true)),(.load false 1 (.t 14))⟩,⟨(some 16),(some (13,true)),(.load false 1 (.t 4))⟩,⟨(some 17),(some (13,true)),(.bin .eql false (.t 15) (.t 16))⟩,⟨(some 18),(some (13,true)),(.mv (.t 17))⟩,⟨(some 19),(some (18,false)),(.load true 5 (.t 3))⟩,⟨(some 20),(some (18,false)),(.call 43 [(.t 19)])⟩,⟨(some 21),(some (18,false)),(.load false 1 (.t 4))⟩,⟨(some 22),(some (18,false)),(.call 42 [(.t 20),(.t 21)])⟩,⟨(some 23),(some (18,false)),(.un .not (.t 22))⟩,⟨(some 24),(some (13,true)),(.pick (.t 18) (.c (.bool true)) (.t 23))⟩,⟨some 25,none,.pick (.t 13) (.t 24) (.c (.bool false))⟩]) (.cond (.t 25) (.seq (.reg [⟨some 26,none,.load true 5 (.t 3)⟩,⟨some 27,none,.call 44 [(.t 26)]⟩,⟨none,none,(.store 5 (.t 6) (.t 27))⟩,⟨some 7,none,.mv (.c (.bool true))⟩]) .ret) .skip)) (.seq (.seq (.reg [⟨some 28,none,.faddr 0 (.t 3)⟩,⟨some 29,none,.load false 1 (.t 28)⟩,⟨some 30,none,.call 41 [(.t 29)]⟩,⟨some 31,none,.mv (.t 30)⟩,⟨(some 32),(some (31,true)),(.faddr 3 (.t 3))⟩,⟨(some 33),(some (31,true)),(.load false 1 (.t 32))⟩,⟨(some 34),(some (31,true)),(.load true 2 (.t 5))⟩,⟨(some 35),(some (31,true)),(.call 45 [(.t 33),(.t 34)])⟩,⟨some 36,none,.pick (.t 31) (.t 35) (.c (.bool false))⟩]) (.cond (.t 36) (.seq (.reg [⟨(some 37),none,(.build [(.int .i64 0),(.str ⟨#[]⟩),.nil,(.str ⟨#[]⟩),.nil] [])⟩,⟨none,none,(.store 5 (.t 6) (.t 37))⟩,⟨some 7,none,.mv (.c (.bool false))⟩]) .ret) .skip)) (.seq (.reg [⟨some 8,none,.alloc 4 [(.bool false)]⟩,⟨none,none,(.store 1 (.t 8) (.c (.bool true)))⟩]) (.seq (.reg [⟨some 38,none,.load true 5 (.t 3)⟩,⟨some 39,none,.mkfn 47 [(.t 4),(.t 5),(.t 8)]⟩,⟨some 40,none,.call 46 [(.t 38),(.t 39)]⟩,⟨(some 9),none,(.alloc 29 [(.int .i64 0),(.str ⟨#[]⟩),.nil,(.str ⟨#[]⟩),.nil])⟩,⟨none,none,(.store 5 (.t 9) (.t 40))⟩]) (.seq (.seq (.reg [⟨some 41,none,.faddr 0 (.t 3)⟩,⟨some 42,none,.load false 1 (.t 41)⟩,⟨some 43,none,.bin .eql false (.t 42) (.c (.int .i64 3))⟩]) (.cond (.t 43) (.reg [⟨some 44,none,.load false 1 (.t 4)⟩,⟨some 45,none,.load true 2 (.t 5)⟩,⟨(some 46),none,(.build [(.str ⟨#[]⟩),(.str ⟨#[]⟩),.nil] [(0,(1,(.t 44))),(1,(2,(.t 45)))])⟩,⟨(some 47),none,(.mkrow 68 3 [(.str ⟨#[]⟩),(.str ⟨#[]⟩),.nil] 1 [(0,(.t 46))])⟩,⟨some 48,none,.build [.nil] [(0,(1,(.t 47)))]⟩,⟨some 49,none,.faddr 1 (.t 3)⟩,⟨some 50,none,.load true 2 (.t 49)⟩,⟨some 51,none,.call 48 [(.t 48),(.t 50)]⟩,⟨some 52,none,.faddr 1 (.t 9)⟩,⟨none,none,(.store 2 (.t 52) (.t 51))⟩]) .skip)) (.seq (.dreg [[],[],[0],[1,2,0]] [⟨some 53,none,.load true 5 (.t 9)⟩,⟨some 54,none,.load false 1 (.t 8)⟩,⟨none,none,(.store 5 (.t 6) (.t 53))⟩,⟨some 7,none,.mv (.t 54)⟩]) .ret)))))))
theorem Cc:Ar Tryz.prog 18=some ⟨55,BH,[(.cell 6 true 5),(.tmp 7)]⟩:=by kernel_rfl
theorem AG:modes 18=⟨[],.own [none,none,some (26,2),none,some (29,5),none],none,false⟩:=by unfold modes; rfl
def Ds:SC:=(.seq (.reg [⟨some 4,none,.boxv 29 5 (.t 0)⟩,⟨(some 5),none,(.alloc 29 [(.int .i64 0),(.str ⟨#[]⟩),.nil,(.str ⟨#[]⟩),.nil])⟩]) (.seq (.reg [⟨some 9,none,.load true 5 (.t 4)⟩,⟨some 10,none,.load false 1 (.t 1)⟩,⟨some 11,none,.load true 2 (.t 2)⟩,⟨some 12,none,.call 18 [(.t 9),(.t 10),(.t 11)]⟩,⟨some 8,none,.mv (.t 12)⟩,⟨some 13,none,.ext (.t 8) 0⟩,⟨some 14,none,.ext (.t 8) 1⟩,⟨(some 6),none,(.alloc 29 [(.int .i64 0),(.str ⟨#[]⟩),.nil,(.str ⟨#[]⟩),.nil])⟩,⟨none,none,(.store 5 (.t 6) (.t 13))⟩,⟨some 7,none,.mv (.t 14)⟩]) (.seq (.reg [⟨some 15,none,.load false 1 (.t 3)⟩,⟨some 16,none,.mv (.t 15)⟩,⟨(some 17),(some (16,true)),(.mv (.t 7))⟩,⟨some 18,none,.pick (.t 16) (.t 17) (.c (.bool false))⟩,⟨none,none,(.store 1 (.t 3) (.t 18))⟩]) (.seq (.reg [⟨some 19,none,.load true 5 (.t 6)⟩,⟨none,none,(.store 5 (.t 5) (.t 19))⟩]) .ret))))
theorem EG:Ar Tryz.prog 47=some ⟨20,Ds,[(.cell 5 true 5)]⟩:=by kernel_rfl
theorem C6:modes 47=⟨[],.own [none,none,some (26,2),none,some (29,5)],none,false⟩:=by unfold modes; rfl
theorem HH:Hm Tryz.prog 47=true:=by kernel_rfl
theorem J3 {x:Tm} (h:x.valid=true):x.nodes≤30:=by
 unfold Tm.valid Tm.small at h
 rw [zM,zM,decide_eq_true_eq] at h
 exact h.1.1
theorem OB (fid:Nat) (n:ByteArray) (t:Tm) (g:Fm→Fm) (ok:Fm→Bool) (x:Fm) (b0:Bool) (hl:x.parts.length≤1099511627776) (hat:x.atom.nodes≤1099511627776) (hg:Hm Tryz.prog fid=true) (hm:(modes fid).hand=[]) (hr:∀ r,Fn (modes fid).res r=r)
  (hE:∀ y∈x.parts,∀ b,E fid [y.sv,.ptr 0 0,.ptr 1 0,.ptr 2 0] [.box 9 [.str n],.box 26 [.str t.name,.arr (t.args.map Tm.d)],.box 4 [.bool b]]=some (.agg [.int .i64 (g y).op,.str (g y).atom.name,.ref 3,.str (g y).var,.ref 4],[.box 9 [.str n],.box 26 [.str t.name,.arr (t.args.map Tm.d)],.box 4 [.bool (b&&ok y)],.row 26 2 ((g y).atom.args.map Tm.o),.row 29 5 ((g y).parts.map Fm.o)])) :
  E 46 [x.sv,.fn fid [.ptr 0 0,.ptr 1 0,.ptr 2 0]] [.box 9 [.str n],.box 26 [.str t.name,.arr (t.args.map Tm.d)],.box 4 [.bool b0]]=some (.agg [.int .i64 x.op,.str x.atom.name,.ref 3,.str x.var,.ref 4],[.box 9 [.str n],.box 26 [.str t.name,.arr (t.args.map Tm.d)],.box 4 [.bool (b0&&x.parts.all ok)],.row 26 2 (x.atom.args.map Tm.o),.row 29 5 ((x.parts.map g).map Fm.o)]):=by
 have hct:=GP x.atom hat
 have h10:((1:Int)=0)=False:=by simp
 have hmm:∀ ys:List Fm,(ys.map g).map Fm.o=ys.map fun y=>Fm.o (g y):=fun ys=>by rw [zZ]; rfl
 rw [hmm]
 refine Ai Hg AQ (of_decide_eq_true rfl) ?_
 simp (disch:=omega) only [EK,go_sem,Ab,hct,Da,Tm.osv,Tm.obs]
 refine go_loop (α:=Int × (Bool)) (fun a=>⟨slots 33 0 [(1,.fn fid [.ptr 0 0,.ptr 1 0,.ptr 2 0]),(4,.ptr 3 0),(5,.ptr 4 0),(17,.arr (x.parts.map Fm.d)),(18,.int .i64 x.parts.length),(19,.int .i64 (a.1))],(if (a.1)=0 then [.box 9 [.str n],.box 26 [.str t.name,.arr (t.args.map Tm.d)],.box 4 [.bool (a.2)],.box 29 [.int .i64 0,.str ⟨#[]⟩,.nil,.str ⟨#[]⟩,.nil],.box 29 [.int .i64 x.op,.str x.atom.name,.ref 5,.str x.var,.nil],.row 26 2 (x.atom.args.map Tm.o)] else [.box 9 [.str n],.box 26 [.str t.name,.arr (t.args.map Tm.d)],.box 4 [.bool (a.2)],.box 29 [.int .i64 0,.str ⟨#[]⟩,.nil,.str ⟨#[]⟩,.nil],.box 29 [.int .i64 x.op,.str x.atom.name,.ref 5,.str x.var,.ref 6],.row 26 2 (x.atom.args.map Tm.o),.row 29 5 ((x.parts.take (a.1).toNat).map fun y=>Fm.o (g y))])⟩) (fun a=>∃ k:Nat,a.1=k∧k≤(x.parts).length∧((a.2)&&(x.parts.drop k).all ok)=(b0&&x.parts.all ok)) (fun a=>(x.parts).length-(a.1).toNat) (0,b0) ⟨0,rfl,zK _,by rw [zJ]⟩ (by simp (disch:=omega) only [go_sem,Ab,eq_self,if_true]) ?_
 rintro ⟨i,b⟩ ⟨k,hi,hk,hR⟩
 dsimp only at hi hR
 have hni:i.toNat=k:=by omega
 have hni1:(i+1).toNat=k+1:=by omega
 rcases zC k (x.parts).length with hlt | hge
 ·have hgt:=get_at Fm.d hlt
  rw [Fm.d_eq] at hgt
  have hc:=hE x.parts[k] (zG hlt) b
  have hs:=EB (fun y=>Fm.o (g y)) hlt
  rw [Fm.o_eq] at hs
  rw [zB hlt,List.all_cons] at hR
  have hR':((b&&ok x.parts[k])&&(x.parts.drop (k+1)).all ok)=(b0&&x.parts.all ok):=by rw [←hR,Bool.and_assoc]
  rcases zI k with h0 | h0
  ·subst h0
   obtain rfl:i=0:=hi
   rw [zN,zH,zV] at hs
   simp (disch:=omega) only [go_sem,Ab,hni,hgt,hc,hg,hm,hr,eq_self,if_true]
   refine ⟨(1,b&&ok x.parts[0]),⟨1,rfl,hlt,hR'⟩,by dsimp only; omega,?_⟩
   simp (disch:=omega) only [go_sem,Ab,h10,if_false,hs]
  ·have hi0:(i=0)=False:=by simp; omega
   have hi1:(i+1=0)=False:=by simp; omega
   have htl:(x.parts.take k).length=k:=by rw [zT]; omega
   simp (disch:=omega) only [go_sem,Ab,hni,hgt,hc,hg,hm,hr,hi0,if_false,htl]
   refine ⟨(i+1,b&&ok x.parts[k]),⟨k+1,by dsimp only; omega,hlt,hR'⟩,by dsimp only; omega,?_⟩
   simp (disch:=omega) only [go_sem,Ab,hni1,hi1,if_false,hs]
 ·obtain rfl:k=x.parts.length:=by omega
  have ht:x.parts.take x.parts.length=x.parts:=yA
  rw [zF hge,List.all_nil,yB] at hR
  rw [←hR]
  rcases zI x.parts.length with h0 | h0
  ·have hx:x.parts=[]:=zQ h0
   obtain rfl:i=0:=by omega
   simp (disch:=omega) only [go_sem,Ab,hni,hx,eq_self,if_true,zH,zS]
  ·have hi0:(i=0)=False:=by simp; omega
   simp (disch:=omega) only [go_sem,Ab,hni,hi0,if_false,ht]
abbrev QW (n:ByteArray) (t:Tm) (x:Fm):Prop:=E 18 [x.sv,.str n,t.sv] []=some (.tup [(x.subP n t).1.osv,.bool (x.subP n t).2],(x.subP n t).1.obs)
theorem Xu (n:ByteArray) (t:Tm) (x:Fm) (h:QW n t x) (b:Bool):E 47 [x.sv,.ptr 0 0,.ptr 1 0,.ptr 2 0] [.box 9 [.str n],.box 26 [.str t.name,.arr (t.args.map Tm.d)],.box 4 [.bool b]]=some (.agg [.int .i64 (x.subP n t).1.op,.str (x.subP n t).1.atom.name,.ref 3,.str (x.subP n t).1.var,.ref 4],[.box 9 [.str n],.box 26 [.str t.name,.arr (t.args.map Tm.d)],.box 4 [.bool (b&&(x.subP n t).2)],.row 26 2 ((x.subP n t).1.atom.args.map Tm.o),.row 29 5 ((x.subP n t).1.parts.map Fm.o)]):=by
 have htv:t.sv=.agg [.str t.name,.arr (t.args.map Tm.d)]:=rfl
 unfold QW at h
 generalize x.subP n t=r at *
 obtain ⟨y,ok⟩:=r
 dsimp only at *
 cases b with
 | true =>
  rw [zD]
  refine Ai EG C6 (of_decide_eq_true rfl) ?_
  simp (disch:=omega) only [Ds,go_sem,Ab,h,AG,Fm.osv,Fm.obs]
 | false =>
  rw [zA]
  refine Ai EG C6 (of_decide_eq_true rfl) ?_
  simp (disch:=omega) only [Ds,go_sem,Ab,h,AG,Fm.osv,Fm.obs]
theorem Ms (n:ByteArray) (t:Tm) (hn:Bs n=true) (ht:t.valid=true) (x:Fm) (hx:x.forms=true) (hsz:x.nodes≤40) (hta:x.tame) (ih:∀ y∈x.parts,QW n t y):QW n t x:=by
 have hfo:=Fm.Cr hx
 have hvn:=Fm.RB x hx
 have hnd:=Fm.nodes_eq x
 have hpl:=Fm.length_le x.parts
 have hat:=Fm.FK hfo
 have hu:=Cj x.op
 have hfr:=Xr x hx (by omega) (by omega)
 have hcn:=FL x.free n (by
  have h1:=D7 (x.fv []) []
  have h2:=Fm.H9 x []
  simp only [zS] at h1
  show (CF [] (x.fv [])).length≤_
  omega)
 have em:dec (n∈x.free)=dec (n∈x.fv []):=LG (Fm.PD x n)
 rw [em] at hcn
 have hcp:=I4 x hta (by omega)
 have hte:t.expr=true:=by unfold Tm.expr; rw [ht]; rfl
 have hS:=Fm.KP n t x
 have hxs:x.sv=.agg [.int .i64 x.op,.str x.atom.name,.arr (x.atom.args.map Tm.d),.str x.var,.arr (x.parts.map Fm.d)]:=rfl
 have htv:t.sv=.agg [.str t.name,.arr (t.args.map Tm.d)]:=rfl
 have hmp:=OB 47 n t (fun y=>(y.subP n t).1) (fun y=>(y.subP n t).2) x true (by omega) (by omega) HH (by rw [C6]) (fun r=>by rw [C6]; rfl) (fun y hy b=>Xu n t y (ih y hy) b)
 rw [zD] at hmp
 unfold QW
 cases hq:qB x.op with
 | true =>
  have hvv:=(Fm.Dn hfo hq).1
  have hoc:=UO x.var hvv t hte
  have h3:dec (x.op=3)=false:=An (by
   unfold qB at hq
   rw [Bool.or_eq_true,Av,Av] at hq
   omega)
  have hst:x.stays n=(dec (x.var=n) || !dec (n∈x.fv [])):=by unfold Fm.stays; rw [hq,zD]
  rw [hst,hq,h3] at hS
  simp only [zD,cond_false] at hS
  unfold qB at hq
  rw [hq] at hu
  cases hv:dec (x.var=n) with
  | true =>
   rw [hv] at hS
   simp only [Bool.true_or,cond_true] at hS
   rw [hS]
   refine Ai Cc AG (of_decide_eq_true rfl) ?_
   simp (disch:=omega) only [BH,go_sem,hu,hv,hfr,hcn,hcp,Ac,Bm,Am,AZ,Fm.osv,Fm.obs]
   repeat ((first | (refine Aw ?_ ?_; (focus (simp (disch:=omega) only [go_sem,hu,hv,hfr,hcn,hcp,Ac,Bm,Am,AZ,Fm.osv,Fm.obs]; done))) | (refine Ax ?_ ?_; (focus (simp (disch:=omega) only [go_sem,hu,hv,hfr,hcn,hcp,Ac,Bm,Am,AZ,Fm.osv,Fm.obs]; done)))); (try simp (disch:=omega) only [go_sem,hu,hv,hfr,hcn,hcp,Ac,Bm,Am,AZ,Fm.osv,Fm.obs]))
  | false =>
   rw [hv] at hS
   simp only [z7] at hS
   cases hf:dec (n∈x.fv []) with
   | false =>
    rw [hf] at hS hcn
    simp only [Bool.not_false,cond_true] at hS
    rw [hS]
    refine Ai Cc AG (of_decide_eq_true rfl) ?_
    simp (disch:=omega) only [BH,go_sem,hu,hv,hfr,hcn,hcp,Ac,Bm,Am,AZ,Fm.osv,Fm.obs]
    repeat ((first | (refine Aw ?_ ?_; (focus (simp (disch:=omega) only [go_sem,hu,hv,hfr,hcn,hcp,Ac,Bm,Am,AZ,Fm.osv,Fm.obs]; done))) | (refine Ax ?_ ?_; (focus (simp (disch:=omega) only [go_sem,hu,hv,hfr,hcn,hcp,Ac,Bm,Am,AZ,Fm.osv,Fm.obs]; done)))); (try simp (disch:=omega) only [go_sem,hu,hv,hfr,hcn,hcp,Ac,Bm,Am,AZ,Fm.osv,Fm.obs]))
   | true =>
    rw [hf] at hS hcn
    simp only [Bool.not_true,cond_false] at hS
    cases ho:dec (x.var∈t.vs) with
    | true =>
     rw [ho] at hS hoc
     simp only [cond_true] at hS
     rw [hS]
     refine Ai Cc AG (of_decide_eq_true rfl) ?_
     simp (disch:=omega) only [BH,go_sem,hu,hv,hfr,hcn,hoc,Ac,Bm,Am,Ce,Fm.osv,Fm.obs]
     repeat ((first | (refine Aw ?_ ?_; (focus (simp (disch:=omega) only [go_sem,hu,hv,hfr,hcn,hoc,Ac,Bm,Am,Ce,Fm.osv,Fm.obs]; done))) | (refine Ax ?_ ?_; (focus (simp (disch:=omega) only [go_sem,hu,hv,hfr,hcn,hoc,Ac,Bm,Am,Ce,Fm.osv,Fm.obs]; done)))); (try simp (disch:=omega) only [go_sem,hu,hv,hfr,hcn,hoc,Ac,Bm,Am,Ce,Fm.osv,Fm.obs]))
     try first | rfl | exact ⟨⟨rfl,rfl,rfl⟩,rfl,rfl⟩ | exact ⟨rfl,rfl⟩
    | false =>
     rw [ho] at hS hoc
     simp only [cond_false] at hS
     rw [hS]
     dsimp only
     generalize (x.parts.map fun y=>(y.subP n t).1)=ps at *
     generalize (x.parts.all fun y=>(y.subP n t).2)=okb at *
     refine Ai Cc AG (of_decide_eq_true rfl) ?_
     simp (disch:=omega) only [BH,go_sem,hu,hv,hfr,hcn,hoc,h3,hmp,Ac,Bm,Am,Ce,AQ,Fm.osv,Fm.obs]
     repeat ((first | (refine Aw ?_ ?_; (focus (simp (disch:=omega) only [go_sem,hu,hv,hfr,hcn,hoc,h3,hmp,Ac,Bm,Am,Ce,AQ,Fm.osv,Fm.obs]; done))) | (refine Ax ?_ ?_; (focus (simp (disch:=omega) only [go_sem,hu,hv,hfr,hcn,hoc,h3,hmp,Ac,Bm,Am,Ce,AQ,Fm.osv,Fm.obs]; done)))); (try simp (disch:=omega) only [go_sem,hu,hv,hfr,hcn,hoc,h3,hmp,Ac,Bm,Am,Ce,AQ,Fm.osv,Fm.obs]))
     try first | rfl | exact ⟨⟨rfl,rfl,rfl⟩,rfl,rfl⟩ | exact ⟨rfl,rfl⟩
 | false =>
  have hst:x.stays n=false:=by unfold Fm.stays; rw [hq]; rfl
  rw [hst,hq] at hS
  simp only [zA,cond_false] at hS
  unfold qB at hq
  rw [hq] at hu
  cases h3:dec (x.op=3) with
  | false =>
   rw [h3] at hS
   simp only [cond_false] at hS
   rw [hS]
   dsimp only
   generalize (x.parts.map fun y=>(y.subP n t).1)=ps at *
   generalize (x.parts.all fun y=>(y.subP n t).2)=okb at *
   refine Ai Cc AG (of_decide_eq_true rfl) ?_
   simp (disch:=omega) only [BH,go_sem,hu,h3,hmp,Ac,AQ,Fm.osv,Fm.obs]
   repeat ((first | (refine Aw ?_ ?_; (focus (simp (disch:=omega) only [go_sem,hu,h3,hmp,Ac,AQ,Fm.osv,Fm.obs]; done))) | (refine Ax ?_ ?_; (focus (simp (disch:=omega) only [go_sem,hu,h3,hmp,Ac,AQ,Fm.osv,Fm.obs]; done)))); (try simp (disch:=omega) only [go_sem,hu,h3,hmp,Ac,AQ,Fm.osv,Fm.obs]))
   try first | rfl | exact ⟨⟨rfl,rfl,rfl⟩,rfl,rfl⟩ | exact ⟨rfl,rfl⟩
  | true =>
   rw [h3] at hS
   simp only [cond_true] at hS
   have ho3:=Av.1 h3
   have hA:=(Fm.Dw hfo ho3).2.1
   have hap:=PG ⟨[⟨n,t⟩]⟩ (HD t hn) ⟨by simp,fun y hy=>by
    have e:y=⟨n,t⟩:=by simpa using hy
    rw [e]
    have:=J3 ht
    show t.nodes≤_
    omega⟩ x.atom (Tm.Gv hA).1 (by omega) (fun y hy=>RE ⟨[⟨n,t⟩]⟩ (HD t hn) ⟨by simp,fun z hz=>by
    have e:z=⟨n,t⟩:=by simpa using hz
    rw [e]
    have:=J3 ht
    show t.nodes≤_
    omega⟩ y ((Tm.Gv hA).2 y hy) (by have:=Tm.nodes_mem hy; have:=Tm.nodes_eq x.atom; omega))
   have hsb:(Sb.mk [⟨n,t⟩]).sv=.agg [.arr [[.str n,.str t.name,.arr (t.args.map Tm.d)]]]:=rfl
   have has:x.atom.sv=.agg [.str x.atom.name,.arr (x.atom.args.map Tm.d)]:=rfl
   rw [hsb] at hap
   rw [hS]
   dsimp only
   generalize (x.parts.map fun y=>(y.subP n t).1)=ps at *
   generalize (x.parts.all fun y=>(y.subP n t).2)=okb at *
   generalize x.atom.ap (Sb.mk [⟨n,t⟩]).look=a' at *
   refine Ai Cc AG (of_decide_eq_true rfl) ?_
   simp (disch:=omega) only [BH,go_sem,hu,h3,hmp,hap,Ac,AQ,AR,Fm.osv,Fm.obs,Tm.osv,Tm.obs]
   repeat ((first | (refine Aw ?_ ?_; (focus (simp (disch:=omega) only [go_sem,hu,h3,hmp,hap,Ac,AQ,AR,Fm.osv,Fm.obs,Tm.osv,Tm.obs]; done))) | (refine Ax ?_ ?_; (focus (simp (disch:=omega) only [go_sem,hu,h3,hmp,hap,Ac,AQ,AR,Fm.osv,Fm.obs,Tm.osv,Tm.obs]; done)))); (try simp (disch:=omega) only [go_sem,hu,h3,hmp,hap,Ac,AQ,AR,Fm.osv,Fm.obs,Tm.osv,Tm.obs]))
   try first | rfl | exact ⟨⟨rfl,rfl,rfl⟩,rfl,rfl⟩ | exact ⟨rfl,rfl⟩
theorem I7 (n:ByteArray) (t:Tm) (hn:Bs n=true) (ht:t.valid=true) (x:Fm) (hx:x.forms=true) (hsz:x.nodes≤40) (hta:x.tame):QW n t x :=
 Ms n t hn ht x hx hsz hta fun y hy=>I7 n t hn ht y (Fm.Co hx hy) (by have:=Fm.nodes_mem hy; have:=Fm.nodes_eq x; omega) (Fm.Fg hta hy)
termination_by SizeOf.sizeOf x
decreasing_by exact Fm.lt_of_mem hy
def GT:SC:=(.seq (.reg [⟨some 3,none,.boxv 71 1 (.t 0)⟩,⟨some 5,none,.boxv 26 2 (.t 2)⟩,⟨some 6,none,.alloc 71 [.nil]⟩]) (.seq (.seq (.reg [⟨some 9,none,.faddr 0 (.t 5)⟩,⟨some 10,none,.load false 1 (.t 9)⟩,⟨some 11,none,.mv (.t 1)⟩,⟨some 12,none,.bin .eql false (.t 10) (.t 11)⟩]) (.cond (.t 12) (.seq (.reg [⟨some 13,none,.load true 1 (.t 3)⟩,⟨none,none,(.store 1 (.t 6) (.t 13))⟩]) .ret) .skip)) (.seq (.reg [⟨some 7,none,.mv (.c (.int .i64 0))⟩]) (.seq (.block 0 (.loop [0,1,0,1,0,1,1,1,0,0,0,0,0,0,0,0,0,0,0,0,0,0,0,0,0,0,0,0,0,0,0,0,0,0,0,0,0,0,0,0,0,0,0,0,0,0,0,0,0,0,0] (.seq (.seq (.reg [⟨some 14,none,.mv (.t 7)⟩,⟨some 15,none,.faddr 0 (.t 3)⟩,⟨some 16,none,.load false 1 (.t 15)⟩,⟨some 17,none,.len false (.t 16)⟩,⟨some 18,none,.bin .lss false (.t 14) (.t 17)⟩,⟨some 19,none,.mv (.t 18)⟩,⟨(some 20),(some (19,true)),(.faddr 0 (.t 3))⟩,⟨(some 21),(some (19,true)),(.load false 1 (.t 20))⟩,⟨(some 22),(some (19,true)),(.mv (.t 7))⟩,⟨(some 23),(some (19,true)),(.iaddr 3 (.t 21) (.t 22))⟩,⟨(some 24),(some (19,true)),(.faddr 0 (.t 23))⟩,⟨(some 25),(some (19,true)),(.load false 1 (.t 24))⟩,⟨(some 26),(some (19,true)),(.mv (.t 1))⟩,⟨(some 27),(some (19,true)),(.bin .lss false (.t 25) (.t 26))⟩,⟨some 28,none,.pick (.t 19) (.t 27) (.c (.bool false))⟩]) (.cond (.t 28) .skip (.exit 0))) (.block 1 (.reg [⟨some 29,none,.mv (.t 7)⟩,⟨some 30,none,.bin .add false (.t 29) (.c (.int .i64 1))⟩,⟨some 7,none,.mv (.t 30)⟩]))))) (.seq (.reg [⟨(some 31),none,(.mkrow 68 3 [(.str ⟨#[]⟩),(.str ⟨#[]⟩),.nil] 0 [])⟩,⟨some 32,none,.faddr 0 (.t 3)⟩,⟨some 33,none,.load false 1 (.t 32)⟩,⟨some 34,none,.mv (.t 7)⟩,⟨some 35,none,.slice false 3 (.t 33) none (some (.t 34))⟩,⟨(some 36),none,(.append 68 3 56 [(.str ⟨#[]⟩),(.str ⟨#[]⟩),.nil] (.t 31) (.t 35))⟩,⟨some 8,none,.mv (.t 36)⟩]) (.seq (.reg [⟨some 37,none,.mv (.t 8)⟩,⟨some 38,none,.mv (.t 1)⟩,⟨some 39,none,.load true 2 (.t 5)⟩,⟨some 40,none,.call 87 [(.t 39)]⟩,⟨(some 41),none,(.build [(.str ⟨#[]⟩),(.str ⟨#[]⟩),.nil] [(0,(1,(.t 38))),(1,(2,(.t 40)))])⟩,⟨(some 42),none,(.mkrow 68 3 [(.str ⟨#[]⟩),(.str ⟨#[]⟩),.nil] 1 [(0,(.t 41))])⟩,⟨(some 43),none,(.append 68 3 56 [(.str ⟨#[]⟩),(.str ⟨#[]⟩),.nil] (.t 37) (.t 42))⟩,⟨some 8,none,.mv (.t 43)⟩]) (.seq (.reg [⟨some 44,none,.mv (.t 8)⟩,⟨some 45,none,.faddr 0 (.t 3)⟩,⟨some 46,none,.load false 1 (.t 45)⟩,⟨some 47,none,.mv (.t 7)⟩,⟨some 48,none,.slice false 3 (.t 46) (some (.t 47)) none⟩,⟨(some 49),none,(.append 68 3 56 [(.str ⟨#[]⟩),(.str ⟨#[]⟩),.nil] (.t 44) (.t 48))⟩,⟨some 50,none,.build [.nil] [(0,(1,(.t 49)))]⟩,⟨none,none,(.store 1 (.t 6) (.t 50))⟩]) .ret)))))))
theorem J4:Ar Tryz.prog 56=some ⟨51,GT,[(.cell 6 true 1)]⟩:=by kernel_rfl
theorem Dy:modes 56=⟨[],.frz,none,false⟩:=by unfold modes; rfl
def BU:SC:=(.seq (.reg [⟨some 3,none,.boxv 29 5 (.t 0)⟩,⟨some 5,none,.boxv 26 2 (.t 2)⟩,⟨(some 6),none,(.alloc 29 [(.int .i64 0),(.str ⟨#[]⟩),.nil,(.str ⟨#[]⟩),.nil])⟩,⟨some 7,none,.mv (.c (.bool false))⟩]) (.seq (.reg [⟨some 12,none,.faddr 0 (.t 3)⟩,⟨some 13,none,.load false 1 (.t 12)⟩,⟨some 14,none,.faddr 3 (.t 3)⟩,⟨some 15,none,.load false 1 (.t 14)⟩,⟨(some 16),none,(.build [(.int .i64 0),(.str ⟨#[]⟩),.nil,(.str ⟨#[]⟩),.nil] [(0,(1,(.t 13))),(3,(1,(.t 15)))])⟩,⟨(some 8),none,(.alloc 29 [(.int .i64 0),(.str ⟨#[]⟩),.nil,(.str ⟨#[]⟩),.nil])⟩,⟨none,none,(.store 5 (.t 8) (.t 16))⟩]) (.seq (.seq (.reg [⟨some 17,none,.faddr 0 (.t 3)⟩,⟨some 18,none,.load false 1 (.t 17)⟩,⟨some 19,none,.bin .eql false (.t 18) (.c (.int .i64 3))⟩]) (.cond (.t 19) (.seq (.dreg [[],[],[],[0,1,2],[],[4],[3,0,1,2,5,4],[0,1,2,3,4,5,6],[7,0,1,2,3,4,5,6]] [⟨some 20,none,.build [.nil] []⟩,⟨some 21,none,.mv (.t 1)⟩,⟨some 22,none,.load true 2 (.t 5)⟩,⟨some 23,none,.call 56 [(.t 20),(.t 21),(.t 22)]⟩,⟨some 24,none,.faddr 1 (.t 3)⟩,⟨some 25,none,.load true 2 (.t 24)⟩,⟨some 26,none,.call 55 [(.t 23),(.t 25)]⟩,⟨some 27,none,.faddr 1 (.t 8)⟩,⟨none,none,(.store 2 (.t 27) (.t 26))⟩]) (.seq (.dreg [[],[],[1],[2,1],[0,3,2,1],[3,2,1,4,0]] [⟨some 28,none,.load true 5 (.t 8)⟩,⟨some 29,none,.faddr 1 (.t 8)⟩,⟨some 30,none,.load true 2 (.t 29)⟩,⟨some 31,none,.call 57 [(.t 30)]⟩,⟨none,none,(.store 5 (.t 6) (.t 28))⟩,⟨some 7,none,.mv (.t 31)⟩]) .ret)) .skip)) (.seq (.seq (.reg [⟨some 32,none,.faddr 0 (.t 3)⟩,⟨some 33,none,.load false 1 (.t 32)⟩,⟨some 34,none,.bin .eql false (.t 33) (.c (.int .i64 8))⟩,⟨some 35,none,.mv (.t 34)⟩,⟨(some 36),(some (35,false)),(.faddr 0 (.t 3))⟩,⟨(some 37),(some (35,false)),(.load false 1 (.t 36))⟩,⟨(some 38),(some (35,false)),(.bin .eql false (.t 37) (.c (.int .i64 9)))⟩,⟨some 39,none,.pick (.t 35) (.c (.bool true)) (.t 38)⟩]) (.cond (.t 39) (.seq (.seq (.reg [⟨some 40,none,.faddr 3 (.t 3)⟩,⟨some 41,none,.load false 1 (.t 40)⟩,⟨some 42,none,.mv (.t 1)⟩,⟨some 43,none,.bin .eql false (.t 41) (.t 42)⟩,⟨some 44,none,.mv (.t 43)⟩,⟨(some 45),(some (44,false)),(.faddr 4 (.t 3))⟩,⟨(some 46),(some (44,false)),(.load false 1 (.t 45))⟩,⟨(some 47),(some (44,false)),(.iaddr 5 (.t 46) (.c (.int .i64 0)))⟩,⟨(some 48),(some (44,false)),(.load true 5 (.t 47))⟩,⟨(some 49),(some (44,false)),(.call 59 [(.t 48)])⟩,⟨(some 50),(some (44,false)),(.mv (.t 1))⟩,⟨(some 51),(some (44,false)),(.call 58 [(.t 49),(.t 50)])⟩,⟨(some 52),(some (44,false)),(.un .not (.t 51))⟩,⟨some 53,none,.pick (.t 44) (.c (.bool true)) (.t 52)⟩]) (.cond (.t 53) (.seq (.reg [⟨some 54,none,.load true 5 (.t 3)⟩,⟨some 55,none,.call 60 [(.t 54)]⟩,⟨none,none,(.store 5 (.t 6) (.t 55))⟩,⟨some 7,none,.mv (.c (.bool true))⟩]) .ret) .skip)) (.seq (.dreg [[],[0],[],[2],[1,0,3,2]] [⟨some 56,none,.load true 2 (.t 5)⟩,⟨some 57,none,.call 61 [(.t 56)]⟩,⟨some 58,none,.faddr 3 (.t 3)⟩,⟨some 59,none,.load false 1 (.t 58)⟩,⟨some 60,none,.call 58 [(.t 57),(.t 59)]⟩]) (.cond (.t 60) (.seq (.reg [⟨some 61,none,.load true 5 (.t 8)⟩,⟨none,none,(.store 5 (.t 6) (.t 61))⟩,⟨some 7,none,.mv (.c (.bool false))⟩]) .ret) .skip))) .skip)) (.seq (.seq (.reg [⟨some 9,none,.mv (.c (.int .i64 0))⟩]) (.block 0 (.loop [0,1,0,1,0,1,1,0,1,1,0,0,0,0,0,0,0,0,0,0,0,0,0,0,0,0,0,0,0,0,0,0,0,0,0,0,0,0,0,0,0,0,0,0,0,0,0,0,0,0,0,0,0,0,0,0,0,0,0,0,0,0,0,0,0,0,0,0,0,0,0,0,0,0,0,0,0,0,0,0,0,0,0,0,0,0,0,0,0,0] (.seq (.seq (.reg [⟨some 62,none,.mv (.t 9)⟩,⟨some 63,none,.faddr 4 (.t 3)⟩,⟨some 64,none,.load false 1 (.t 63)⟩,⟨some 65,none,.len false (.t 64)⟩,⟨some 66,none,.bin .lss false (.t 62) (.t 65)⟩]) (.cond (.t 66) .skip (.exit 0))) (.seq (.block 1 (.seq (.dreg [[],[0],[],[1,0,2],[3,1,0,2],[],[],[4,3,1,0,2,5,6],[7,4,3,1,0,2,5,6],[8,7,4,3,1,0,2,5,6],[8,7,4,3,1,0,2,5,6],[],[11,9,8,7,4,3,1,0,2,5,6],[10,8,7,4,3,1,0,2,5,6,12,11,9]] [⟨some 70,none,.faddr 4 (.t 3)⟩,⟨some 71,none,.load false 1 (.t 70)⟩,⟨some 72,none,.mv (.t 9)⟩,⟨some 73,none,.iaddr 5 (.t 71) (.t 72)⟩,⟨some 74,none,.load true 5 (.t 73)⟩,⟨some 75,none,.mv (.t 1)⟩,⟨some 76,none,.load true 2 (.t 5)⟩,⟨some 77,none,.call 23 [(.t 74),(.t 75),(.t 76)]⟩,⟨some 69,none,.mv (.t 77)⟩,⟨some 78,none,.ext (.t 69) 0⟩,⟨some 79,none,.ext (.t 69) 1⟩,⟨(some 10),none,(.alloc 29 [(.int .i64 0),(.str ⟨#[]⟩),.nil,(.str ⟨#[]⟩),.nil])⟩,⟨none,none,(.store 5 (.t 10) (.t 78))⟩,⟨some 11,none,.mv (.t 79)⟩]) (.seq (.seq (.reg [⟨some 80,none,.mv (.t 11)⟩,⟨some 81,none,.un .not (.t 80)⟩]) (.cond (.t 81) (.seq (.reg [⟨some 82,none,.load true 5 (.t 8)⟩,⟨none,none,(.store 5 (.t 6) (.t 82))⟩,⟨some 7,none,.mv (.c (.bool false))⟩]) .ret) .skip)) (.reg [⟨some 83,none,.faddr 4 (.t 8)⟩,⟨some 84,none,.load false 1 (.t 83)⟩,⟨some 85,none,.load true 5 (.t 10)⟩,⟨(some 86),none,(.mkrow 29 5 [(.int .i64 0),(.str ⟨#[]⟩),.nil,(.str ⟨#[]⟩),.nil] 1 [(0,(.t 85))])⟩,⟨(some 87),none,(.append 29 5 88 [(.int .i64 0),(.str ⟨#[]⟩),.nil,(.str ⟨#[]⟩),.nil] (.t 84) (.t 86))⟩,⟨some 88,none,.faddr 4 (.t 8)⟩,⟨none,none,(.store 1 (.t 88) (.t 87))⟩])))) (.reg [⟨some 67,none,.mv (.t 9)⟩,⟨some 68,none,.bin .add false (.t 67) (.c (.int .i64 1))⟩,⟨some 9,none,.mv (.t 68)⟩])))))) (.seq (.reg [⟨some 89,none,.load true 5 (.t 8)⟩,⟨none,none,(.store 5 (.t 6) (.t 89))⟩,⟨some 7,none,.mv (.c (.bool true))⟩]) .ret))))))
theorem Cf:Ar Tryz.prog 23=some ⟨90,BU,[(.cell 6 true 5),(.tmp 7)]⟩:=by kernel_rfl
theorem A6:modes 23=⟨[],.frz,none,false⟩:=by unfold modes; rfl
noncomputable def ST (n:ByteArray) (t:Tm):List Bd:=bif dec (t.name=n) then [] else [⟨n,t⟩]
theorem J5 {x:Tm} (h:x.valid=true):x.names=true:=by
 unfold Tm.valid at h
 rw [zM] at h
 exact h.2
theorem J6 {x:Tm} (h:x.valid=true):x.nodes≤30:=by
 unfold Tm.valid Tm.small at h
 rw [zM,zM,decide_eq_true_eq] at h
 exact h.1.1
theorem Mt {n:ByteArray} {t:Tm} (ht:t.valid=true):okF (Sb.mk [⟨n,t⟩]).look:=fun m u h=>by
 rw [HC] at h
 split at h
 ·obtain rfl:=Option.some.inj h; exact ⟨J5 ht,J6 ht⟩
 ·cases h
theorem UP (n:ByteArray) (t:Tm) (ht:t.nodes≤1099511627776):E 56 [.agg [.arr []],.str n,t.sv] []=some (.agg [.arr ((ST n t).map Bd.d)],[]):=by
 have ho:=KN t ht
 have htv:t.sv=.agg [.str t.name,.arr (t.args.map Tm.d)]:=rfl
 unfold ST
 cases hq:dec (t.name=n) with
 | true =>
  simp only [cond_true,zH]
  refine Ai J4 Dy (of_decide_eq_true rfl) ?_
  simp (disch:=omega) only [GT,go_sem,Ab,hq]
 | false =>
  simp only [cond_false,zP,zH]
  have hbd:Bd.d ⟨n,t⟩=[.str n,.str t.name,.arr (t.args.map Tm.d)]:=rfl
  rw [hbd]
  have hz:dec ((0:Int)<0)=false:=An (by omega)
  refine Ai J4 Dy (of_decide_eq_true rfl) ?_
  simp (disch:=omega) only [GT,go_sem,Ab,hq]
  refine go_loop (α:=Int) (fun a=>⟨slots 51 0 [(1,.str n),(3,.ptr 0 0),(5,.ptr 1 0),(6,.ptr 2 0),(7,.int .i64 a)],[.box 71 [.arr []],.box 26 [.str t.name,.arr (t.args.map Tm.d)],.box 71 [.nil]]⟩) (fun a=>∃ k:Nat,a=k∧k≤(([]:List Bd)).length) (fun a=>(([]:List Bd)).length-(a).toNat) 0 ⟨0,rfl,zK _⟩ (by simp (disch:=omega) only [go_sem,Ab]) ?_
  rintro i ⟨k,hi,hk⟩
  have hni:i.toNat=k:=by omega
  have hni1:(i+1).toNat=k+1:=by omega
  rcases zC k (([]:List Bd)).length with hlt | hge
  ·simp at hlt
  ·obtain rfl:i=0:=by simp at hk; omega
   simp (disch:=omega) only [go_sem,Ab,hni,hz,ho,zE,Dx]
abbrev Qa (n:ByteArray) (t:Tm) (x:Fm):Prop:=E 23 [x.sv,.str n,t.sv] []=some (.tup [(x.subS n t).1.sv,.bool (x.subS n t).2],[])
theorem UQ (n:ByteArray) (t:Tm) (hn:Bs n=true) (ht:t.valid=true) (x:Fm) (hx:x.forms=true) (hsz:x.nodes≤40) (hta0:x.tame) (ih:∀ y∈x.parts,Qa n t y):Qa n t x:=by
 have hfo:=Fm.Cr hx
 have hvn:=Fm.RB x hx
 have hnd:=Fm.nodes_eq x
 have hpl:=Fm.length_le x.parts
 have hat:=Fm.FK hfo
 have htn:=J6 ht
 have hS:=Fm.RG n t x
 have h10:((1:Int)=0)=False:=by simp
 have hxs:x.sv=.agg [.int .i64 x.op,.str x.atom.name,.arr (x.atom.args.map Tm.d),.str x.var,.arr (x.parts.map Fm.d)]:=rfl
 have htv:t.sv=.agg [.str t.name,.arr (t.args.map Tm.d)]:=rfl
 unfold Qa
 cases h3:dec (x.op=3) with
 | true =>
  rw [h3] at hS
  simp only [cond_true] at hS
  have hpu:=UP n t (by omega)
  have has:x.atom.sv=.agg [.str x.atom.name,.arr (x.atom.args.map Tm.d)]:=rfl
  have hap:E 55 [(Sb.mk (ST n t)).sv,x.atom.sv] []=some ((x.atom.ap (Sb.mk [⟨n,t⟩]).look).sv,[]):=by
   unfold ST
   by_cases hq:t.name=n
   ·rw [A5 hq,cond_true]
    have h1:=JQ ⟨[]⟩ QM ⟨by simp,fun y hy=>by cases hy⟩ x.atom (by omega)
    have hte:t=.mk n []:=by
     have hv:Bs t.name=true:=by rw [hq]; exact hn
     have ha:=Tm.Ek (J5 ht) hv
     obtain ⟨m,a⟩:=t
     simp only [Tm.name,Tm.args] at hq ha
     rw [hq,ha]
    rw [hte,RF]
    exact h1
   ·rw [An hq,cond_false]
    exact JQ ⟨[⟨n,t⟩]⟩ (HD t hn) ⟨by simp,fun y hy=>by
     have e:y=⟨n,t⟩:=by simpa using hy
     rw [e]
     show t.nodes≤_
     omega⟩ x.atom (by omega)
  have han:=Tm.LH (Mt (n:=n) ht) x.atom
  have hla:=P4 (x.atom.ap (Sb.mk [⟨n,t⟩]).look) (by omega)
  rw [hS]
  dsimp only
  generalize x.atom.ap (Sb.mk [⟨n,t⟩]).look=a' at *
  have hsa:(Sb.mk (ST n t)).sv=.agg [.arr ((ST n t).map Bd.d)]:=rfl
  have hsr:(Fm.mk x.op a' x.var []).sv=.agg [.int .i64 x.op,.str a'.name,.arr (a'.args.map Tm.d),.str x.var,.arr []]:=rfl
  rw [hsa] at hap
  rw [hsr]
  refine Ai Cf A6 (of_decide_eq_true rfl) ?_
  simp (disch:=omega) only [BU,go_sem,h3,hpu,hap,hla,Dy,BR,Aj]
  repeat ((first | (refine Aw ?_ ?_; (focus (simp (disch:=omega) only [go_sem,h3,hpu,hap,hla,Dy,BR,Aj]; done))) | (refine Ax ?_ ?_; (focus (simp (disch:=omega) only [go_sem,h3,hpu,hap,hla,Dy,BR,Aj]; done)))); (try simp (disch:=omega) only [go_sem,h3,hpu,hap,hla,Dy,BR,Aj]))
 | false =>
  rw [h3] at hS
  simp only [cond_false] at hS
  obtain ⟨ps,hps⟩:∃ ps,ps=x.parts.map fun y=>(y.subS n t).1:=⟨_,rfl⟩
  cases hq:qB x.op with
  | false =>
   have hst:x.stays n=false:=by unfold Fm.stays; rw [hq]; rfl
   rw [hst,hq] at hS
   simp only [zA,cond_false] at hS
   have o8:dec (x.op=8)=false:=by unfold qB at hq; rw [Bool.or_eq_false_iff] at hq; exact hq.1
   have o9:dec (x.op=9)=false:=by unfold qB at hq; rw [Bool.or_eq_false_iff] at hq; exact hq.2
   rw [hS]
   refine Ai Cf A6 (of_decide_eq_true rfl) ?_
   simp (disch:=omega) only [BU,go_sem,h3,o8,o9]
   repeat ((first | (refine Aw ?_ ?_; (focus (simp (disch:=omega) only [go_sem,h3,o8,o9]; done))) | (refine Ax ?_ ?_; (focus (simp (disch:=omega) only [go_sem,h3,o8,o9]; done)))); (try simp (disch:=omega) only [go_sem,h3,o8,o9]))
   refine go_loop (α:=Int) (fun a=>⟨slots 90 0 [(1,.str n),(3,.ptr 0 0),(5,.ptr 1 0),(6,.ptr 2 0),(8,.ptr 3 0),(9,.int .i64 a)],(if a=0 then [.box 29 [.int .i64 x.op,.str x.atom.name,.arr (x.atom.args.map Tm.d),.str x.var,.arr (x.parts.map Fm.d)],.box 26 [.str t.name,.arr (t.args.map Tm.d)],.box 29 [.int .i64 0,.str ⟨#[]⟩,.nil,.str ⟨#[]⟩,.nil],.box 29 [.int .i64 x.op,.str ⟨#[]⟩,.nil,.str x.var,.nil]] else [.box 29 [.int .i64 x.op,.str x.atom.name,.arr (x.atom.args.map Tm.d),.str x.var,.arr (x.parts.map Fm.d)],.box 26 [.str t.name,.arr (t.args.map Tm.d)],.box 29 [.int .i64 0,.str ⟨#[]⟩,.nil,.str ⟨#[]⟩,.nil],.box 29 [.int .i64 x.op,.str ⟨#[]⟩,.nil,.str x.var,.ref 4],.row 29 5 ((ps.take a.toNat).map Fm.osh)])⟩) (fun a=>∃ k:Nat,a=k∧k≤(x.parts).length∧Fm.BS n t x.parts=(ps.take k++(Fm.BS n t (x.parts.drop k)).1,(Fm.BS n t (x.parts.drop k)).2)) (fun a=>(x.parts).length-(a).toNat) 0 ⟨0,rfl,zK _,by rw [zN,zV,zJ]⟩ (by simp (disch:=omega) only [go_sem,Ab,eq_self,if_true]) ?_
   rintro i ⟨k,hi,hk,hR⟩
   have hni:i.toNat=k:=by omega
   have hni1:(i+1).toNat=k+1:=by omega
   rcases zC k (x.parts).length with hlt | hge
   ·have hgt:=get_at Fm.d hlt
    rw [Fm.d_eq] at hgt
    have hc:=ih x.parts[k] (zG hlt)
    have hltm:k<ps.length:=by rw [hps,zO]; exact hlt
    have hse:=EB Fm.osh hltm
    have hpk:ps[k]=(x.parts[k].subS n t).1:=by simp only [hps,yJ]
    rw [hpk,Fm.osh_eq] at hse
    rw [zB hlt,Fm.BS] at hR
    have htk:ps.take (k+1)=ps.take k++[(x.parts[k].subS n t).1]:=by rw [zL hltm,hpk]
    have htl:(ps.take k).length=k:=by rw [zT]; omega
    have hfk:=Fm.osh_full (ps.take k)
    have hek:=Fm.osh_er (ps.take k)
    unfold Qa at hc
    cases hok:(x.parts[k].subS n t).2 with
    | false =>
     rw [hok] at hc hR
     simp only [cond_false,z6] at hR
     rw [hR]
     dsimp only
     have hsvk:(Fm.mk x.op (.mk ⟨#[]⟩ []) x.var (ps.take k)).sv=.agg [.int .i64 x.op,.str ⟨#[]⟩,.arr [],.str x.var,.arr ((ps.take k).map Fm.d)]:=rfl
     rw [hsvk]
     rcases zI k with h0 | h0
     ·subst h0
      obtain rfl:i=0:=hi
      rw [zN,zH]
      simp (disch:=omega) only [go_sem,Ab,hni,hgt,hc,A6,eq_self,if_true]
     ·have hi0:(i=0)=False:=by simp; omega
      simp (disch:=omega) only [go_sem,Ab,hni,hgt,hc,A6,hi0,if_false,htl,hfk,hek]
    | true =>
     rw [hok] at hc hR
     simp only [cond_true] at hR
     have hR':Fm.BS n t x.parts=(ps.take (k+1)++(Fm.BS n t (x.parts.drop (k+1))).1,(Fm.BS n t (x.parts.drop (k+1))).2):=by
      rw [hR,htk,yF]; rfl
     rcases zI k with h0 | h0
     ·subst h0
      obtain rfl:i=0:=hi
      rw [zN,zH,zV] at hse
      simp (disch:=omega) only [go_sem,Ab,hni,hgt,hc,A6,eq_self,if_true]
      refine ⟨1,⟨1,rfl,hlt,hR'⟩,by omega,?_⟩
      simp (disch:=omega) only [go_sem,Ab,h10,if_false,hse]
     ·have hi0:(i=0)=False:=by simp; omega
      have hi1:(i+1=0)=False:=by simp; omega
      simp (disch:=omega) only [go_sem,Ab,hni,hgt,hc,A6,hi0,if_false,htl,hfk,hek]
      refine ⟨i+1,⟨k+1,by omega,hlt,hR'⟩,by omega,?_⟩
      simp (disch:=omega) only [go_sem,Ab,hni1,hi1,if_false,hse]
   ·obtain rfl:k=x.parts.length:=by omega
    have hta:ps.take x.parts.length=ps:=zU (by rw [hps,zO]; omega)
    have hfu:=Fm.osh_full ps
    have her:=Fm.osh_er ps
    rw [zF hge,Fm.BS,z6,hta] at hR
    rw [hR]
    dsimp only
    have hsvk:(Fm.mk x.op (.mk ⟨#[]⟩ []) x.var ps).sv=.agg [.int .i64 x.op,.str ⟨#[]⟩,.arr [],.str x.var,.arr (ps.map Fm.d)]:=rfl
    rw [hsvk]
    rcases zI x.parts.length with h0 | h0
    ·have hx:x.parts=[]:=zQ h0
     have hp0:ps=[]:=by rw [hps,hx]; rfl
     obtain rfl:i=0:=by omega
     rw [hp0,zH]
     simp (disch:=omega) only [go_sem,Ab,hni,hx,eq_self,if_true,zH,zS]
    ·have hi0:(i=0)=False:=by simp; omega
     simp (disch:=omega) only [go_sem,Ab,hni,hi0,if_false,hta,hfu,her]
  | true =>
   obtain ⟨hvv,p,hp⟩:=Fm.Dn hfo hq
   have hst:=Fm.QO n hfo hq hp
   have hpm:p∈x.parts:=by rw [hp]; simp
   have hl0:0<x.parts.length:=by rw [hp]; simp
   have hp0:x.parts[0]=p:=by simp only [hp,List.getElem_cons_zero]
   have hg0:=get_at Fm.d hl0
   rw [hp0,Fm.d_eq] at hg0
   have hpf:=Fm.Co hx hpm
   have hpn:=Fm.nodes_mem hpm
   have hpv:=Fm.RB p hpf
   have hfr:=UL p hpf (by omega) (by omega)
   have hps':p.sv=.agg [.int .i64 p.op,.str p.atom.name,.arr (p.atom.args.map Tm.d),.str p.var,.arr (p.parts.map Fm.d)]:=rfl
   have hfl:p.free.length≤1048576:=by
    have h1:=D7 (p.fv []) []
    have h2:=Fm.H9 p []
    simp only [zS] at h1
    show (CF [] (p.fv [])).length≤_
    omega
   have hin:=QU p.free n (by omega)
   have em:dec (n∈p.free)=dec (n∈p.fv []):=LG (Fm.PD p n)
   rw [em] at hin
   have hva:=P9 t (by omega)
   have hvl:=D7 t.vs []
   have hvl2:=Tm.H7 t
   simp only [zS] at hvl
   have hin2:=QU (CF [] t.vs) x.var (by omega)
   have em2:dec (x.var∈CF [] t.vs)=dec (x.var∈t.vs):=LG (by rw [H8]; simp)
   rw [em2] at hin2
   have how:=RR x hta0 (by omega)
   rw [hst,hq] at hS
   simp only [zD] at hS
   unfold qB at hq
   cases hv:dec (x.var=n) with
   | true =>
    rw [hv] at hS
    simp only [Bool.true_or,cond_true] at hS
    rw [hS]
    dsimp only
    cases o8:dec (x.op=8) with
    | true =>
     refine Ai Cf A6 (of_decide_eq_true rfl) ?_
     simp (disch:=omega) only [BU,go_sem,h3,o8,hq,hv,hg0,hfr,hin,how,zE,As,Ay,AV]
     repeat ((first | (refine Aw ?_ ?_; (focus (simp (disch:=omega) only [go_sem,h3,o8,hq,hv,hg0,hfr,hin,how,zE,As,Ay,AV]; done))) | (refine Ax ?_ ?_; (focus (simp (disch:=omega) only [go_sem,h3,o8,hq,hv,hg0,hfr,hin,how,zE,As,Ay,AV]; done)))); (try simp (disch:=omega) only [go_sem,h3,o8,hq,hv,hg0,hfr,hin,how,zE,As,Ay,AV]))
    | false =>
     rw [o8,z7] at hq
     refine Ai Cf A6 (of_decide_eq_true rfl) ?_
     simp (disch:=omega) only [BU,go_sem,h3,o8,hq,hv,hg0,hfr,hin,how,zE,As,Ay,AV]
     repeat ((first | (refine Aw ?_ ?_; (focus (simp (disch:=omega) only [go_sem,h3,o8,hq,hv,hg0,hfr,hin,how,zE,As,Ay,AV]; done))) | (refine Ax ?_ ?_; (focus (simp (disch:=omega) only [go_sem,h3,o8,hq,hv,hg0,hfr,hin,how,zE,As,Ay,AV]; done)))); (try simp (disch:=omega) only [go_sem,h3,o8,hq,hv,hg0,hfr,hin,how,zE,As,Ay,AV]))
   | false =>
    rw [hv] at hS
    simp only [z7] at hS
    cases hf:dec (n∈p.fv []) with
    | false =>
     rw [hf] at hS hin
     simp only [Bool.not_false,cond_true] at hS
     rw [hS]
     dsimp only
     cases o8:dec (x.op=8) with
     | true =>
      refine Ai Cf A6 (of_decide_eq_true rfl) ?_
      simp (disch:=omega) only [BU,go_sem,h3,o8,hq,hv,hg0,hfr,hin,how,zE,As,Ay,AV]
      repeat ((first | (refine Aw ?_ ?_; (focus (simp (disch:=omega) only [go_sem,h3,o8,hq,hv,hg0,hfr,hin,how,zE,As,Ay,AV]; done))) | (refine Ax ?_ ?_; (focus (simp (disch:=omega) only [go_sem,h3,o8,hq,hv,hg0,hfr,hin,how,zE,As,Ay,AV]; done)))); (try simp (disch:=omega) only [go_sem,h3,o8,hq,hv,hg0,hfr,hin,how,zE,As,Ay,AV]))
     | false =>
      rw [o8,z7] at hq
      refine Ai Cf A6 (of_decide_eq_true rfl) ?_
      simp (disch:=omega) only [BU,go_sem,h3,o8,hq,hv,hg0,hfr,hin,how,zE,As,Ay,AV]
      repeat ((first | (refine Aw ?_ ?_; (focus (simp (disch:=omega) only [go_sem,h3,o8,hq,hv,hg0,hfr,hin,how,zE,As,Ay,AV]; done))) | (refine Ax ?_ ?_; (focus (simp (disch:=omega) only [go_sem,h3,o8,hq,hv,hg0,hfr,hin,how,zE,As,Ay,AV]; done)))); (try simp (disch:=omega) only [go_sem,h3,o8,hq,hv,hg0,hfr,hin,how,zE,As,Ay,AV]))
    | true =>
     rw [hf] at hS hin
     simp only [Bool.not_true,cond_false] at hS
     cases ho:dec (x.var∈t.vs) with
     | true =>
      rw [ho] at hS hin2
      simp only [cond_true] at hS
      rw [hS]
      have hsr:(Fm.mk x.op (.mk ⟨#[]⟩ []) x.var []).sv=.agg [.int .i64 x.op,.str ⟨#[]⟩,.arr [],.str x.var,.arr []]:=rfl
      dsimp only
      rw [hsr]
      cases o8:dec (x.op=8) with
      | true =>
       refine Ai Cf A6 (of_decide_eq_true rfl) ?_
       simp (disch:=omega) only [BU,go_sem,h3,o8,hq,hv,hg0,hfr,hin,hva,hin2,zE,As,Ay,AN]
       repeat ((first | (refine Aw ?_ ?_; (focus (simp (disch:=omega) only [go_sem,h3,o8,hq,hv,hg0,hfr,hin,hva,hin2,zE,As,Ay,AN]; done))) | (refine Ax ?_ ?_; (focus (simp (disch:=omega) only [go_sem,h3,o8,hq,hv,hg0,hfr,hin,hva,hin2,zE,As,Ay,AN]; done)))); (try simp (disch:=omega) only [go_sem,h3,o8,hq,hv,hg0,hfr,hin,hva,hin2,zE,As,Ay,AN]))
      | false =>
       rw [o8,z7] at hq
       refine Ai Cf A6 (of_decide_eq_true rfl) ?_
       simp (disch:=omega) only [BU,go_sem,h3,o8,hq,hv,hg0,hfr,hin,hva,hin2,zE,As,Ay,AN]
       repeat ((first | (refine Aw ?_ ?_; (focus (simp (disch:=omega) only [go_sem,h3,o8,hq,hv,hg0,hfr,hin,hva,hin2,zE,As,Ay,AN]; done))) | (refine Ax ?_ ?_; (focus (simp (disch:=omega) only [go_sem,h3,o8,hq,hv,hg0,hfr,hin,hva,hin2,zE,As,Ay,AN]; done)))); (try simp (disch:=omega) only [go_sem,h3,o8,hq,hv,hg0,hfr,hin,hva,hin2,zE,As,Ay,AN]))
     | false =>
      rw [ho] at hS hin2
      simp only [cond_false] at hS
      rw [hS]
      cases o8:dec (x.op=8) with
      | true =>
       refine Ai Cf A6 (of_decide_eq_true rfl) ?_
       simp (disch:=omega) only [BU,go_sem,h3,o8,hq,hv,hg0,hfr,hin,hva,hin2,zE,As,Ay,AN]
       repeat ((first | (refine Aw ?_ ?_; (focus (simp (disch:=omega) only [go_sem,h3,o8,hq,hv,hg0,hfr,hin,hva,hin2,zE,As,Ay,AN]; done))) | (refine Ax ?_ ?_; (focus (simp (disch:=omega) only [go_sem,h3,o8,hq,hv,hg0,hfr,hin,hva,hin2,zE,As,Ay,AN]; done)))); (try simp (disch:=omega) only [go_sem,h3,o8,hq,hv,hg0,hfr,hin,hva,hin2,zE,As,Ay,AN]))
       refine go_loop (α:=Int) (fun a=>⟨slots 90 0 [(1,.str n),(3,.ptr 0 0),(5,.ptr 1 0),(6,.ptr 2 0),(8,.ptr 3 0),(9,.int .i64 a)],(if a=0 then [.box 29 [.int .i64 x.op,.str x.atom.name,.arr (x.atom.args.map Tm.d),.str x.var,.arr (x.parts.map Fm.d)],.box 26 [.str t.name,.arr (t.args.map Tm.d)],.box 29 [.int .i64 0,.str ⟨#[]⟩,.nil,.str ⟨#[]⟩,.nil],.box 29 [.int .i64 x.op,.str ⟨#[]⟩,.nil,.str x.var,.nil]] else [.box 29 [.int .i64 x.op,.str x.atom.name,.arr (x.atom.args.map Tm.d),.str x.var,.arr (x.parts.map Fm.d)],.box 26 [.str t.name,.arr (t.args.map Tm.d)],.box 29 [.int .i64 0,.str ⟨#[]⟩,.nil,.str ⟨#[]⟩,.nil],.box 29 [.int .i64 x.op,.str ⟨#[]⟩,.nil,.str x.var,.ref 4],.row 29 5 ((ps.take a.toNat).map Fm.osh)])⟩) (fun a=>∃ k:Nat,a=k∧k≤(x.parts).length∧Fm.BS n t x.parts=(ps.take k++(Fm.BS n t (x.parts.drop k)).1,(Fm.BS n t (x.parts.drop k)).2)) (fun a=>(x.parts).length-(a).toNat) 0 ⟨0,rfl,zK _,by rw [zN,zV,zJ]⟩ (by simp (disch:=omega) only [go_sem,Ab,eq_self,if_true]) ?_
       rintro i ⟨k,hi,hk,hR⟩
       have hni:i.toNat=k:=by omega
       have hni1:(i+1).toNat=k+1:=by omega
       rcases zC k (x.parts).length with hlt | hge
       ·have hgt:=get_at Fm.d hlt
        rw [Fm.d_eq] at hgt
        have hc:=ih x.parts[k] (zG hlt)
        have hltm:k<ps.length:=by rw [hps,zO]; exact hlt
        have hse:=EB Fm.osh hltm
        have hpk:ps[k]=(x.parts[k].subS n t).1:=by simp only [hps,yJ]
        rw [hpk,Fm.osh_eq] at hse
        rw [zB hlt,Fm.BS] at hR
        have htk:ps.take (k+1)=ps.take k++[(x.parts[k].subS n t).1]:=by rw [zL hltm,hpk]
        have htl:(ps.take k).length=k:=by rw [zT]; omega
        have hfk:=Fm.osh_full (ps.take k)
        have hek:=Fm.osh_er (ps.take k)
        unfold Qa at hc
        cases hok:(x.parts[k].subS n t).2 with
        | false =>
         rw [hok] at hc hR
         simp only [cond_false,z6] at hR
         rw [hR]
         dsimp only
         have hsvk:(Fm.mk x.op (.mk ⟨#[]⟩ []) x.var (ps.take k)).sv=.agg [.int .i64 x.op,.str ⟨#[]⟩,.arr [],.str x.var,.arr ((ps.take k).map Fm.d)]:=rfl
         rw [hsvk]
         rcases zI k with h0 | h0
         ·subst h0
          obtain rfl:i=0:=hi
          rw [zN,zH]
          simp (disch:=omega) only [go_sem,Ab,hni,hgt,hc,A6,eq_self,if_true]
         ·have hi0:(i=0)=False:=by simp; omega
          simp (disch:=omega) only [go_sem,Ab,hni,hgt,hc,A6,hi0,if_false,htl,hfk,hek]
        | true =>
         rw [hok] at hc hR
         simp only [cond_true] at hR
         have hR':Fm.BS n t x.parts=(ps.take (k+1)++(Fm.BS n t (x.parts.drop (k+1))).1,(Fm.BS n t (x.parts.drop (k+1))).2):=by
          rw [hR,htk,yF]; rfl
         rcases zI k with h0 | h0
         ·subst h0
          obtain rfl:i=0:=hi
          rw [zN,zH,zV] at hse
          simp (disch:=omega) only [go_sem,Ab,hni,hgt,hc,A6,eq_self,if_true]
          refine ⟨1,⟨1,rfl,hlt,hR'⟩,by omega,?_⟩
          simp (disch:=omega) only [go_sem,Ab,h10,if_false,hse]
         ·have hi0:(i=0)=False:=by simp; omega
          have hi1:(i+1=0)=False:=by simp; omega
          simp (disch:=omega) only [go_sem,Ab,hni,hgt,hc,A6,hi0,if_false,htl,hfk,hek]
          refine ⟨i+1,⟨k+1,by omega,hlt,hR'⟩,by omega,?_⟩
          simp (disch:=omega) only [go_sem,Ab,hni1,hi1,if_false,hse]
       ·obtain rfl:k=x.parts.length:=by omega
        have hta:ps.take x.parts.length=ps:=zU (by rw [hps,zO]; omega)
        have hfu:=Fm.osh_full ps
        have her:=Fm.osh_er ps
        rw [zF hge,Fm.BS,z6,hta] at hR
        rw [hR]
        dsimp only
        have hsvk:(Fm.mk x.op (.mk ⟨#[]⟩ []) x.var ps).sv=.agg [.int .i64 x.op,.str ⟨#[]⟩,.arr [],.str x.var,.arr (ps.map Fm.d)]:=rfl
        rw [hsvk]
        rcases zI x.parts.length with h0 | h0
        ·have hx:x.parts=[]:=zQ h0
         have hp0:ps=[]:=by rw [hps,hx]; rfl
         obtain rfl:i=0:=by omega
         rw [hp0,zH]
         exfalso
         omega
        ·have hi0:(i=0)=False:=by simp; omega
         simp (disch:=omega) only [go_sem,Ab,hni,hi0,if_false,hta,hfu,her]
      | false =>
       rw [o8,z7] at hq
       refine Ai Cf A6 (of_decide_eq_true rfl) ?_
       simp (disch:=omega) only [BU,go_sem,h3,o8,hq,hv,hg0,hfr,hin,hva,hin2,zE,As,Ay,AN]
       repeat ((first | (refine Aw ?_ ?_; (focus (simp (disch:=omega) only [go_sem,h3,o8,hq,hv,hg0,hfr,hin,hva,hin2,zE,As,Ay,AN]; done))) | (refine Ax ?_ ?_; (focus (simp (disch:=omega) only [go_sem,h3,o8,hq,hv,hg0,hfr,hin,hva,hin2,zE,As,Ay,AN]; done)))); (try simp (disch:=omega) only [go_sem,h3,o8,hq,hv,hg0,hfr,hin,hva,hin2,zE,As,Ay,AN]))
       refine go_loop (α:=Int) (fun a=>⟨slots 90 0 [(1,.str n),(3,.ptr 0 0),(5,.ptr 1 0),(6,.ptr 2 0),(8,.ptr 3 0),(9,.int .i64 a)],(if a=0 then [.box 29 [.int .i64 x.op,.str x.atom.name,.arr (x.atom.args.map Tm.d),.str x.var,.arr (x.parts.map Fm.d)],.box 26 [.str t.name,.arr (t.args.map Tm.d)],.box 29 [.int .i64 0,.str ⟨#[]⟩,.nil,.str ⟨#[]⟩,.nil],.box 29 [.int .i64 x.op,.str ⟨#[]⟩,.nil,.str x.var,.nil]] else [.box 29 [.int .i64 x.op,.str x.atom.name,.arr (x.atom.args.map Tm.d),.str x.var,.arr (x.parts.map Fm.d)],.box 26 [.str t.name,.arr (t.args.map Tm.d)],.box 29 [.int .i64 0,.str ⟨#[]⟩,.nil,.str ⟨#[]⟩,.nil],.box 29 [.int .i64 x.op,.str ⟨#[]⟩,.nil,.str x.var,.ref 4],.row 29 5 ((ps.take a.toNat).map Fm.osh)])⟩) (fun a=>∃ k:Nat,a=k∧k≤(x.parts).length∧Fm.BS n t x.parts=(ps.take k++(Fm.BS n t (x.parts.drop k)).1,(Fm.BS n t (x.parts.drop k)).2)) (fun a=>(x.parts).length-(a).toNat) 0 ⟨0,rfl,zK _,by rw [zN,zV,zJ]⟩ (by simp (disch:=omega) only [go_sem,Ab,eq_self,if_true]) ?_
       rintro i ⟨k,hi,hk,hR⟩
       have hni:i.toNat=k:=by omega
       have hni1:(i+1).toNat=k+1:=by omega
       rcases zC k (x.parts).length with hlt | hge
       ·have hgt:=get_at Fm.d hlt
        rw [Fm.d_eq] at hgt
        have hc:=ih x.parts[k] (zG hlt)
        have hltm:k<ps.length:=by rw [hps,zO]; exact hlt
        have hse:=EB Fm.osh hltm
        have hpk:ps[k]=(x.parts[k].subS n t).1:=by simp only [hps,yJ]
        rw [hpk,Fm.osh_eq] at hse
        rw [zB hlt,Fm.BS] at hR
        have htk:ps.take (k+1)=ps.take k++[(x.parts[k].subS n t).1]:=by rw [zL hltm,hpk]
        have htl:(ps.take k).length=k:=by rw [zT]; omega
        have hfk:=Fm.osh_full (ps.take k)
        have hek:=Fm.osh_er (ps.take k)
        unfold Qa at hc
        cases hok:(x.parts[k].subS n t).2 with
        | false =>
         rw [hok] at hc hR
         simp only [cond_false,z6] at hR
         rw [hR]
         dsimp only
         have hsvk:(Fm.mk x.op (.mk ⟨#[]⟩ []) x.var (ps.take k)).sv=.agg [.int .i64 x.op,.str ⟨#[]⟩,.arr [],.str x.var,.arr ((ps.take k).map Fm.d)]:=rfl
         rw [hsvk]
         rcases zI k with h0 | h0
         ·subst h0
          obtain rfl:i=0:=hi
          rw [zN,zH]
          simp (disch:=omega) only [go_sem,Ab,hni,hgt,hc,A6,eq_self,if_true]
         ·have hi0:(i=0)=False:=by simp; omega
          simp (disch:=omega) only [go_sem,Ab,hni,hgt,hc,A6,hi0,if_false,htl,hfk,hek]
        | true =>
         rw [hok] at hc hR
         simp only [cond_true] at hR
         have hR':Fm.BS n t x.parts=(ps.take (k+1)++(Fm.BS n t (x.parts.drop (k+1))).1,(Fm.BS n t (x.parts.drop (k+1))).2):=by
          rw [hR,htk,yF]; rfl
         rcases zI k with h0 | h0
         ·subst h0
          obtain rfl:i=0:=hi
          rw [zN,zH,zV] at hse
          simp (disch:=omega) only [go_sem,Ab,hni,hgt,hc,A6,eq_self,if_true]
          refine ⟨1,⟨1,rfl,hlt,hR'⟩,by omega,?_⟩
          simp (disch:=omega) only [go_sem,Ab,h10,if_false,hse]
         ·have hi0:(i=0)=False:=by simp; omega
          have hi1:(i+1=0)=False:=by simp; omega
          simp (disch:=omega) only [go_sem,Ab,hni,hgt,hc,A6,hi0,if_false,htl,hfk,hek]
          refine ⟨i+1,⟨k+1,by omega,hlt,hR'⟩,by omega,?_⟩
          simp (disch:=omega) only [go_sem,Ab,hni1,hi1,if_false,hse]
       ·obtain rfl:k=x.parts.length:=by omega
        have hta:ps.take x.parts.length=ps:=zU (by rw [hps,zO]; omega)
        have hfu:=Fm.osh_full ps
        have her:=Fm.osh_er ps
        rw [zF hge,Fm.BS,z6,hta] at hR
        rw [hR]
        dsimp only
        have hsvk:(Fm.mk x.op (.mk ⟨#[]⟩ []) x.var ps).sv=.agg [.int .i64 x.op,.str ⟨#[]⟩,.arr [],.str x.var,.arr (ps.map Fm.d)]:=rfl
        rw [hsvk]
        rcases zI x.parts.length with h0 | h0
        ·have hx:x.parts=[]:=zQ h0
         have hp0:ps=[]:=by rw [hps,hx]; rfl
         obtain rfl:i=0:=by omega
         rw [hp0,zH]
         exfalso
         omega
        ·have hi0:(i=0)=False:=by simp; omega
         simp (disch:=omega) only [go_sem,Ab,hni,hi0,if_false,hta,hfu,her]
theorem RU (n:ByteArray) (t:Tm) (hn:Bs n=true) (ht:t.valid=true) (x:Fm) (hx:x.forms=true) (hsz:x.nodes≤40) (hta0:x.tame):Qa n t x :=
 UQ n t hn ht x hx hsz hta0 fun y hy=>RU n t hn ht y (Fm.Co hx hy) (by have:=Fm.nodes_mem hy; have:=Fm.nodes_eq x; omega) (Fm.Fg hta0 hy)
termination_by SizeOf.sizeOf x
decreasing_by exact Fm.lt_of_mem hy
def Ex:SC:=(.seq (.reg [⟨some 1,none,.boxv 29 5 (.t 0)⟩,⟨(some 2),none,(.alloc 29 [(.int .i64 0),(.str ⟨#[]⟩),.nil,(.str ⟨#[]⟩),.nil])⟩,⟨some 3,none,.mv (.c (.bool false))⟩]) (.seq (.seq (.reg [⟨some 4,none,.load true 5 (.t 1)⟩,⟨some 5,none,.call 15 [(.t 4)]⟩,⟨some 6,none,.un .not (.t 5)⟩]) (.cond (.t 6) (.seq (.reg [⟨(some 7),none,(.build [(.int .i64 0),(.str ⟨#[]⟩),.nil,(.str ⟨#[]⟩),.nil] [])⟩,⟨none,none,(.store 5 (.t 2) (.t 7))⟩,⟨some 3,none,.mv (.c (.bool false))⟩]) .ret) .skip)) (.seq (.reg [⟨some 8,none,.load true 5 (.t 1)⟩,⟨none,none,(.store 5 (.t 2) (.t 8))⟩,⟨some 3,none,.mv (.c (.bool true))⟩]) .ret)))
theorem G5:Ar Tryz.prog 19=some ⟨9,Ex,[(.cell 2 true 5),(.tmp 3)]⟩:=by kernel_rfl
theorem BL:modes 19=⟨[true],.own [none,none,some (26,2),none,some (29,5),none],none,false⟩:=by unfold modes; rfl
theorem MJ (y:Fm) (hy:y.tame) (hn:y.nodes≤1099511627776) (hv:y.valid=true):E 19 [y.osv] y.obs=some (.tup [y.osv,.bool true],y.obs):=by
 have h:=Eu y hy hn
 rw [hv] at h
 refine Ai G5 BL (of_decide_eq_true rfl) ?_
 simp (disch:=omega) only [Ex,go_sem,Ab,h,AP,Fm.osv,Fm.obs,Tm.erss,Tm.noss,Fm.erss,Fm.noss]
theorem OC (y:Fm) (hy:y.tame) (hn:y.nodes≤1099511627776) (hv:y.valid=false):E 19 [y.osv] y.obs=some (.tup [.agg [.int .i64 0,.str ⟨#[]⟩,.ref 2,.str ⟨#[]⟩,.ref 3],.bool false],[.row 26 2 (y.atom.args.map Tm.o),.row 29 5 (y.parts.map Fm.o),.row 26 2 [],.row 29 5 []]):=by
 have h:=Eu y hy hn
 rw [hv] at h
 refine Ai G5 BL (of_decide_eq_true rfl) ?_
 simp (disch:=omega) only [Ex,go_sem,Ab,h,AP,Fm.osv,Fm.obs,Tm.erss,Tm.noss,Fm.erss,Fm.noss]
theorem Fm.Mu (n:ByteArray) (t:Tm) (ht:t.valid=true) (x:Fm) (h:x.forms=true):(x.subP n t).1.tame∧(x.subP n t).1.nodes≤x.nodes:=by
 have ih:∀ y∈x.parts,(y.subP n t).1.tame∧(y.subP n t).1.nodes≤y.nodes:=fun y hy=>Fm.Mu n t ht y (Fm.Co h hy)
 have h1:=Fm.FK (Fm.Cr h)
 rw [Fm.KP]
 cases x.stays n with
 | true=>exact ⟨Fm.GK x h,yD _⟩
 | false =>
  simp only [cond_false]
  cases qB x.op&&dec (x.var∈t.vs) with
  | true =>
   simp only [cond_true]
   refine ⟨?_,?_⟩
   ·rw [Fm.GJ]
    exact ⟨by show Tm.zero.nodes≤_; rw [Tm.nodes_eq]; show 1+Tm.nodeS []≤_; rw [Tm.nodeS]; omega,by show Fm.CO []; rw [Fm.CO]; trivial⟩
   ·have:=Fm.nodes_pos x
    rw [Fm.nodes_eq Fm.zero]
    show 1+Fm.nodeS []≤_
    rw [Fm.nodeS]; omega
  | false =>
   simp only [cond_false]
   have key:∀ xs:List Fm,(∀ y∈xs,y∈x.parts)→Fm.CO (xs.map fun y=>(y.subP n t).1)∧Fm.nodeS (xs.map fun y=>(y.subP n t).1)≤Fm.nodeS xs:=by
    intro xs
    induction xs with
    | nil=>intro _; rw [zH,Fm.CO]; exact ⟨trivial,yD _⟩
    | cons y ys ihy =>
     intro hm
     have e1:=ih y (hm y (by simp))
     have e2:=ihy fun z hz=>hm z (by simp [hz])
     rw [zP,Fm.CO,Fm.nodeS,Fm.nodeS]
     exact ⟨⟨e1.1,e2.1⟩,by omega⟩
   have hk:=key x.parts fun y hy=>hy
   refine ⟨?_,?_⟩
   ·rw [Fm.GJ]
    refine ⟨?_,hk.1⟩
    show (bif dec (x.op=3) then x.atom.ap (Sb.mk [⟨n,t⟩]).look else x.atom).nodes≤_
    have ha:=Tm.LH (Mt (n:=n) ht) x.atom
    cases dec (x.op=3) with
    | true=>simp only [cond_true]; omega
    | false=>simp only [cond_false]; omega
   ·rw [Fm.nodes_eq,Fm.nodes_eq]
    simp only [Fm.LO]
    omega
termination_by SizeOf.sizeOf x
decreasing_by exact Fm.lt_of_mem hy
def Bl:SC:=(.seq (.reg [⟨some 3,none,.boxv 29 5 (.t 0)⟩,⟨some 5,none,.boxv 26 2 (.t 2)⟩,⟨(some 6),none,(.alloc 29 [(.int .i64 0),(.str ⟨#[]⟩),.nil,(.str ⟨#[]⟩),.nil])⟩,⟨some 7,none,.mv (.c (.bool false))⟩]) (.seq (.seq (.reg [⟨some 10,none,.load true 5 (.t 3)⟩,⟨some 11,none,.call 15 [(.t 10)]⟩,⟨some 12,none,.un .not (.t 11)⟩,⟨some 13,none,.mv (.t 12)⟩,⟨(some 14),(some (13,false)),(.mv (.t 1))⟩,⟨(some 15),(some (13,false)),(.call 16 [(.t 14)])⟩,⟨(some 16),(some (13,false)),(.un .not (.t 15))⟩,⟨some 17,none,.pick (.t 13) (.c (.bool true)) (.t 16)⟩,⟨some 18,none,.mv (.t 17)⟩,⟨(some 19),(some (18,false)),(.load true 2 (.t 5))⟩,⟨(some 20),(some (18,false)),(.call 17 [(.t 19)])⟩,⟨(some 21),(some (18,false)),(.un .not (.t 20))⟩,⟨some 22,none,.pick (.t 18) (.c (.bool true)) (.t 21)⟩]) (.cond (.t 22) (.seq (.reg [⟨(some 23),none,(.build [(.int .i64 0),(.str ⟨#[]⟩),.nil,(.str ⟨#[]⟩),.nil] [])⟩,⟨none,none,(.store 5 (.t 6) (.t 23))⟩,⟨some 7,none,.mv (.c (.bool false))⟩]) .ret) .skip)) (.seq (.reg [⟨some 25,none,.load true 5 (.t 3)⟩,⟨some 26,none,.mv (.t 1)⟩,⟨some 27,none,.load true 2 (.t 5)⟩,⟨some 28,none,.call 18 [(.t 25),(.t 26),(.t 27)]⟩,⟨some 24,none,.mv (.t 28)⟩,⟨some 29,none,.ext (.t 24) 0⟩,⟨some 30,none,.ext (.t 24) 1⟩,⟨(some 8),none,(.alloc 29 [(.int .i64 0),(.str ⟨#[]⟩),.nil,(.str ⟨#[]⟩),.nil])⟩,⟨none,none,(.store 5 (.t 8) (.t 29))⟩,⟨some 9,none,.mv (.t 30)⟩]) (.seq (.seq (.reg [⟨some 31,none,.mv (.t 9)⟩,⟨some 32,none,.un .not (.t 31)⟩]) (.cond (.t 32) (.seq (.reg [⟨(some 33),none,(.build [(.int .i64 0),(.str ⟨#[]⟩),.nil,(.str ⟨#[]⟩),.nil] [])⟩,⟨none,none,(.store 5 (.t 6) (.t 33))⟩,⟨some 7,none,.mv (.c (.bool false))⟩]) .ret) .skip)) (.seq (.reg [⟨some 34,none,.load true 5 (.t 8)⟩,⟨some 35,none,.call 19 [(.t 34)]⟩,⟨some 36,none,.ext (.t 35) 0⟩,⟨some 37,none,.ext (.t 35) 1⟩,⟨none,none,(.store 5 (.t 6) (.t 36))⟩,⟨some 7,none,.mv (.t 37)⟩]) .ret)))))
theorem By:Ar Tryz.prog 6=some ⟨38,Bl,[(.cell 6 true 5),(.tmp 7)]⟩:=by kernel_rfl
theorem AB:modes 6=⟨[],.own [none,none,some (26,2),none,some (29,5),none],none,false⟩:=by unfold modes; rfl
def Bz:SC:=(.seq (.reg [⟨some 3,none,.boxv 29 5 (.t 0)⟩,⟨some 5,none,.boxv 26 2 (.t 2)⟩,⟨(some 6),none,(.alloc 29 [(.int .i64 0),(.str ⟨#[]⟩),.nil,(.str ⟨#[]⟩),.nil])⟩,⟨some 7,none,.mv (.c (.bool false))⟩]) (.seq (.seq (.reg [⟨some 10,none,.load true 5 (.t 3)⟩,⟨some 11,none,.call 20 [(.t 10)]⟩,⟨some 12,none,.un .not (.t 11)⟩,⟨some 13,none,.mv (.t 12)⟩,⟨(some 14),(some (13,false)),(.mv (.t 1))⟩,⟨(some 15),(some (13,false)),(.call 21 [(.t 14)])⟩,⟨(some 16),(some (13,false)),(.un .not (.t 15))⟩,⟨some 17,none,.pick (.t 13) (.c (.bool true)) (.t 16)⟩,⟨some 18,none,.mv (.t 17)⟩,⟨(some 19),(some (18,false)),(.load true 2 (.t 5))⟩,⟨(some 20),(some (18,false)),(.call 22 [(.t 19)])⟩,⟨(some 21),(some (18,false)),(.un .not (.t 20))⟩,⟨some 22,none,.pick (.t 18) (.c (.bool true)) (.t 21)⟩]) (.cond (.t 22) (.seq (.reg [⟨(some 23),none,(.build [(.int .i64 0),(.str ⟨#[]⟩),.nil,(.str ⟨#[]⟩),.nil] [])⟩,⟨none,none,(.store 5 (.t 6) (.t 23))⟩,⟨some 7,none,.mv (.c (.bool false))⟩]) .ret) .skip)) (.seq (.reg [⟨some 25,none,.load true 5 (.t 3)⟩,⟨some 26,none,.mv (.t 1)⟩,⟨some 27,none,.load true 2 (.t 5)⟩,⟨some 28,none,.call 23 [(.t 25),(.t 26),(.t 27)]⟩,⟨some 24,none,.mv (.t 28)⟩,⟨some 29,none,.ext (.t 24) 0⟩,⟨some 30,none,.ext (.t 24) 1⟩,⟨(some 8),none,(.alloc 29 [(.int .i64 0),(.str ⟨#[]⟩),.nil,(.str ⟨#[]⟩),.nil])⟩,⟨none,none,(.store 5 (.t 8) (.t 29))⟩,⟨some 9,none,.mv (.t 30)⟩]) (.seq (.seq (.reg [⟨some 31,none,.mv (.t 9)⟩,⟨some 32,none,.un .not (.t 31)⟩]) (.cond (.t 32) (.seq (.reg [⟨(some 33),none,(.build [(.int .i64 0),(.str ⟨#[]⟩),.nil,(.str ⟨#[]⟩),.nil] [])⟩,⟨none,none,(.store 5 (.t 6) (.t 33))⟩,⟨some 7,none,.mv (.c (.bool false))⟩]) .ret) .skip)) (.seq (.reg [⟨some 34,none,.load true 5 (.t 8)⟩,⟨none,none,(.store 5 (.t 6) (.t 34))⟩,⟨some 7,none,.mv (.c (.bool true))⟩]) .ret)))))
theorem BE:Ar Tryz.prog 7=some ⟨35,Bz,[(.cell 6 true 5),(.tmp 7)]⟩:=by kernel_rfl
theorem AD:modes 7=⟨[],.frz,none,false⟩:=by unfold modes; rfl
noncomputable def J7 (n:ByteArray) (t:Tm) (x:Fm):Bool:=x.valid&&(Bs n&&(t.valid&&(x.subS n t).2))
noncomputable def G6 (n:ByteArray) (t:Tm) (x:Fm):Fm:=bif J7 n t x then (x.subS n t).1 else Fm.zero
theorem Ic (n:ByteArray) (t:Tm) (x:Fm) (hta:x.tame) (hn:x.nodes≤1099511627776) (htn:t.nodes≤1099511627776):E 6 [x.sv,.str n,t.sv] []=some (.tup [(G6 n t x).osv,.bool (J7 n t x)],(G6 n t x).obs):=by
 have h1:=Eu x hta hn
 have h2:=C1 n
 have h3:=Iq t htn
 have hxs:x.sv=.agg [.int .i64 x.op,.str x.atom.name,.arr (x.atom.args.map Tm.d),.str x.var,.arr (x.parts.map Fm.d)]:=rfl
 have htv:t.sv=.agg [.str t.name,.arr (t.args.map Tm.d)]:=rfl
 have hz1:Fm.zero.osv=.agg [.int .i64 0,.str ⟨#[]⟩,.ref 0,.str ⟨#[]⟩,.ref 1]:=rfl
 have hz2:Fm.zero.obs=[.row 26 2 [],.row 29 5 []]:=rfl
 unfold G6 J7
 cases hv:x.valid with
 | false =>
  rw [hv] at h1
  rw [zA,cond_false,hz1,hz2]
  refine Ai By AB (of_decide_eq_true rfl) ?_
  simp (disch:=omega) only [Bl,go_sem,Ab,h1,h2,h3,AP,Ae,AE,AG,BL,Fm.osv,Fm.obs]
 | true =>
  rw [hv] at h1
  rw [zD]
  cases hb:Bs n with
  | false =>
   rw [hb] at h2
   rw [zA,cond_false,hz1,hz2]
   refine Ai By AB (of_decide_eq_true rfl) ?_
   simp (disch:=omega) only [Bl,go_sem,Ab,h1,h2,h3,AP,Ae,AE,AG,BL,Fm.osv,Fm.obs]
  | true =>
   rw [hb] at h2
   rw [zD]
   cases ht:t.valid with
   | false =>
    rw [ht] at h3
    rw [zA,cond_false,hz1,hz2]
    refine Ai By AB (of_decide_eq_true rfl) ?_
    simp (disch:=omega) only [Bl,go_sem,Ab,h1,h2,h3,AP,Ae,AE,AG,BL,Fm.osv,Fm.obs]
   | true =>
    rw [ht] at h3
    rw [zD]
    have hva:=hv
    unfold Fm.valid at hva
    rw [zM,decide_eq_true_eq] at hva
    obtain ⟨hva1,hva2⟩:=hva
    have hs:=I7 n t hb ht x hva2 hva1 (Fm.GK x hva2)
    obtain ⟨hb1,hb2⟩:=Fm.Md n t x hva2
    obtain ⟨hp1,hp2⟩:=Fm.Mu n t ht x hva2
    unfold QW at hs
    cases hq:(x.subS n t).2 with
    | true =>
     obtain ⟨e1,e2,e3⟩:=hb1 hq
     rw [e1] at hs hp1 hp2
     rw [cond_true]
     dsimp only at hs hp1 hp2
     have hval:(x.subS n t).1.valid=true:=by unfold Fm.valid; rw [e2,e3,decide_eq_true hva1]; rfl
     generalize (x.subS n t).1=y at *
     have hi:=MJ y hp1 (by omega) hval
     refine Ai By AB (of_decide_eq_true rfl) ?_
     simp (disch:=omega) only [Bl,go_sem,Ab,h1,h2,h3,hs,hi,AP,Ae,AE,AG,BL,Fm.osv,Fm.obs]
    | false =>
     have hno:=hb2 hq
     rw [cond_false,hz1,hz2]
     generalize x.subP n t=r at *
     obtain ⟨y,ok⟩:=r
     dsimp only at hs hp1 hp2 hno
     cases ok with
     | false =>
      refine Ai By AB (of_decide_eq_true rfl) ?_
      simp (disch:=omega) only [Bl,go_sem,Ab,h1,h2,h3,hs,AP,Ae,AE,AG,BL,Fm.osv,Fm.obs]
     | true =>
      have hval:y.valid=false:=by
       unfold Fm.valid
       rcases hno with h | h
       ·cases h
       ·rw [h,zY]
      have hi:=OC y hp1 (by omega) hval
      refine Ai By AB (of_decide_eq_true rfl) ?_
      simp (disch:=omega) only [Bl,go_sem,Ab,h1,h2,h3,hs,hi,AP,Ae,AE,AG,BL,Fm.osv,Fm.obs]
theorem Hh (n:ByteArray) (t:Tm) (x:Fm) (hta:x.tame) (hn:x.nodes≤1099511627776) (htn:t.nodes≤1099511627776):E 7 [x.sv,.str n,t.sv] []=some (.tup [(G6 n t x).sv,.bool (J7 n t x)],[]):=by
 have h1:=UI x hta hn
 have h3:=P3 t htn
 have hxs:x.sv=.agg [.int .i64 x.op,.str x.atom.name,.arr (x.atom.args.map Tm.d),.str x.var,.arr (x.parts.map Fm.d)]:=rfl
 have htv:t.sv=.agg [.str t.name,.arr (t.args.map Tm.d)]:=rfl
 have hz1:Fm.zero.sv=.agg [.int .i64 0,.str ⟨#[]⟩,.arr [],.str ⟨#[]⟩,.arr []]:=rfl
 unfold G6 J7
 cases hv:x.valid with
 | false =>
  rw [hv] at h1
  rw [zA,cond_false,hz1]
  refine Ai BE AD (of_decide_eq_true rfl) ?_
  simp (disch:=omega) only [Bz,go_sem,Ab,h1,h3,CB,Ak,CG,Bu,A6]
 | true =>
  rw [hv] at h1
  rw [zD]
  cases hb:Bs n with
  | false =>
   rw [zA,cond_false,hz1]
   refine Ai BE AD (of_decide_eq_true rfl) ?_
   simp (disch:=omega) only [Bz,go_sem,Ab,h1,h3,hb,CB,Ak,CG,Bu,A6]
  | true =>
   rw [zD]
   cases ht:t.valid with
   | false =>
    rw [ht] at h3
    rw [zA,cond_false,hz1]
    refine Ai BE AD (of_decide_eq_true rfl) ?_
    simp (disch:=omega) only [Bz,go_sem,Ab,h1,h3,hb,CB,Ak,CG,Bu,A6]
   | true =>
    rw [ht] at h3
    rw [zD]
    have hva:=hv
    unfold Fm.valid at hva
    rw [zM,decide_eq_true_eq] at hva
    obtain ⟨hva1,hva2⟩:=hva
    have hs:=RU n t hb ht x hva2 hva1 (Fm.GK x hva2)
    unfold Qa at hs
    generalize x.subS n t=r at *
    obtain ⟨y,ok⟩:=r
    dsimp only at hs ⊢
    cases ok with
    | false =>
     rw [cond_false,hz1]
     refine Ai BE AD (of_decide_eq_true rfl) ?_
     simp (disch:=omega) only [Bz,go_sem,Ab,h1,h3,hb,hs,CB,Ak,CG,Bu,A6]
    | true =>
     rw [cond_true]
     refine Ai BE AD (of_decide_eq_true rfl) ?_
     simp (disch:=omega) only [Bz,go_sem,Ab,h1,h3,hb,hs,CB,Ak,CG,Bu,A6]
end Go.Proofs.YtkmenhhapfombaaGreat
