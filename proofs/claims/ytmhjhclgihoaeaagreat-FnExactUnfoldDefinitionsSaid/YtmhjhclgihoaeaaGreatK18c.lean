/-
  Texts of this claim, one behind the other, each built on those ahead of it. No condition.
-/
import Derived.Test.YtmhjhclgihoaeaaGreatK18b
import Derived.Shelf.Sort.Plain
import Derived.Sort.EncStr
import Derived.Shelf.Lays
import Derived.Test.YtmhjhclgihoaeaaGreatChecked
import Derived.Shelf.Slices.In.SortNone
set_option maxHeartbeats 16000000
open List renaming map_cons → zA, drop_eq_getElem_cons → zB, getElem_mem → zD, drop_eq_nil_of_le → zF, drop_zero → zH, length_map → zJ, length_cons → zL, getElem?_eq_getElem → zN, mem_cons → zQ, getElem?_append_right → zR, getD_eq_getElem?_getD → zS, eq_nil_of_length_eq_zero → zV, all_eq_true → zW, pairwise_iff_getElem → zX, getElem?_set_self → zZ, getElem?_map → z5, map_nil → z7, getElem_of_mem → z8, map_append → yA, append_nil → yB, pairwise_cons → yE, take_succ_eq_append_getElem → yG, getElem_cons_succ → yH, getElem?_eq_none → yI, getElem_map → yJ, nil_append → yL, length_set → yM, map_congr_left → yN, map → yP, any_cons → yQ, length_take → yR, any_eq_true → yS, set_set → yT, length_nil → yU, take_zero → yV, all_cons → yX
open Bool renaming and_self → zC, and_eq_true → zG, and_true → zK, or_eq_true → z4, or_eq_false_iff → z6, false_eq_true → yC, and_false → yO, false_and → yW, true_and → yY
open Nat renaming lt_or_ge → zE, zero_le → zI, le_refl → zY, eq_zero_or_pos → yD, sub_self → yF
open Option.some renaming inj → zM, injEq → zO
open Int renaming toNat_zero → zP
open List.cons renaming injEq → zT, inj → z9
open Prod.mk renaming injEq → zU, inj → yK
set_option maxRecDepth 100000
set_option linter.unusedSimpArgs false
set_option linter.unusedVariables false
set_option linter.unusedSectionVars false
namespace Go.Proofs.YtmhjhclgihoaeaaGreat
open Go.RowKit
theorem Tx (s:ByteArray) (w:World) (hs:s.size≤9223372036854775807):Calls Tryz.prog 79 #[.string s] w (Same w (.bool (BI s))):=by
  cases hin:inB s.size 1 4
  · go_enter Tryz.func79,Tryz.ntmps79
    go_wp2_with (first
      | (go_at_call 56; refine (HO _ _ _ _).mono ?_; rintro e w' ⟨rfl,rfl⟩))
    go_ret
    exact Same.mk' _ (by unfold BI; rw [hin]; simp)
  · have hpos:0<s.size:=by simp [inB] at hin; omega
    have Hb:=Lib.hid (EI hpos)
    go_enter Tryz.func79,Tryz.ntmps79
    go_wp2_with (first
      | (go_at_call 56; refine (HO _ _ _ _).mono ?_; rintro e w' ⟨rfl,rfl⟩))
    all_goals first
      | (go_ret
         refine Same.mk' _ ?_
         unfold BI
         rw [Dp hpos (by rw [←Hb.out]; simp [Jb,RI]; omega)]
         rfl)
      | skip
    · go_loopw [3] (fun i wr=>Cnt w s.size (fun k=>1≤k∧Dz Jb s k=true) i wr) (fun i _=>s.size-(intOf i).toNat)
      case atStart=>exact ⟨1,hpos,rfl,⟨zY _,by rw [EX,← Hb.out]; simp [Dz,Jb,RI]; omega⟩,rfl⟩
      case round =>
        obtain ⟨k,hk,rfl,⟨hk1,hok⟩,rfl⟩:=hrel
        have Hok:=Lib.hid hok
        clear hok
        by_cases hlt:k<s.size
        · have Hbk:=Lib.hid (EI hlt)
          have hk0:k≠0:=by omega
          go_wp2_with (first
            | (go_at_call 125; refine (LD _ _).mono ?_; rintro e w' ⟨rfl,rfl⟩))
          all_goals first
            | (go_ret
               refine Same.mk' _ ?_
               unfold BI
               rw [Dp hlt (by rw [←Hbk.out]; simp_all [Jb] <;> omega)]
               rfl)
            | (go_roundw
               case rel=>exact ⟨_,hlt,by go_num,⟨by omega,Hf Hok.out (by rw [←Hbk.out]; simp_all [Jb] <;> omega)⟩,rfl⟩
               case measure=>first | exact H5 hlt | (simp [intOf]; omega))
        · obtain rfl:k=s.size:=by omega
          go_wp2_with fail
          go_ret
          exact Same.mk' _ (by unfold BI; rw [Hok.out,hin]; rfl)
theorem SF (s:ByteArray):U2 s=(s.toList == [116,114,117,101] || s.toList == [102,97,108,115,101] || s.toList == [116,114,117,116,104] || s.toList == [98,111,116,104] || s.toList == [101,105,116,104,101,114] || s.toList == [105,102] || s.toList == [97,108,108] || s.toList == [115,111,109,101]):=by
 unfold U2 TQ words
 simp [List.range,List.range.loop,Bool.or_assoc]
theorem P6 (s:ByteArray) (w:World) (hs:s.size≤9223372036854775807):Calls Tryz.prog 80 #[.string s] w (Same w (.bool (Dw s))):=by
  cases hin:inB s.size 1 6
  · go_enter Tryz.func80,Tryz.ntmps80
    go_wp2_with (first
      | (go_at_call 56; refine (HO _ _ _ _).mono ?_; rintro e w' ⟨rfl,rfl⟩))
    go_ret
    exact Same.mk' _ (by unfold Dw; rw [hin]; simp)
  · have hpos:0<s.size:=by simp [inB] at hin; omega
    have Hb:=Lib.hid (EI hpos)
    cases hres:U2 s
    case true =>
      have Hres:=Lib.hid hres
      rw [SF] at hres
      go_enter Tryz.func80,Tryz.ntmps80
      go_wp2_with (first
        | (go_at_call 56; refine (HO _ _ _ _).mono ?_; rintro e w' ⟨rfl,rfl⟩))
      all_goals first
        | (go_ret
           refine Same.mk' _ ?_
           unfold Dw
           rw [Hres.out]; simp)
        | (exfalso; simp_all; done)
    have Hres:=Lib.hid hres
    rw [SF] at hres
    simp only [z6] at hres
    obtain ⟨⟨⟨⟨⟨⟨⟨e1,e2⟩,e3⟩,e4⟩,e5⟩,e6⟩,e7⟩,e8⟩:=hres
    go_enter Tryz.func80,Tryz.ntmps80
    go_wp2_with (first
      | (go_at_call 56; refine (HO _ _ _ _).mono ?_; rintro e w' ⟨rfl,rfl⟩))
    all_goals first
      | (go_ret
         refine Same.mk' _ ?_
         unfold Dw
         rw [Dp hpos (by rw [←Hb.out]; simp [HP,P3]; omega)]; rfl)
      | skip
    go_loopw [3] (fun i wr=>Cnt w s.size (fun k=>1≤k∧Dz HP s k=true) i wr) (fun i _=>s.size-(intOf i).toNat)
    case atStart=>exact ⟨1,hpos,rfl,⟨zY _,by rw [EX,← Hb.out]; simp [Dz,HP,He,P3]; omega⟩,rfl⟩
    case round =>
      obtain ⟨k,hk,rfl,⟨hk1,hok⟩,rfl⟩:=hrel
      have Hok:=Lib.hid hok
      clear hok
      by_cases hlt:k<s.size
      · have Hbk:=Lib.hid (EI hlt)
        have hk0:k≠0:=by omega
        go_wp2_with (first
          | (go_at_call 125; refine (LD _ _).mono ?_; rintro e w' ⟨rfl,rfl⟩))
        all_goals first
          | (go_ret
             refine Same.mk' _ ?_
             unfold Dw
             rw [Dp hlt (by rw [←Hbk.out]; simp_all [HP] <;> omega)]
             rfl)
          | (go_roundw
             case rel=>exact ⟨_,hlt,by go_num,⟨by omega,Hf Hok.out (by rw [←Hbk.out]; simp_all [HP] <;> omega)⟩,rfl⟩
             case measure=>first | exact H5 hlt | (simp [intOf]; omega))
      · obtain rfl:k=s.size:=by omega
        go_wp2_with fail
        go_ret
        exact Same.mk' _ (by unfold Dw; rw [Hok.out,hin,Hres.out]; rfl)
end Go.Proofs.YtmhjhclgihoaeaaGreat
set_option maxRecDepth 100000
set_option linter.unusedSimpArgs false
set_option linter.unusedVariables false
set_option linter.unusedSectionVars false
namespace Go.Proofs.YtmhjhclgihoaeaaGreat
open Go.RowKit Go.Shelf Go.Lib Go.Sort
def Yn:List OT→ByteArray
 | .str s :: _=>s
 | _=>⟨#[]⟩
end Go.Proofs.YtmhjhclgihoaeaaGreat
set_option maxRecDepth 100000
set_option linter.unusedSimpArgs false
set_option linter.unusedVariables false
set_option linter.unusedSectionVars false
namespace Go.Proofs.YtmhjhclgihoaeaaGreat
open Go.RowKit Go.Shelf Go.Lib Go.Sort
def srt (ss:List (List UInt8)):List (List UInt8):=ss.mergeSort fun x y=>decide (x≤y)
def XW (l:List UInt8):List OT:=[.str ⟨l.toArray⟩]
noncomputable def sortStr (xs:List SV) (ob:List Ob):Option (SV × List Ob) :=
 match xs,ob with
 | [.ref 0],[.row t sz es]=>bif dec (sz=1∧(∀ e∈es,∃ s,e=[.str s])∧es.length≤1099511627776) then some (.tup [],[.row t sz ((srt (es.map fun e=>(Yn e).toList)).map XW)]) else none
 | _,_=>none
end Go.Proofs.YtmhjhclgihoaeaaGreat
set_option maxRecDepth 100000
set_option linter.unusedSimpArgs false
set_option linter.unusedVariables false
set_option linter.unusedSectionVars false
namespace Go.Proofs.YtmhjhclgihoaeaaGreat
open Go.RowKit
abbrev Tm.sv (x:Tm):SV:=.agg [.str x.name,.arr (x.args.map Tm.d)]
mutual
def Tm.o:Tm→List OT
 | .mk name args=>[.str name,.ow (Tm.os args)]
def Tm.os:List Tm→List (List OT)
 | []=>[]
 | x :: xs=>Tm.o x :: Tm.os xs
end
theorem Tm.os_eq:∀ xs:List Tm,Tm.os xs=xs.map Tm.o
 | []=>rfl
 | x :: xs=>by rw [Tm.os,Tm.os_eq xs]; rfl
theorem Tm.o_eq (x:Tm):Tm.o x=[.str x.name,.ow (x.args.map Tm.o)]:=by
 obtain ⟨name,args⟩:=x
 rw [Tm.o,Tm.os_eq]; rfl
theorem Tm.ers_of:∀ xs:List Tm,(∀ x∈xs,OT.ers (Tm.o x)=Tm.d x)→OT.erss (xs.map Tm.o)=xs.map Tm.d
 | [],_=>rfl
 | x :: xs,h=>by
  simp only [zA,OT.erss]
  rw [h x (by simp),Tm.ers_of xs fun y hy=>h y (by simp [hy])]
theorem Tm.er (x:Tm):OT.ers (Tm.o x)=Tm.d x:=by
 have h:=Tm.ers_of x.args fun y hy=>Tm.er y
 rw [Tm.o_eq,Tm.d_eq]
 simp only [OT.ers,OT.er,h]
termination_by SizeOf.sizeOf x
decreasing_by exact Tm.lt_of_mem hy
theorem Tm.erss (xs:List Tm):OT.erss (xs.map Tm.o)=xs.map Tm.d:=Tm.ers_of xs fun x _=>Tm.er x
theorem Tm.nos_of:∀ xs:List Tm,(∀ x∈xs,OT.BT (Tm.o x)=true)→OT.Bh (xs.map Tm.o)=true
 | [],_=>rfl
 | x :: xs,h=>by
  simp only [zA,OT.Bh]
  rw [h x (by simp),Tm.nos_of xs fun y hy=>h y (by simp [hy])]; rfl
theorem Tm.no (x:Tm):OT.BT (Tm.o x)=true:=by
 have h:=Tm.nos_of x.args fun y hy=>Tm.no y
 rw [Tm.o_eq]
 simp only [OT.BT,OT.noSh,h,zC,zK]
termination_by SizeOf.sizeOf x
decreasing_by exact Tm.lt_of_mem hy
theorem Tm.noss (xs:List Tm):OT.Bh (xs.map Tm.o)=true:=Tm.nos_of xs fun x _=>Tm.no x
abbrev Tm.osv (x:Tm):SV:=.agg [.str x.name,.ref 0]
abbrev Tm.obs (x:Tm):List Ob:=[.row 33 2 (x.args.map Tm.o)]
abbrev Fm.sv (x:Fm):SV:=.agg [.int .i64 x.op,.str x.atom.name,.arr (x.atom.args.map Tm.d),.str x.var,.arr (x.parts.map Fm.d)]
mutual
def Fm.o:Fm→List OT
 | .mk op atom var parts=>[.int op,.str atom.name,.ow (atom.args.map Tm.o),.str var,.ow (Fm.os parts)]
def Fm.os:List Fm→List (List OT)
 | []=>[]
 | x :: xs=>Fm.o x :: Fm.os xs
end
theorem Fm.os_eq:∀ xs:List Fm,Fm.os xs=xs.map Fm.o
 | []=>rfl
 | x :: xs=>by rw [Fm.os,Fm.os_eq xs]; rfl
theorem Fm.o_eq (x:Fm):Fm.o x=[.int x.op,.str x.atom.name,.ow (x.atom.args.map Tm.o),.str x.var,.ow (x.parts.map Fm.o)]:=by
 obtain ⟨op,atom,var,parts⟩:=x
 rw [Fm.o,Fm.os_eq]; rfl
theorem Fm.ers_of:∀ xs:List Fm,(∀ x∈xs,OT.ers (Fm.o x)=Fm.d x)→OT.erss (xs.map Fm.o)=xs.map Fm.d
 | [],_=>rfl
 | x :: xs,h=>by
  simp only [zA,OT.erss]
  rw [h x (by simp),Fm.ers_of xs fun y hy=>h y (by simp [hy])]
theorem Fm.er (x:Fm):OT.ers (Fm.o x)=Fm.d x:=by
 have h:=Fm.ers_of x.parts fun y hy=>Fm.er y
 rw [Fm.o_eq,Fm.d_eq]
 simp only [OT.ers,OT.er,h,Tm.erss]
termination_by SizeOf.sizeOf x
decreasing_by exact Fm.lt_of_mem hy
theorem Fm.erss (xs:List Fm):OT.erss (xs.map Fm.o)=xs.map Fm.d:=Fm.ers_of xs fun x _=>Fm.er x
theorem Fm.nos_of:∀ xs:List Fm,(∀ x∈xs,OT.BT (Fm.o x)=true)→OT.Bh (xs.map Fm.o)=true
 | [],_=>rfl
 | x :: xs,h=>by
  simp only [zA,OT.Bh]
  rw [h x (by simp),Fm.nos_of xs fun y hy=>h y (by simp [hy])]; rfl
theorem Fm.no (x:Fm):OT.BT (Fm.o x)=true:=by
 have h:=Fm.nos_of x.parts fun y hy=>Fm.no y
 rw [Fm.o_eq]
 simp only [OT.BT,OT.noSh,h,Tm.noss,zC,zK]
termination_by SizeOf.sizeOf x
decreasing_by exact Fm.lt_of_mem hy
theorem Fm.noss (xs:List Fm):OT.Bh (xs.map Fm.o)=true:=Fm.nos_of xs fun x _=>Fm.no x
abbrev Fm.osv (x:Fm):SV:=.agg [.int .i64 x.op,.str x.atom.name,.ref 0,.str x.var,.ref 1]
abbrev Fm.obs (x:Fm):List Ob:=[.row 33 2 (x.atom.args.map Tm.o),.row 36 5 (x.parts.map Fm.o)]
def Lt.o (x:Lt):List OT:=[.bool x.pos,.str x.atom.name,.ow (x.atom.args.map Tm.o)]
theorem Lt.er (x:Lt):OT.ers (Lt.o x)=Lt.d x:=by
 simp only [Lt.o,Lt.d,OT.ers,OT.er,Tm.erss]
theorem Lt.erss:∀ xs:List Lt,OT.erss (xs.map Lt.o)=xs.map Lt.d
 | []=>rfl
 | x :: xs=>by simp only [zA,OT.erss,Lt.er,Lt.erss xs]
theorem Lt.no (x:Lt):OT.BT (Lt.o x)=true:=by
 simp only [Lt.o,OT.BT,OT.noSh,Tm.noss,zC,zK]
theorem Lt.noss:∀ xs:List Lt,OT.Bh (xs.map Lt.o)=true
 | []=>rfl
 | x :: xs=>by simp only [zA,OT.Bh,Lt.no,Lt.noss xs,zC]
def Cl.o (x:Cl):List OT:=[.ow (x.lits.map Lt.o)]
theorem Cl.er (x:Cl):OT.ers (Cl.o x)=Cl.d x:=by
 simp only [Cl.o,Cl.d,OT.ers,OT.er,Lt.erss]
theorem Cl.erss:∀ xs:List Cl,OT.erss (xs.map Cl.o)=xs.map Cl.d
 | []=>rfl
 | x :: xs=>by simp only [zA,OT.erss,Cl.er,Cl.erss xs]
theorem Cl.no (x:Cl):OT.BT (Cl.o x)=true:=by
 simp only [Cl.o,OT.BT,OT.noSh,Lt.noss,zC,zK]
theorem Cl.noss:∀ xs:List Cl,OT.Bh (xs.map Cl.o)=true
 | []=>rfl
 | x :: xs=>by simp only [zA,OT.Bh,Cl.no,Cl.noss xs,zC]
def Ag.o (x:Ag):List OT:=[.str x.var,.int x.elem]
theorem Ag.er (x:Ag):OT.ers (Ag.o x)=Ag.d x:=by
 simp only [Ag.o,Ag.d,OT.ers,OT.er]
theorem Ag.erss:∀ xs:List Ag,OT.erss (xs.map Ag.o)=xs.map Ag.d
 | []=>rfl
 | x :: xs=>by simp only [zA,OT.erss,Ag.er,Ag.erss xs]
theorem Ag.no (x:Ag):OT.BT (Ag.o x)=true:=by
 simp only [Ag.o,OT.BT,OT.noSh,zC,zK]
theorem Ag.noss:∀ xs:List Ag,OT.Bh (xs.map Ag.o)=true
 | []=>rfl
 | x :: xs=>by simp only [zA,OT.Bh,Ag.no,Ag.noss xs,zC]
def Bd.o (x:Bd):List OT:=[.str x.var,.str x.term.name,.ow (x.term.args.map Tm.o)]
theorem Bd.er (x:Bd):OT.ers (Bd.o x)=Bd.d x:=by
 simp only [Bd.o,Bd.d,OT.ers,OT.er,Tm.erss]
theorem Bd.erss:∀ xs:List Bd,OT.erss (xs.map Bd.o)=xs.map Bd.d
 | []=>rfl
 | x :: xs=>by simp only [zA,OT.erss,Bd.er,Bd.erss xs]
theorem Bd.no (x:Bd):OT.BT (Bd.o x)=true:=by
 simp only [Bd.o,OT.BT,OT.noSh,Tm.noss,zC,zK]
theorem Bd.noss:∀ xs:List Bd,OT.Bh (xs.map Bd.o)=true
 | []=>rfl
 | x :: xs=>by simp only [zA,OT.Bh,Bd.no,Bd.noss xs,zC]
abbrev Sb.sv (x:Sb):SV:=.agg [.arr (x.binds.map Bd.d)]
def Sb.o (x:Sb):List OT:=[.ow (x.binds.map Bd.o)]
theorem Sb.er (x:Sb):OT.ers (Sb.o x)=Sb.d x:=by
 simp only [Sb.o,Sb.d,OT.ers,OT.er,Bd.erss]
theorem Sb.erss:∀ xs:List Sb,OT.erss (xs.map Sb.o)=xs.map Sb.d
 | []=>rfl
 | x :: xs=>by simp only [zA,OT.erss,Sb.er,Sb.erss xs]
theorem Sb.no (x:Sb):OT.BT (Sb.o x)=true:=by
 simp only [Sb.o,OT.BT,OT.noSh,Bd.noss,zC,zK]
theorem Sb.noss:∀ xs:List Sb,OT.Bh (xs.map Sb.o)=true
 | []=>rfl
 | x :: xs=>by simp only [zA,OT.Bh,Sb.no,Sb.noss xs,zC]
abbrev Df.sv (x:Df):SV:=.agg [.str x.name,.arr (x.vars.map fun s=>[D.str s]),.int .i64 x.form.op,.str x.form.atom.name,.arr (x.form.atom.args.map Tm.d),.str x.form.var,.arr (x.form.parts.map Fm.d)]
def Df.o (x:Df):List OT:=[.str x.name,.ow (x.vars.map fun s=>[OT.str s]),.int x.form.op,.str x.form.atom.name,.ow (x.form.atom.args.map Tm.o),.str x.form.var,.ow (x.form.parts.map Fm.o)]
theorem Df.o_eq (x:Df):Df.o x=[.str x.name,.ow (x.vars.map fun s=>[OT.str s]),.int x.form.op,.str x.form.atom.name,.ow (x.form.atom.args.map Tm.o),.str x.form.var,.ow (x.form.parts.map Fm.o)]:=rfl
theorem Df.er (x:Df):OT.ers (Df.o x)=Df.d x:=by
 simp only [Df.o,Df.d,OT.ers,OT.er,SA,Tm.erss,Fm.erss]
theorem Df.erss:∀ xs:List Df,OT.erss (xs.map Df.o)=xs.map Df.d
 | []=>rfl
 | x :: xs=>by simp only [zA,OT.erss,Df.er,Df.erss xs]
theorem Df.no (x:Df):OT.BT (Df.o x)=true:=by
 simp only [Df.o,OT.BT,OT.noSh,SD,Tm.noss,Fm.noss,zC,zK]
theorem Df.noss:∀ xs:List Df,OT.Bh (xs.map Df.o)=true
 | []=>rfl
 | x :: xs=>by simp only [zA,OT.Bh,Df.no,Df.noss xs,zC]
abbrev Df.osv (x:Df):SV:=.agg [.str x.name,.ref 0,.int .i64 x.form.op,.str x.form.atom.name,.ref 1,.str x.form.var,.ref 2]
abbrev Df.obs (x:Df):List Ob:=[.row 9 1 (x.vars.map fun s=>[OT.str s]),.row 33 2 (x.form.atom.args.map Tm.o),.row 36 5 (x.form.parts.map Fm.o)]
def Tl.o (x:Tl):List OT:=[.str x.name,.int x.arity,.bool x.pred,.ow (x.vals.map fun n=>[OT.int n])]
theorem Tl.er (x:Tl):OT.ers (Tl.o x)=Tl.d x:=by
 simp only [Tl.o,Tl.d,OT.ers,OT.er,SB]
theorem Tl.erss:∀ xs:List Tl,OT.erss (xs.map Tl.o)=xs.map Tl.d
 | []=>rfl
 | x :: xs=>by simp only [zA,OT.erss,Tl.er,Tl.erss xs]
theorem Tl.no (x:Tl):OT.BT (Tl.o x)=true:=by
 simp only [Tl.o,OT.BT,OT.noSh,SE,zC,zK]
theorem Tl.noss:∀ xs:List Tl,OT.Bh (xs.map Tl.o)=true
 | []=>rfl
 | x :: xs=>by simp only [zA,OT.Bh,Tl.no,Tl.noss xs,zC]
def Ip.o (x:Ip):List OT:=[.int x.size,.ow (x.tables.map Tl.o)]
theorem Ip.er (x:Ip):OT.ers (Ip.o x)=Ip.d x:=by
 simp only [Ip.o,Ip.d,OT.ers,OT.er,Tl.erss]
theorem Ip.erss:∀ xs:List Ip,OT.erss (xs.map Ip.o)=xs.map Ip.d
 | []=>rfl
 | x :: xs=>by simp only [zA,OT.erss,Ip.er,Ip.erss xs]
theorem Ip.no (x:Ip):OT.BT (Ip.o x)=true:=by
 simp only [Ip.o,OT.BT,OT.noSh,Tl.noss,zC,zK]
theorem Ip.noss:∀ xs:List Ip,OT.Bh (xs.map Ip.o)=true
 | []=>rfl
 | x :: xs=>by simp only [zA,OT.Bh,Ip.no,Ip.noss xs,zC]
mutual
def Tm.nodes:Tm→Nat
 | .mk _ args=>1+Tm.nodeS args
def Tm.nodeS:List Tm→Nat
 | []=>0
 | x :: xs=>Tm.nodes x+Tm.nodeS xs
end
mutual
def Tm.deep:Tm→Nat
 | .mk _ args=>Tm.F2 args+1
def Tm.F2:List Tm→Nat
 | []=>0
 | x :: xs=>max (Tm.deep x) (Tm.F2 xs)
end
mutual
def Tm.names:Tm→Bool
 | .mk name args=>if BI name then args.length == 0 else Dw name&&decide (args.length≤4)&&Tm.F3 args
def Tm.F3:List Tm→Bool
 | []=>true
 | x :: xs=>Tm.names x&&Tm.F3 xs
end
def Tm.small (x:Tm):Bool:=decide (x.nodes≤30)&&decide (x.deep≤8)
def Tm.valid (x:Tm):Bool:=x.small&&x.names
noncomputable def Tm.eqn (x:Tm):Bool:=dec (x.name=⟨#[61]⟩)
noncomputable def Tm.atom (x:Tm):Bool:=if x.eqn then x.args.length == 2&&x.small&&Tm.F3 x.args else Dw x.name&&x.valid
noncomputable def Tm.expr (x:Tm):Bool:=x.valid || x.atom
noncomputable def Tm.isZ (x:Tm):Bool:=dec (x.name=⟨#[]⟩)&&x.args.length == 0
abbrev TEnv:=ByteArray→Option Tm
noncomputable def NT (e:TEnv) (s:ByteArray) (t:Tm):TEnv:=fun q=>bif dec (q=s) then some t else e q
mutual
noncomputable def Tm.rv (e:TEnv):Tm→Tm
 | .mk n args=>bif args.isEmpty then (e n).getD (.mk n []) else .mk n (Tm.rvL e args)
noncomputable def Tm.rvL (e:TEnv):List Tm→List Tm
 | []=>[]
 | x :: xs=>Tm.rv e x :: Tm.rvL e xs
end
noncomputable def G1 (vs:List ByteArray) (ts:List Tm):Nat→TEnv
 | 0=>fun _=>none
 | k+1=>NT (G1 vs ts k) (vs.getD k ⟨#[]⟩) (ts.getD k Tm.zero)
mutual
theorem Tm.d_inj:∀ x y:Tm,Tm.d x=Tm.d y→x=y
 | .mk n xs,.mk m ys,h=>by
  rw [Tm.d_eq,Tm.d_eq] at h
  simp only [zT,D.str.injEq,D.arr.injEq,and_true] at h
  have h1:n=m:=h.1
  rw [h1,Tm.ds_inj xs ys h.2]
theorem Tm.ds_inj:∀ xs ys:List Tm,xs.map Tm.d=ys.map Tm.d→xs=ys
 | [],[],_=>rfl
 | [],y :: ys,h=>by simp at h
 | x :: xs,[],h=>by simp at h
 | x :: xs,y :: ys,h=>by
  simp only [zA,zT] at h
  rw [Tm.d_inj x y h.1,Tm.ds_inj xs ys h.2]
end
mutual
def Fm.nodes:Fm→Nat
 | .mk _ _ _ args=>1+Fm.nodeS args
def Fm.nodeS:List Fm→Nat
 | []=>0
 | x :: xs=>Fm.nodes x+Fm.nodeS xs
end
noncomputable def Fm.form (x:Fm):Bool :=
 if x.op=1∨x.op=2 then x.parts.length == 0&&x.atom.isZ&&dec (x.var=⟨#[]⟩)
 else if x.op=3 then x.parts.length == 0&&x.atom.atom&&dec (x.var=⟨#[]⟩)
 else if x.op=4 then x.parts.length == 1&&x.atom.isZ&&dec (x.var=⟨#[]⟩)
 else if x.op=5∨x.op=6∨x.op=7 then x.parts.length == 2&&x.atom.isZ&&dec (x.var=⟨#[]⟩)
 else if x.op=8∨x.op=9 then x.parts.length == 1&&x.atom.isZ&&BI x.var
 else false
mutual
noncomputable def Fm.forms:Fm→Bool
 | .mk op atom var parts=>Fm.form (.mk op atom var parts)&&Fm.Jc parts
noncomputable def Fm.Jc:List Fm→Bool
 | []=>true
 | x :: xs=>Fm.forms x&&Fm.Jc xs
end
noncomputable def Fm.valid (x:Fm):Bool:=decide (x.nodes≤40)&&x.forms
mutual
noncomputable def Fm.has (n:Int):Fm→Bool
 | .mk op _ _ ps=>dec (n=op) || Fm.U3 n ps
noncomputable def Fm.U3 (n:Int):List Fm→Bool
 | []=>false
 | x :: xs=>Fm.has n x || Fm.U3 n xs
end
noncomputable def Fm.hasS (ns:List Int) (x:Fm):Bool:=ns.any fun n=>x.has n
mutual
noncomputable def Fm.inst (e:TEnv):Fm→Fm
 | .mk op atom var parts=>bif dec (op=3) then .mk 3 (atom.rv e) ⟨#[]⟩ [] else .mk op atom var (Fm.QA e parts)
noncomputable def Fm.QA (e:TEnv):List Fm→List Fm
 | []=>[]
 | x :: xs=>Fm.inst e x :: Fm.QA e xs
end
mutual
theorem Fm.d_inj:∀ x y:Fm,Fm.d x=Fm.d y→x=y
 | .mk op at_ var xs,.mk op' at' var' ys,h=>by
  rw [Fm.d_eq,Fm.d_eq] at h
  simp only [zT,D.int.injEq,D.str.injEq,D.arr.injEq,and_true] at h
  obtain ⟨h1,h2,h3,h4,h5⟩:=h
  have h1:op=op':=h1
  have h4:var=var':=h4
  have ha:at_=at':=Tm.d_inj at_ at' (by
   have h2:at_.name=at'.name:=h2
   have h3:at_.args.map Tm.d=at'.args.map Tm.d:=h3
   rw [Tm.d_eq,Tm.d_eq,h2,h3])
  rw [h1,h4,ha,Fm.ds_inj xs ys h5]
theorem Fm.ds_inj:∀ xs ys:List Fm,xs.map Fm.d=ys.map Fm.d→xs=ys
 | [],[],_=>rfl
 | [],y :: ys,h=>by simp at h
 | x :: xs,[],h=>by simp at h
 | x :: xs,y :: ys,h=>by
  simp only [zA,zT] at h
  rw [Fm.d_inj x y h.1,Fm.ds_inj xs ys h.2]
end
theorem Fm.Xd {x y:Fm} (h:x.sv=y.sv):x=y:=by
 refine Fm.d_inj x y ?_
 rw [Fm.d_eq,Fm.d_eq]
 have h:SV.agg [.int .i64 x.op,.str x.atom.name,.arr (x.atom.args.map Tm.d),.str x.var,.arr (x.parts.map Fm.d)]=SV.agg [.int .i64 y.op,.str y.atom.name,.arr (y.atom.args.map Tm.d),.str y.var,.arr (y.parts.map Fm.d)]:=h
 simp only [SV.agg.injEq,zT,SV.int.injEq,SV.str.injEq,SV.arr.injEq,true_and,and_true] at h
 obtain ⟨h1,h2,h3,h4,h5⟩:=h
 rw [h1,h2,h3,h4,h5]
mutual
noncomputable def Fm.unfV (d:Df):Fm→Fm
 | .mk op atom var parts=>bif dec (op=3)&&dec (atom.name=d.name) then (bif dec (atom.args.length=d.vars.length) then d.form.inst (G1 d.vars atom.args d.vars.length) else Fm.zero) else .mk op atom var (Fm.QB d parts)
noncomputable def Fm.QB (d:Df):List Fm→List Fm
 | []=>[]
 | x :: xs=>Fm.unfV d x :: Fm.QB d xs
end
mutual
noncomputable def Fm.unfB (d:Df):Fm→Bool
 | .mk op atom var parts=>bif dec (op=3)&&dec (atom.name=d.name) then dec (atom.args.length=d.vars.length) else Fm.QC d parts
noncomputable def Fm.QC (d:Df):List Fm→Bool
 | []=>true
 | x :: xs=>Fm.unfB d x&&Fm.QC d xs
end
noncomputable def NU (vs:List ByteArray) (k:Nat):Bool:=BI (vs.getD k ⟨#[]⟩)&&(decide (k=0) || strLt (vs.getD (k-1) ⟨#[]⟩) (vs.getD k ⟨#[]⟩))
noncomputable def IK (vs:List ByteArray):Nat→Bool
 | 0=>true
 | k+1=>IK vs k&&NU vs k
noncomputable def Df.ok (d:Df):Bool:=IK d.vars d.vars.length&&(Dw d.name&&(d.form.valid&&!d.form.hasS [8,9]))
theorem OK:∀ xs ys:List ByteArray,(xs.map fun s=>[D.str s])=(ys.map fun s=>[D.str s])→xs=ys
 | [],[],_=>rfl
 | [],y :: ys,h=>by simp at h
 | x :: xs,[],h=>by simp at h
 | x :: xs,y :: ys,h=>by
  simp only [zA,zT,D.str.injEq,and_true] at h
  rw [h.1,OK xs ys h.2]
theorem Df.d_inj (x y:Df) (h:Df.d x=Df.d y):x=y:=by
 obtain ⟨n,vs,f⟩:=x
 obtain ⟨m,ws,g⟩:=y
 simp only [Df.d,zT,D.str.injEq,D.arr.injEq,D.int.injEq,and_true] at h
 obtain ⟨h1,h2,h3,h4,h5,h6,h7⟩:=h
 have hf:f=g:=Fm.d_inj _ _ (by rw [Fm.d_eq,Fm.d_eq,h3,h4,h5,h6,h7])
 rw [h1,hf,OK vs ws h2]
theorem Df.ds_inj:∀ xs ys:List Df,xs.map Df.d=ys.map Df.d→xs=ys
 | [],[],_=>rfl
 | [],y :: ys,h=>by simp at h
 | x :: xs,[],h=>by simp at h
 | x :: xs,y :: ys,h=>by
  simp only [zA,zT] at h
  rw [Df.d_inj x y h.1,Df.ds_inj xs ys h.2]
noncomputable def E6 (d:Df) (y:Fm):Option Fm:=bif y.unfB d&&(y.unfV d).valid then some (y.unfV d) else none
noncomputable def AW:List Df→Fm→Option Fm
 | [],y=>some y
 | d :: ds,y=>match AW ds y with
  | some z=>E6 d z
  | none=>none
noncomputable def HQ (x:Fm) (ds:List Df):Bool:=x.valid&&(!x.hasS [8,9]&&ds.all Df.ok)
noncomputable def F4 (x:Fm) (ds:List Df):Bool:=HQ x ds&&(AW ds x).isSome
noncomputable def Du (x:Fm) (ds:List Df):Fm:=bif F4 x ds then (AW ds x).getD Fm.zero else Fm.zero
noncomputable def RL (xs:List SV) (ob:List Ob):Option (SV × List Ob) :=
 match ob with
 | []=>open Classical in if h:∃ p:Fm × List Df,xs=[p.1.sv,.arr (p.2.map Df.d)]∧Fun Tryz.prog 10 [p.1.sv,.arr (p.2.map Df.d)] [] (.tup [(Du p.1 p.2).osv,.bool (F4 p.1 p.2)]) (Du p.1 p.2).obs then some (.tup [(Du h.choose.1 h.choose.2).osv,.bool (F4 h.choose.1 h.choose.2)],(Du h.choose.1 h.choose.2).obs) else none
 | _=>none
theorem Wb (x:Fm) (ds:List Df) (h:Fun Tryz.prog 10 [x.sv,.arr (ds.map Df.d)] [] (.tup [(Du x ds).osv,.bool (F4 x ds)]) (Du x ds).obs):RL [x.sv,.arr (ds.map Df.d)] []=some (.tup [(Du x ds).osv,.bool (F4 x ds)],(Du x ds).obs):=by
 have h0:∃ p:Fm × List Df,[x.sv,SV.arr (ds.map Df.d)]=[p.1.sv,.arr (p.2.map Df.d)]∧Fun Tryz.prog 10 [p.1.sv,.arr (p.2.map Df.d)] [] (.tup [(Du p.1 p.2).osv,.bool (F4 p.1 p.2)]) (Du p.1 p.2).obs:=⟨(x,ds),rfl,h⟩
 have e:(x,ds)=h0.choose:=by
  obtain ⟨h1,h2⟩:=z9 h0.choose_spec.1
  have h3:=(z9 h2).1
  rw [SV.arr.injEq] at h3
  exact Prod.ext (Fm.Xd h1) (Df.ds_inj _ _ h3)
 unfold RL
 simp only
 rw [dif_pos h0,← e]
theorem Ty {xs:List SV} {ob:List Ob} {r:SV} {ob':List Ob} (h:RL xs ob=some (r,ob')):Fun Tryz.prog 10 xs ob r ob':=by
 unfold RL at h
 split at h
 ·split at h
  ·rename_i h0
   have hs:=h0.choose_spec
   generalize h0.choose=y at hs h
   obtain ⟨h1,h2⟩:=hs
   simp only [zO,zU] at h
   obtain ⟨rfl,rfl⟩:=h
   rw [h1]
   exact h2
  ·cases h
 ·cases h
def SG:List (Nat × FM)→Nat→FM
 | [],_=>⟨[],.asis,none,false⟩
 | (f,m) :: r,g=>bif f == g then m else SG r g
theorem Tz {l:List (Nat × FM)} {f:Nat} {g:List SV→List Ob→Option (SV × List Ob)} (h:(SG l f).ext=some g):∃ m,(f,m)∈l∧m.ext=some g:=by
 induction l with
 | nil=>cases h
 | cons x r ih =>
  obtain ⟨f',m⟩:=x
  simp only [SG] at h
  cases e:f' == f with
  | true =>
   rw [e] at h
   obtain rfl:f'=f:=by simpa using e
   exact ⟨m,by simp,h⟩
  | false =>
   rw [e] at h
   obtain ⟨m',h1,h2⟩:=ih h
   exact ⟨m',by simp [h1],h2⟩
noncomputable def OL:List SV→Option SV
 | [.int .i64 k]=>bif dec (1≤k)&&dec (k≤1099511627776) then some (.str (BU k)) else none
 | _=>none
theorem RN {xs:List SV} {r:SV} (h:OL xs=some r):Fun Tryz.prog 49 xs [] r []:=by
 unfold OL at h
 split at h
 ·rename_i k
  obtain ⟨h1,h2⟩:=Aq h
  rw [zG,Ap,Ap] at h1
  obtain rfl:=zM h2
  obtain ⟨n,rfl⟩:∃ n:Nat,k=n:=⟨k.toNat,by omega⟩
  refine Fun.RG (rv:=.string (BU n)) (fun w I V=>by simp only [RepV,true_and]; exact RH (by omega) (by omega)) fun w I V vs h=>?_
  obtain ⟨v,r,rfl,h3,h⟩:=G0 h
  obtain rfl:=Q7 h
  obtain rfl:=VY h3
  exact P2 n w (by omega) (by omega)
 ·cases h
def U4:List SV→Option SV
 | [.str s]=>some (.bool (BI s))
 | _=>none
theorem T0 {xs:List SV} {r:SV} (h:U4 xs=some r):Fun Tryz.prog 94 xs [] r []:=by
 unfold U4 at h
 split at h
 ·rename_i s
  obtain rfl:=zM h
  refine Fun.of_same (rv:=.bool (BI s)) (fun w I V=>by simp only [RepV]) fun w I V vs h=>?_
  obtain ⟨v,r,rfl,h3,h⟩:=G0 h
  obtain rfl:=Q7 h
  obtain ⟨rfl,h4⟩:=Ml h3
  exact Nd s w h4
 ·cases h
def U5:List SV→Option SV
 | [.str s]=>some (.bool (BI s))
 | _=>none
theorem T1 {xs:List SV} {r:SV} (h:U5 xs=some r):Fun Tryz.prog 79 xs [] r []:=by
 unfold U5 at h
 split at h
 ·rename_i s
  obtain rfl:=zM h
  refine Fun.of_same (rv:=.bool (BI s)) (fun w I V=>by simp only [RepV]) fun w I V vs h=>?_
  obtain ⟨v,r,rfl,h3,h⟩:=G0 h
  obtain rfl:=Q7 h
  obtain ⟨rfl,h4⟩:=Ml h3
  exact Tx s w h4
 ·cases h
def U6:List SV→Option SV
 | [.str s]=>some (.bool (Dw s))
 | _=>none
theorem T2 {xs:List SV} {r:SV} (h:U6 xs=some r):Fun Tryz.prog 95 xs [] r []:=by
 unfold U6 at h
 split at h
 ·rename_i s
  obtain rfl:=zM h
  refine Fun.RG (rv:=.bool (Dw s)) (fun w I V=>by simp only [RepV]) fun w I V vs h=>?_
  obtain ⟨v,r,rfl,h3,h⟩:=G0 h
  obtain rfl:=Q7 h
  obtain ⟨rfl,h4⟩:=Ml h3
  exact P5 s w h4
 ·cases h
def U7:List SV→Option SV
 | [.str s]=>some (.bool (Dw s))
 | _=>none
theorem T3 {xs:List SV} {r:SV} (h:U7 xs=some r):Fun Tryz.prog 80 xs [] r []:=by
 unfold U7 at h
 split at h
 ·rename_i s
  obtain rfl:=zM h
  refine Fun.of_same (rv:=.bool (Dw s)) (fun w I V=>by simp only [RepV]) fun w I V vs h=>?_
  obtain ⟨v,r,rfl,h3,h⟩:=G0 h
  obtain rfl:=Q7 h
  obtain ⟨rfl,h4⟩:=Ml h3
  exact P6 s w h4
 ·cases h
noncomputable def modes:FuncId→FM:=SG [(49,⟨[],.asis,some (Kc OL),false⟩),(94,⟨[],.asis,some (Kc U4),false⟩),(79,⟨[],.asis,some (Kc U5),false⟩),(95,⟨[],.asis,some (Kc U6),false⟩),(80,⟨[],.asis,some (Kc U7),false⟩),(10,⟨[],.asis,some RL,false⟩),(51,⟨[true],.asis,none,true⟩),(47,⟨[true],.asis,none,false⟩),(48,⟨[true],.asis,none,true⟩),(13,⟨[true],.asis,none,false⟩),(14,⟨[true],.asis,none,true⟩),(50,⟨[true],.asis,none,true⟩),(169,⟨[],.own [some (33,2)],none,false⟩),(81,⟨[],.frz,none,false⟩),(126,⟨[],.frz,none,false⟩),(82,⟨[],.frz,none,false⟩),(96,⟨[],.own [none,none,some (33,2),none,some (36,5)],none,false⟩),(41,⟨[],.own [none,none,some (33,2),none,some (36,5)],none,false⟩),(141,⟨[true],.own [none,none,some (33,2),none,some (36,5)],none,false⟩),(30,⟨[],.frz,none,false⟩),(142,⟨[],.own [none,some (33,2)],none,false⟩),(98,⟨[],.own [none,none,some (33,2),none,some (36,5)],none,false⟩),(143,⟨[],.own [none,none,some (33,2),none,some (36,5)],none,false⟩),(99,⟨[],.own [none,none,some (33,2),none,some (36,5)],none,false⟩),(43,⟨[],.own [none,none,some (33,2),none,some (36,5),none],none,false⟩),(31,⟨[],.frz,none,false⟩),(83,⟨[],.frz,none,false⟩),(7,⟨[],.frz,none,false⟩)]
theorem noExt {l:List (Nat × FM)} (h:(l.all fun p=>p.2.ext.isNone)=true) {f:Nat} {m:FM} {g:List SV→List Ob→Option (SV × List Ob)} (h1:(f,m)∈l) (h2:m.ext=some g):False:=by
 have h3:=zW.1 h _ h1
 rw [h2] at h3
 cases h3
theorem Nf:Mk Tryz.prog modes:=by
 intro f g xs ob r ob' hg hx
 obtain ⟨m,h1,h2⟩:=Tz hg
 rcases zQ.1 h1 with h1 | h1
 ·obtain ⟨rfl,rfl⟩:=yK h1
  obtain rfl:=zM h2
  exact Gy RN hx
 rcases zQ.1 h1 with h1 | h1
 ·obtain ⟨rfl,rfl⟩:=yK h1
  obtain rfl:=zM h2
  exact Gy T0 hx
 rcases zQ.1 h1 with h1 | h1
 ·obtain ⟨rfl,rfl⟩:=yK h1
  obtain rfl:=zM h2
  exact Gy T1 hx
 rcases zQ.1 h1 with h1 | h1
 ·obtain ⟨rfl,rfl⟩:=yK h1
  obtain rfl:=zM h2
  exact Gy T2 hx
 rcases zQ.1 h1 with h1 | h1
 ·obtain ⟨rfl,rfl⟩:=yK h1
  obtain rfl:=zM h2
  exact Gy T3 hx
 rcases zQ.1 h1 with h1 | h1
 ·obtain ⟨rfl,rfl⟩:=yK h1
  obtain rfl:=zM h2
  exact Ty hx
 exact (noExt rfl h1 h2).elim
noncomputable def E:FEnv:=ev Tryz.prog modes
noncomputable def calls:CallF:=Cu modes E
theorem Xe {f:FuncId} {xs:List SV} {ob:List Ob} {r:SV} {ob':List Ob} (h:E f xs ob=some (r,ob')):Fun Tryz.prog f xs ob r ob':=VX MG Nf f xs ob r ob' h
noncomputable def run (n0:Nat):SC→St→Option (X × St):=fr Tryz.prog calls (J5 n0)
def go (n0:Nat) (sc:SC) (st:St) (K:X→St→Prop):Prop:=∃ x st',run n0 sc st=some (x,st')∧K x st'
def Wc (n0:Nat) (b:SC) (K:X→St→Prop):X→St→Prop
 | .normal,st=>go n0 b st K
 | .exit i,st=>K (.exit i) st
 | .ret,st=>K .ret st
def blk (id:Nat) (K:X→St→Prop):X→St→Prop
 | .normal,st=>K .normal st
 | .exit i,st=>if i=id then K .normal st else K (.exit i) st
 | .ret,st=>K .ret st
def U8 (r:Option St) (k:X→St→Prop):Prop :=
 match r with
 | some st=>k .normal st
 | none=>False
def U9 (anc:List (List Nat)) (r:Option (List Ent × St)) (k:X→St→Prop):Prop :=
 match r with
 | some (es,st)=>obB anc [] (II es) 0=true∧k .normal st
 | none=>False
def Ng (v:SV) (a b:Unit→Prop):Prop :=
 match v with
 | .bool true=>a ()
 | .bool false=>b ()
 | _=>False
noncomputable def RO (ops:List SOper) (st:St):Option St:=ML Tryz.prog calls ops st
noncomputable def RP (ops:List SOper) (acc:List Ent) (st:St):Option (List Ent × St):=Gr Tryz.prog calls ops acc st
section
variable {n0:Nat} {st:St} {K:X→St→Prop}
theorem go_skip:go n0 .skip st K=K .normal st:=by
 refine propext ⟨fun ⟨x,st',h,k⟩=>?_,fun k=>⟨_,_,rfl,k⟩⟩
 obtain ⟨rfl,rfl⟩:X.normal=x∧st=st':=by simpa [run,fr] using h
 exact k
theorem Wd {i:Nat}:go n0 (.exit i) st K=K (.exit i) st:=by
 refine propext ⟨fun ⟨x,st',h,k⟩=>?_,fun k=>⟨_,_,rfl,k⟩⟩
 obtain ⟨rfl,rfl⟩:X.exit i=x∧st=st':=by simpa [run,fr] using h
 exact k
theorem go_ret:go n0 .ret st K=K .ret st:=by
 refine propext ⟨fun ⟨x,st',h,k⟩=>?_,fun k=>⟨_,_,rfl,k⟩⟩
 obtain ⟨rfl,rfl⟩:X.ret=x∧st=st':=by simpa [run,fr] using h
 exact k
theorem Xf {ops:List SOper}:go n0 (.reg ops) st K=U8 (RO ops st) K:=by
 unfold U8 RO
 refine propext ⟨fun ⟨x,st',h,k⟩=>?_,fun k=>?_⟩
 ·simp only [run,fr] at h
  split at h
  ·rename_i s hs
   simp only [zO,zU] at h
   obtain ⟨rfl,rfl⟩:=h
   first | exact k | (simp only [hs]; exact k)
  ·cases h
 ·split at k
  ·rename_i s hs
   exact ⟨.normal,s,by simp only [run,fr,hs],k⟩
  ·exact k.elim
theorem We {anc:List (List Nat)} {ops:List SOper}:go n0 (.dreg anc ops) st K=U9 anc (RP ops [] st) K:=by
 unfold U9 RP
 refine propext ⟨fun ⟨x,st',h,k⟩=>?_,fun k=>?_⟩
 ·simp only [run,fr] at h
  split at h
  ·rename_i es s hs
   obtain ⟨h1,h2⟩:=Aq h
   simp only [zO,zU] at h2
   obtain ⟨rfl,rfl⟩:=h2
   first | exact ⟨h1,k⟩ | (simp only [hs]; exact ⟨h1,k⟩)
  ·cases h
 ·split at k
  ·rename_i es s hs
   exact ⟨.normal,s,by simp only [run,fr,hs,k.1,cond_true],k.2⟩
  ·exact k.elim
theorem Xg {a b:SC}:go n0 (.seq a b) st K=go n0 a st (Wc n0 b K):=by
 refine propext ⟨fun ⟨x,st',h,k⟩=>?_,fun ⟨x,st',h,k⟩=>?_⟩
 ·simp only [run,fr,Cj] at h
  split at h
  ·rename_i s hs
   exact ⟨.normal,s,hs,x,st',h,k⟩
  ·rename_i i s hs
   simp only [zO,zU] at h
   obtain ⟨rfl,rfl⟩:=h
   exact ⟨_,_,hs,k⟩
  ·rename_i s hs
   simp only [zO,zU] at h
   obtain ⟨rfl,rfl⟩:=h
   exact ⟨_,_,hs,k⟩
  ·cases h
 ·simp only [run] at h
  cases x with
  | normal =>
   obtain ⟨x2,st2,h2,k2⟩:=k
   exact ⟨x2,st2,by simp only [run,fr,Cj,h]; exact h2,k2⟩
  | exit i=>exact ⟨_,st',by simp only [run,fr,Cj,h],k⟩
  | ret=>exact ⟨_,st',by simp only [run,fr,Cj,h],k⟩
theorem UA {id:Nat} {b:SC}:go n0 (.block id b) st K=go n0 b st (blk id K):=by
 refine propext ⟨fun ⟨x,st',h,k⟩=>?_,fun ⟨x,st',h,k⟩=>?_⟩
 ·simp only [run,fr,GZ] at h
  split at h
  ·rename_i s hs
   simp only [zO,zU] at h
   obtain ⟨rfl,rfl⟩:=h
   exact ⟨.normal,s,hs,k⟩
  ·rename_i i s hs
   refine ⟨.exit i,s,hs,?_⟩
   simp only [blk]
   by_cases hi:i=id
   ·simp only [if_pos hi,zO,zU] at h ⊢
    obtain ⟨rfl,rfl⟩:=h
    exact k
   ·simp only [if_neg hi,zO,zU] at h ⊢
    obtain ⟨rfl,rfl⟩:=h
    exact k
  ·rename_i s hs
   simp only [zO,zU] at h
   obtain ⟨rfl,rfl⟩:=h
   exact ⟨_,s,hs,k⟩
  ·cases h
 ·simp only [run] at h
  cases x with
  | normal=>exact ⟨_,st',by simp only [run,fr,GZ,h],k⟩
  | exit i =>
   simp only [blk] at k
   by_cases hi:i=id
   ·simp only [if_pos hi] at k
    exact ⟨.normal,st',by simp only [run,fr,GZ,h,if_pos hi],k⟩
   ·simp only [if_neg hi] at k
    exact ⟨.exit i,st',by simp only [run,fr,GZ,h,if_neg hi],k⟩
  | ret=>exact ⟨_,st',by simp only [run,fr,GZ,h],k⟩
theorem Ab {q:SX} {a b:SC}:go n0 (.cond q a b) st K=Ng (As (gets st.sl) q) (fun _=>go n0 a st K) (fun _=>go n0 b st K):=by
 unfold Ng
 refine propext ⟨fun ⟨x,st',h,k⟩=>?_,fun k=>?_⟩
 ·simp only [run,fr] at h
  split at h
  ·rename_i t ht
   simp only [ht]
   cases t with
   | true=>exact ⟨x,st',h,k⟩
   | false=>exact ⟨x,st',h,k⟩
  ·cases h
 ·split at k
  ·rename_i ht
   obtain ⟨x,st',h,k⟩:=k
   exact ⟨x,st',by simp only [run,fr,ht,cond_true]; exact h,k⟩
  ·rename_i ht
   obtain ⟨x,st',h,k⟩:=k
   exact ⟨x,st',by simp only [run,fr,ht,cond_false]; exact h,k⟩
  ·exact k.elim
theorem Wg {a b:Unit→Prop}:Ng (.bool true) a b=a ():=rfl
theorem Wh {a b:Unit→Prop}:Ng (.bool false) a b=b ():=rfl
theorem Wi {t:Bool} {a b:Unit→Prop}:Ng (.bool (!t)) a b=Ng (.bool t) b a:=by cases t <;> rfl
theorem A3 {q:SX} {a b:SC} (h:As (gets st.sl) q=.bool true) (k:go n0 a st K):go n0 (.cond q a b) st K:=by rw [Ab,h]; exact k
theorem A4 {q:SX} {a b:SC} (h:As (gets st.sl) q=.bool false) (k:go n0 b st K):go n0 (.cond q a b) st K:=by rw [Ab,h]; exact k
theorem By {t:Bool} {a b:Unit→Prop} (h1:t=true→a ()) (h2:t=false→b ()):Ng (.bool t) a b:=by
 cases t with
 | true=>exact h1 rfl
 | false=>exact h2 rfl
theorem Xh {b:SC}:Wc n0 b K .normal st=go n0 b st K:=rfl
theorem Xi {b:SC} {i:Nat}:Wc n0 b K (.exit i) st=K (.exit i) st:=rfl
theorem Xj {b:SC}:Wc n0 b K .ret st=K .ret st:=rfl
theorem XX {id:Nat}:blk id K .normal st=K .normal st:=rfl
theorem XY {id i:Nat}:blk id K (.exit i) st=if i=id then K .normal st else K (.exit i) st:=rfl
theorem XZ {id:Nat}:blk id K .ret st=K .ret st:=rfl
theorem Wj:U8 (some st) K=K .normal st:=rfl
def quiet:List Ent→Bool
 | []=>true
 | ⟨_,_,[],_⟩ :: r=>quiet r
 | ⟨_,_,_ :: _,_⟩ :: _=>false
theorem Nh {anc:List (List Nat)} {rd:List Nat} {j:Nat}:∀ {l:List Ent} {i:Nat},quiet l=true→Rq anc rd [] j (II l) i=true
 | [],i,_=>rfl
 | ⟨_,_,[],rdi⟩ :: r,i,h=>by
  have:=Nh (anc:=anc) (rd:=rd) (j:=j) (l:=r) (i:=i+1) h
  simp only [II,zA,z7] at this ⊢
  simp only [Rq,this,zK]
  have e1:meets [] (rd++[])=false:=rfl
  have e2:meets rdi []=false:=by cases rdi <;> simp [meets]
  rw [e1,e2]; rfl
theorem T4 {l l':List Ent} (h:quiet l=true) (h':quiet l'=true):quiet (l++l')=true:=by
 induction l with
 | nil=>exact h'
 | cons x r ih =>
  obtain ⟨a,b,c,d⟩:=x
  cases c with
  | nil=>exact ih h
  | cons _ _=>cases h
theorem OM {anc:List (List Nat)}:∀ {l pre:List Ent} {j:Nat},quiet pre=true→quiet l=true→obB anc (II pre) (II l) j=true
 | [],pre,j,_,_=>rfl
 | ⟨a,b,[],rd⟩ :: r,pre,j,hp,h=>by
  have e:=OM (anc:=anc) (l:=r) (pre:=pre++[⟨a,b,[],rd⟩]) (j:=j+1) (T4 hp rfl) h
  have e2:=Nh (anc:=anc) (rd:=rd) (j:=j) (i:=0) hp
  simp only [II,yA,zA,z7] at e e2 ⊢
  simp only [obB,e2,e,zC]
theorem Wk {anc:List (List Nat)} {es:List Ent}:U9 anc (some (es,st)) K=match quiet es with
  | true=>K .normal st
  | false=>obB anc [] (II es) 0=true∧K .normal st:=by
 show (obB anc [] (II es) 0=true∧K .normal st)=_
 cases h:quiet es with
 | true=>exact propext ⟨fun h=>h.2,fun h'=>⟨OM (pre:=[]) rfl h,h'⟩⟩
 | false=>rfl
noncomputable def Xl (r:List SOper) (e:Option (Ent × St)):Option St :=
 match e with
 | some (_,st)=>RO r st
 | none=>none
noncomputable def Xm (r:List SOper) (acc:List Ent) (e:Option (Ent × St)):Option (List Ent × St) :=
 match e with
 | some (x,st)=>RP r (acc++[x]) st
 | none=>none
noncomputable def opF (so:SOp) (sl:List SV) (ob:List Ob):Option R3:=fOp Tryz.prog calls so sl ob
theorem UC:RO [] st=some st:=rfl
theorem T5 {d:Option Tmp} {so:SOp} {r:List SOper} {sl:List SV} {ob:List Ob}:RO (⟨d,none,so⟩ :: r) ⟨sl,ob⟩=Xl r (IJ d ⟨sl,ob⟩ (opF so sl ob)):=rfl
noncomputable def gdF (d:Option Tmp) (so:SOp) (want:Bool) (sl:List SV) (ob:List Ob) (v:SV):Option (Ent × St) :=
 match v with
 | .bool b=>bif R4 b want then IJ d ⟨sl,ob⟩ (opF so sl ob) else some (⟨false,.tup [],[],[]⟩,⟨EN sl d (.tup []),ob⟩)
 | .tup []=>some (⟨false,.tup [],[],[]⟩,⟨EN sl d (.tup []),ob⟩)
 | _=>none
theorem Wl {d:Option Tmp} {k:Nat} {want:Bool} {so:SOp} {r:List SOper} {sl:List SV} {ob:List Ob}:RO (⟨d,some (k,want),so⟩ :: r) ⟨sl,ob⟩=Xl r (gdF d so want sl ob (gets sl k)):=rfl
theorem UD {acc:List Ent}:RP [] acc st=some (acc,st):=rfl
theorem T6 {d:Option Tmp} {so:SOp} {r:List SOper} {acc:List Ent} {sl:List SV} {ob:List Ob}:RP (⟨d,none,so⟩ :: r) acc ⟨sl,ob⟩=Xm r acc (IJ d ⟨sl,ob⟩ (opF so sl ob)):=rfl
theorem Wm {d:Option Tmp} {k:Nat} {want:Bool} {so:SOp} {r:List SOper} {acc:List Ent} {sl:List SV} {ob:List Ob}:RP (⟨d,some (k,want),so⟩ :: r) acc ⟨sl,ob⟩=Xm r acc (gdF d so want sl ob (gets sl k)):=rfl
theorem Xn {r:List SOper} {e:Ent}:Xl r (some (e,st))=RO r st:=rfl
theorem Xo {r:List SOper} {acc:List Ent} {e:Ent}:Xm r acc (some (e,st))=RP r (acc++[e]) st:=rfl
theorem Ya {d:Option Tmp} {so:SOp} {sl:List SV} {ob:List Ob}:gdF d so true sl ob (.bool true)=IJ d ⟨sl,ob⟩ (opF so sl ob):=rfl
theorem Xp {d:Option Tmp} {so:SOp} {sl:List SV} {ob:List Ob}:gdF d so false sl ob (.bool false)=IJ d ⟨sl,ob⟩ (opF so sl ob):=rfl
theorem Xq {d:Option Tmp} {so:SOp} {sl:List SV} {ob:List Ob}:gdF d so true sl ob (.bool false)=some (⟨false,.tup [],[],[]⟩,⟨EN sl d (.tup []),ob⟩):=rfl
theorem Xr {d:Option Tmp} {so:SOp} {sl:List SV} {ob:List Ob}:gdF d so false sl ob (.bool true)=some (⟨false,.tup [],[],[]⟩,⟨EN sl d (.tup []),ob⟩):=rfl
theorem Yb {d:Option Tmp} {so:SOp} {want:Bool} {sl:List SV} {ob:List Ob}:gdF d so want sl ob (.tup [])=some (⟨false,.tup [],[],[]⟩,⟨EN sl d (.tup []),ob⟩):=rfl
theorem Xs {d:Option Tmp} {x:SV} {rd:List Nat}:IJ d st (some (x,[],rd))=some (⟨true,x,[],rd⟩,⟨EN st.sl d x,st.ob⟩):=rfl
theorem Xt {d:Option Tmp} {x:SV} {q:Nat × Ob} {u:List (Nat × Ob)} {rd:List Nat}:IJ d st (some (x,q :: u,rd))=bif Tp (CE st.ob (q :: u)).length (q :: u) then some (⟨true,x,q :: u,rd⟩,⟨EN st.sl d x,CE st.ob (q :: u)⟩) else none:=rfl
def QD (ob:List Ob) (xs:List SV) (sel:List Nat) (r:Option (SV × List Ob)) (n:Nat):Option R3 :=
 match r with
 | some (r,fob')=>bif decide (n≤fob'.length) then some (F0 sel (AX sel xs) ob.length r fob') else none
 | none=>none
def Xu (hd:List Bool) (f:FuncId) (xs:List SV) (ob:List Ob) (sel:List Nat) (e:List SV→List Ob→Option (SV × List Ob)) (b:Option (List Ob)):Option R3 :=
 match b with
 | some fob=>bif FW sel&&J2 ob.length sel&&GW fob.length fob then QD ob xs sel (e (Fz hd (Am ob) sel xs) fob) fob.length else none
 | none=>none
def UE (hd:List Bool) (f:FuncId) (xs:List SV) (ob:List Ob) (sel:List Nat) (e:List SV→List Ob→Option (SV × List Ob)):Option R3:=Xu hd f xs ob sel e (E4 sel ob sel)
theorem UF {f:FuncId} {xs:List SV} {ob:List Ob}:calls f xs ob=El (modes f).res (UE (modes f).hand f xs ob (reach ob 64 (Gv (modes f).hand xs) []) (E f)):=rfl
theorem Xv {r:Option R3}:El .asis r=r:=rfl
theorem Xw {r:Option R3}:El .frz r=r:=rfl
theorem Xx {l:List (Option (Nat × Nat))} {r:Option R3}:El (.own l) r=r:=rfl
theorem Xy {l:List (Option (Nat × Nat))} {r:Option R3}:El (.half l) r=r:=rfl
theorem Xz {l:List (Option (Nat × Nat))} {r:Option R3}:El (.tr l) r=r:=rfl
theorem X2 {l:List Nat} {r:Option R3}:El (.frl l) r=r:=rfl
theorem X3 {r:R3}:El .late (some r)=Qx r:=rfl
theorem J7:∀ u:List (Nat × Ob),CT [] u=u
 | []=>rfl
 | (g,o) :: u=>by rw [CT,J7 u]; rfl
theorem X4 {m:RM} {b:Bool} {u:List (Nat × Ob)} {rd:List Nat}:El m (some (.bool b,u,rd))=some (.bool b,u,rd):=by
 cases m <;> first | rfl | (show some (SV.bool b,CT [] u,rd)=_; rw [J7])
theorem X5 {m:RM} {k:IntKind} {n:Int} {u:List (Nat × Ob)} {rd:List Nat}:El m (some (.int k n,u,rd))=some (.int k n,u,rd):=by
 cases m <;> first | rfl | (show some (SV.int k n,CT [] u,rd)=_; rw [J7])
theorem T7 {hd:List Bool} {f:FuncId} {xs:List SV} {ob:List Ob} {e:List SV→List Ob→Option (SV × List Ob)}:UE hd f xs ob [] e=QD ob xs [] (e (Fz hd (Am ob) [] xs) []) 0:=rfl
theorem RQ {hd:List Bool} {f:FuncId} {xs:List SV} {ob:List Ob} {g:Nat} {r:List Nat} {e:List SV→List Ob→Option (SV × List Ob)}:UE hd f xs ob (g :: r) e=Xu hd f xs ob (g :: r) e (E4 (g :: r) ob (g :: r)):=rfl
theorem Wn {ob:List Ob} {xs:List SV} {r:SV} {fob':List Ob}:QD ob xs [] (some (r,fob')) 0=some (F0 [] (AX [] xs) ob.length r fob'):=rfl
theorem Wo {ob:List Ob} {xs:List SV} {sel:List Nat} {r:SV} {fob':List Ob} {n:Nat}:QD ob xs sel (some (r,fob')) n=bif decide (n≤fob'.length) then some (F0 sel (AX sel xs) ob.length r fob') else none:=rfl
theorem X6 {hd:List Bool} {f:FuncId} {xs:List SV} {ob:List Ob} {sel:List Nat} {fob:List Ob} {e:List SV→List Ob→Option (SV × List Ob)}:Xu hd f xs ob sel e (some fob)=bif FW sel&&J2 ob.length sel&&GW fob.length fob then QD ob xs sel (e (Fz hd (Am ob) sel xs) fob) fob.length else none:=rfl
theorem T8 {p:Nat} {r:SV}:F0 [] [] p r []=(r.ren (sgp [] p),[],[]):=rfl
def P7 {α:Type} (n0:Nat) (keep:List Nat) (H:α→St) (R:α→Prop) (μ:α→Nat) (a:α) (K:X→St→Prop):X→St→Prop
 | .normal,st'=>∃ y,R y∧μ y < μ a∧canon n0 keep st'=H y
 | .exit i,st'=>K (.exit i) st'
 | .ret,st'=>K .ret st'
theorem UG {α:Type} {keep:List Nat} {H:α→St} {R:α→Prop} {μ:α→Nat} {a:α} {st':St}:P7 n0 keep H R μ a K .normal st'=∃ y,R y∧μ y < μ a∧canon n0 keep st'=H y:=rfl
theorem UH {α:Type} {keep:List Nat} {H:α→St} {R:α→Prop} {μ:α→Nat} {a:α} {i:Nat} {st':St}:P7 n0 keep H R μ a K (.exit i) st'=K (.exit i) st':=rfl
theorem UI {α:Type} {keep:List Nat} {H:α→St} {R:α→Prop} {μ:α→Nat} {a:α} {st':St}:P7 n0 keep H R μ a K .ret st'=K .ret st':=rfl
theorem go_loop {α:Type} {keep:List Nat} {b:SC} (H:α→St) (R:α→Prop) (μ:α→Nat) (a0:α) (hR:R a0) (h0:canon n0 keep st=H a0) (round:∀ a,R a→go n0 b (H a) (P7 n0 keep H R μ a K)):go n0 (.loop keep b) st K:=by
 have key:∀ (n:Nat) (a:α) (st:St),μ a≤n→R a→canon n0 keep st=H a→∃ x st',OF n0 keep (run n0 b) st=some (x,st')∧K x st':=by
  intro n
  induction n with
  | zero =>
   intro a st hn hR hc
   obtain ⟨x,st',h,k⟩:=round a hR
   cases x with
   | normal =>
    obtain ⟨y,_,h2,_⟩:=k
    omega
   | exit i=>exact ⟨_,st',by rw [HN,hc,h]; rfl,k⟩
   | ret=>exact ⟨_,st',by rw [HN,hc,h]; rfl,k⟩
  | succ n ih =>
   intro a st hn hR hc
   obtain ⟨x,st',h,k⟩:=round a hR
   cases x with
   | normal =>
    obtain ⟨y,h1,h2,h3⟩:=k
    obtain ⟨x2,st2,h4,k2⟩:=ih y st' (by omega) h1 h3
    exact ⟨x2,st2,by rw [HN,hc,h]; exact h4,k2⟩
   | exit i=>exact ⟨_,st',by rw [HN,hc,h]; rfl,k⟩
   | ret=>exact ⟨_,st',by rw [HN,hc,h]; rfl,k⟩
 exact key (μ a0) a0 st (zY _) hR h0
def P8 (n0:Nat) (keep keepO:List Nat) (H:EL→St) (F:X × St) (p:EL):X→St→Prop
 | .normal,st'=>canon n0 keep st'=H p
 | .exit i,st'=>F=(.exit i,canon n0 keepO st')
 | .ret,st'=>F=(.ret,canon n0 keepO st')
def WK (n0:Nat) (keepO:List Nat) (F:X × St):X→St→Prop
 | .normal,_=>False
 | .exit i,st'=>F=(.exit i,canon n0 keepO st')
 | .ret,st'=>F=(.ret,canon n0 keepO st')
theorem T9 {keep keepO:List Nat} {H:EL→St} {F:X × St} {p:EL} {st':St}:P8 n0 keep keepO H F p .normal st'=(canon n0 keep st'=H p):=rfl
theorem TA {keep keepO:List Nat} {H:EL→St} {F:X × St} {p:EL} {i:Nat} {st':St}:P8 n0 keep keepO H F p (.exit i) st'=(F=(.exit i,canon n0 keepO st')):=rfl
theorem TC {keep keepO:List Nat} {H:EL→St} {F:X × St} {p:EL} {st':St}:P8 n0 keep keepO H F p .ret st'=(F=(.ret,canon n0 keepO st')):=rfl
theorem Wp {keepO:List Nat} {F:X × St} {i:Nat} {st':St}:WK n0 keepO F (.exit i) st'=(F=(.exit i,canon n0 keepO st')):=rfl
theorem Wq {keepO:List Nat} {F:X × St} {st':St}:WK n0 keepO F .ret st'=(F=(.ret,canon n0 keepO st')):=rfl
end
def slots:Nat→Nat→List (Nat × SV)→List SV
 | 0,_,_=>[]
 | n+1,k,[]=>.any :: slots n (k+1) []
 | n+1,k,(j,x) :: r=>bif j == k then x :: slots n (k+1) r else .any :: slots n (k+1) ((j,x) :: r)
def Wr (res:RM) (n0:Nat) (rs:List RX) (out:SV × List Ob) (x:X) (st:St):Prop:=fin res n0 rs x st=some out
def X7 (res:RM) (n0:Nat) (r:Option (SV × List Ob)):Option (SV × List Ob) :=
 match r with
 | some (r,ob)=>order res n0 r ob
 | none=>none
def QE (res:RM) (n0:Nat) (ob:List Ob) (r:Option SV):Option (SV × List Ob) :=
 match r with
 | some r0=>X7 res n0 (gc n0 r0 ob)
 | none=>none
theorem X8 {res:RM} {n0:Nat} {rs:List RX} {out:SV × List Ob} {sl:List SV} {ob:List Ob}:Wr res n0 rs out .ret ⟨sl,ob⟩=(QE res n0 ob (NO ⟨sl,ob⟩ rs)=some out):=rfl
theorem X9 {res:RM} {n0:Nat} {rs:List RX} {out:SV × List Ob} {sl:List SV} {ob:List Ob}:Wr res n0 rs out .normal ⟨sl,ob⟩=(QE res n0 ob (NO ⟨sl,ob⟩ rs)=some out):=rfl
theorem Ws {res:RM} {n0:Nat} {ob:List Ob} {r:SV}:QE res n0 ob (some r)=X7 res n0 (gc n0 r ob):=rfl
theorem XA {n0:Nat} {r:SV} {ob:List Ob} {res:RM}:X7 res n0 (some (r,ob))=order res n0 r ob:=rfl
theorem Ak {f:FuncId} {fc:FC} {hand:List Bool} {res:RM} {tr:Bool} {xs:List SV} {ob:List Ob} {out:SV × List Ob} (hc:Ao Tryz.prog f=some fc) (hr:modes f=⟨hand,res,none,tr⟩) (hn:xs.length≤fc.nt) (h:go ob.length (Gx res fc.sc) ⟨xs++HE (fc.nt-xs.length),entry tr ob⟩ (Wr res ob.length fc.rs out)):E f xs ob=some out:=by
 obtain ⟨x,st',h1,h2⟩:=h
 unfold E
 rw [WJ]
 unfold F1
 rw [hc,hr]
 simp only
 rw [decide_eq_true hn,cond_true]
 have h1:fr Tryz.prog (Cu modes (ev Tryz.prog modes)) (J5 ob.length) (Gx res fc.sc) ⟨xs++HE (fc.nt-xs.length),entry tr ob⟩=some (x,st'):=h1
 rw [h1]
 exact h2
theorem UJ {f:FuncId} {g:List SV→List Ob→Option (SV × List Ob)} {xs:List SV} {ob:List Ob} (hg:(modes f).ext=some g):E f xs ob=g xs ob:=by
 unfold E
 rw [WJ]
 unfold F1
 rw [hg]
theorem QF {f:FuncId} {g:List SV→Option SV} {xs:List SV} {r:SV} (hg:(modes f).ext=some (Kc g)) (h:g xs=some r):E f xs []=some (r,[]):=by
 rw [UJ hg]
 simp only [Kc,h]
theorem BX:modes 49=⟨[],.asis,some (Kc OL),false⟩:=by unfold modes; rfl
theorem Cf {k:Int} (h1:1≤k) (h2:k≤1099511627776):E 49 [.int .i64 k] []=some (.str (BU k),[]):=by
 refine QF (g:=OL) (by unfold modes; rfl) ?_
 simp only [OL,A6 h1,A6 h2,zC,cond_true]
theorem Ae:modes 94=⟨[],.asis,some (Kc U4),false⟩:=by unfold modes; rfl
theorem Cb (s:ByteArray):E 94 [.str s] []=some (.bool (BI s),[]):=QF (g:=U4) (congrArg FM.ext Ae) rfl
theorem Aj:modes 79=⟨[],.asis,some (Kc U5),false⟩:=by unfold modes; rfl
theorem DV (s:ByteArray):E 79 [.str s] []=some (.bool (BI s),[]):=QF (g:=U5) (congrArg FM.ext Aj) rfl
theorem AH:modes 95=⟨[],.asis,some (Kc U6),false⟩:=by unfold modes; rfl
theorem J8 (s:ByteArray):E 95 [.str s] []=some (.bool (Dw s),[]):=QF (g:=U6) (congrArg FM.ext AH) rfl
theorem AK:modes 80=⟨[],.asis,some (Kc U7),false⟩:=by unfold modes; rfl
theorem J9 (s:ByteArray):E 80 [.str s] []=some (.bool (Dw s),[]):=QF (g:=U7) (congrArg FM.ext AK) rfl
theorem Wt {n:Int} (h1:-9223372036854775808≤n) (h2:n≤9223372036854775807):dec (inK .i64 n)=true:=A6 (VJ.2 ⟨h1,h2⟩)
theorem get_at {α β:Type} (f:α→β) {xs:List α} {k:Nat} (h:k<xs.length):(xs.map f)[k]?=some (f xs[k]):=by rw [z5,zN h]; rfl
theorem AC (left:Int) (n:Nat):((n:Int)≤left∧szR left n=left-n)∨(left<n∧szR left n=-1):=by
 unfold szR; split <;> omega
mutual
def D.fit:D→Prop
 | .int _=>True
 | .byte _=>True
 | .bool _=>True
 | .str s=>s.size≤9223372036854775807
 | .arr es=>es.length≤9223372036854775807∧D.QG es
def D.fits:List D→Prop
 | []=>True
 | x :: r=>D.fit x∧D.fits r
def D.QG:List (List D)→Prop
 | []=>True
 | x :: r=>D.fits x∧D.QG r
end
theorem D.SH:∀ {l:List D},(∀ (j:Nat) (h:j<l.length),D.fit l[j])→D.fits l
 | [],_=>trivial
 | x :: r,h=>⟨h 0 (by simp),D.SH fun j hj=>h (j+1) (by simpa using hj)⟩
theorem D.QH:∀ {es:List (List D)},(∀ (i:Nat) (h:i<es.length),D.fits es[i])→D.QG es
 | [],_=>trivial
 | x :: r,h=>⟨h 0 (by simp),D.QH fun j hj=>h (j+1) (by simpa using hj)⟩
theorem D.G2 {α:Type} {f:α→List D}:∀ {xs:List α},D.QG (xs.map f)→∀ x∈xs,D.fits (f x)
 | [],_,x,h=>by cases h
 | y :: r,h,x,hx=>by
  simp only [zA,D.QG] at h
  rcases zQ.1 hx with rfl | hx
  ·exact h.1
  ·exact D.G2 h.2 x hx
theorem DRep.fit {own:Bool} {w:World} {S:Nat→Prop} {d:D} {v:Value} (h:DRep own w S d v):D.fit d:=by
 induction h with
 | int=>trivial
 | byte=>trivial
 | bool=>trivial
 | str S s h=>exact h
 | arr S sz es a cap f Sub h1 h2 h3 h4 h5 h6 h7 ih=>exact ⟨Nat.le_trans h1 h2,D.QH fun i hi=>D.SH fun j hj=>ih i j hi hj⟩
theorem WL:dec True=true:=A6 trivial
theorem WM:dec False=false:=An fun h=>h
attribute [go_sem] pfx Em Ja OT.GY OT.Q1 OT.half Xy VU Fz Qq SV.isNil Ob.idsB SV.idsB SV.Gn List.getElem?_cons_zero List.getElem?_cons_succ OT.A7 OT.BL OT.full entry toTree S8 Q2 S7 CZ Gu DG Uo Ot Uw OT.erss OT.ers OT.er OT.Bh OT.BT OT.noSh quiet obB Rq II meets H6 go_skip Wd go_ret Xf We Xg UA Wg Wh Wi Xh Xi Xj XX XY XZ Wj Wk UC T5 Wl UD T6 Wm Xn Xo Ya Xp Xq Xr Yb Xs Xt UF Xv Xw Xx Xz X2 X3 X4 X5 Qx Qw CT seen T7 RQ Wn Wo X6 T8 F0 UG UH UI X8 X9 Ws XA order opF fOp Eb S3 VK S1 S2 Un HG eqK As gets Am DH EN CE JV M7 AB Tp SV.cellsN SV.one IW splice CW Qd IV JT CL Bt BD AS Gh Hq Rt eOp.mkEs eOp.addS D.sv OT.sv D.ot Gp FW reach SV.refs SV.O4 SV.ptrs SV.O5 Ob.refs Ob.liveB Gv E4 SV.back SV.L4 Ob.back Gl Hr Ca AX AZ J2 GW SV.ren SV.EP Ob.ren mkU sgp gc L8 names Ka VN VO VP MS Ux VQ VR VS VT VV VW SC.mark O9 ES slots NO R1 rxV HE Qv SV.noSh SV.Lz Ob.noSh SV.own SV.Pz ER cond_true cond_false zL yU zA z7 List.drop_succ_cons zH List.drop_nil List.take_succ_cons yV List.take_nil yB yL List.cons_append yX List.all_nil List.getD_cons_zero List.getD_cons_succ yQ List.any_nil List.contains_cons List.contains_nil List.isEmpty_nil List.isEmpty_cons List.flatten_cons List.flatten_nil List.replicate_succ List.replicate_zero List.set_cons_zero List.set_cons_succ Nat.add_zero Nat.zero_add zY zI zK yY zC Bool.or_false Bool.false_or Bool.true_or Bool.or_true Bool.not_true Bool.not_false yW yO decide_true decide_false beq_self_eq_true if_true if_false Option.map_some Option.map_none zO Option.getD_some Option.getD_none Int.toNat_natCast true_and and_true and_self eq_self_iff_true zJ yC Bool.true_eq_false zU SV.int.injEq SV.bool.injEq SV.str.injEq SV.agg.injEq SV.tup.injEq SV.arr.injEq zT St.mk.injEq Int.zero_add WL WM Wt A6 An XQ svK svD TT svM MV.sv Sp Up Qs Uq FU St.app Q4 MK.sv T9 TA TC Wp Wq
attribute [go_sem_proc] Nat.reduceAdd Nat.reduceSub Nat.reduceLT Nat.reduceLeDiff Nat.reduceEqDiff Nat.reduceBEq Nat.reduceBneDiff Nat.reduceMul Int.reduceToNat Int.reduceNeg Int.reduceAdd reduceCtorEq
attribute [go_sem_proc ↓] reduceIte
theorem P9:∀ xs:List ByteArray,OT.A7 (xs.map fun s=>[OT.str s])=true
 | []=>rfl
 | x :: xs=>by simp only [zA,OT.A7,OT.BL,OT.full,P9 xs,zC]
theorem PA:∀ xs:List Int,OT.A7 (xs.map fun n=>[OT.int n])=true
 | []=>rfl
 | x :: xs=>by simp only [zA,OT.A7,OT.BL,OT.full,PA xs,zC]
theorem Tm.fu_of:∀ xs:List Tm,(∀ x∈xs,OT.BL (Tm.o x)=true)→OT.A7 (xs.map Tm.o)=true
 | [],_=>rfl
 | x :: xs,h=>by
  simp only [zA,OT.A7]
  rw [h x (by simp),Tm.fu_of xs fun y hy=>h y (by simp [hy])]; rfl
theorem Tm.fu (x:Tm):OT.BL (Tm.o x)=true:=by
 have h:=Tm.fu_of x.args fun y hy=>Tm.fu y
 rw [Tm.o_eq]
 simp only [OT.BL,OT.full,h,zC,zK]
termination_by SizeOf.sizeOf x
decreasing_by exact Tm.lt_of_mem hy
theorem Tm.fus (xs:List Tm):OT.A7 (xs.map Tm.o)=true:=Tm.fu_of xs fun x _=>Tm.fu x
theorem Fm.fu_of:∀ xs:List Fm,(∀ x∈xs,OT.BL (Fm.o x)=true)→OT.A7 (xs.map Fm.o)=true
 | [],_=>rfl
 | x :: xs,h=>by
  simp only [zA,OT.A7]
  rw [h x (by simp),Fm.fu_of xs fun y hy=>h y (by simp [hy])]; rfl
theorem Fm.fu (x:Fm):OT.BL (Fm.o x)=true:=by
 have h:=Fm.fu_of x.parts fun y hy=>Fm.fu y
 rw [Fm.o_eq]
 simp only [OT.BL,OT.full,h,Tm.fus,zC,zK]
termination_by SizeOf.sizeOf x
decreasing_by exact Fm.lt_of_mem hy
theorem Fm.fus (xs:List Fm):OT.A7 (xs.map Fm.o)=true:=Fm.fu_of xs fun x _=>Fm.fu x
theorem Lt.fu (x:Lt):OT.BL (Lt.o x)=true:=by
 simp only [Lt.o,OT.BL,OT.full,Tm.fus,zC,zK]
theorem Lt.fus:∀ xs:List Lt,OT.A7 (xs.map Lt.o)=true
 | []=>rfl
 | x :: xs=>by simp only [zA,OT.A7,Lt.fu,Lt.fus xs,zC]
theorem Cl.fu (x:Cl):OT.BL (Cl.o x)=true:=by
 simp only [Cl.o,OT.BL,OT.full,Lt.fus,zC,zK]
theorem Cl.fus:∀ xs:List Cl,OT.A7 (xs.map Cl.o)=true
 | []=>rfl
 | x :: xs=>by simp only [zA,OT.A7,Cl.fu,Cl.fus xs,zC]
theorem Ag.fu (x:Ag):OT.BL (Ag.o x)=true:=by
 simp only [Ag.o,OT.BL,OT.full,zC,zK]
theorem Ag.fus:∀ xs:List Ag,OT.A7 (xs.map Ag.o)=true
 | []=>rfl
 | x :: xs=>by simp only [zA,OT.A7,Ag.fu,Ag.fus xs,zC]
theorem Bd.fu (x:Bd):OT.BL (Bd.o x)=true:=by
 simp only [Bd.o,OT.BL,OT.full,Tm.fus,zC,zK]
theorem Bd.fus:∀ xs:List Bd,OT.A7 (xs.map Bd.o)=true
 | []=>rfl
 | x :: xs=>by simp only [zA,OT.A7,Bd.fu,Bd.fus xs,zC]
theorem Sb.fu (x:Sb):OT.BL (Sb.o x)=true:=by
 simp only [Sb.o,OT.BL,OT.full,Bd.fus,zC,zK]
theorem Sb.fus:∀ xs:List Sb,OT.A7 (xs.map Sb.o)=true
 | []=>rfl
 | x :: xs=>by simp only [zA,OT.A7,Sb.fu,Sb.fus xs,zC]
theorem Df.fu (x:Df):OT.BL (Df.o x)=true:=by
 simp only [Df.o,OT.BL,OT.full,Fm.fus,Tm.fus,P9,zC,zK]
theorem Df.fus:∀ xs:List Df,OT.A7 (xs.map Df.o)=true
 | []=>rfl
 | x :: xs=>by simp only [zA,OT.A7,Df.fu,Df.fus xs,zC]
theorem Tl.fu (x:Tl):OT.BL (Tl.o x)=true:=by
 simp only [Tl.o,OT.BL,OT.full,PA,zC,zK]
theorem Tl.fus:∀ xs:List Tl,OT.A7 (xs.map Tl.o)=true
 | []=>rfl
 | x :: xs=>by simp only [zA,OT.A7,Tl.fu,Tl.fus xs,zC]
theorem Ip.fu (x:Ip):OT.BL (Ip.o x)=true:=by
 simp only [Ip.o,OT.BL,OT.full,Tl.fus,zC,zK]
theorem Ip.fus:∀ xs:List Ip,OT.A7 (xs.map Ip.o)=true
 | []=>rfl
 | x :: xs=>by simp only [zA,OT.A7,Ip.fu,Ip.fus xs,zC]
attribute [go_sem] P9 PA SA SB SD SE Tm.fus Tm.erss Tm.noss Fm.fus Fm.erss Fm.noss Lt.fus Lt.erss Lt.noss Cl.fus Cl.erss Cl.noss Ag.fus Ag.erss Ag.noss Bd.fus Bd.erss Bd.noss Sb.fus Sb.erss Sb.noss Df.fus Df.erss Df.noss Tl.fus Tl.erss Tl.noss Ip.fus Ip.erss Ip.noss
theorem F5 {α β:Type} (f:α→β) (dn rest:List α) (x y:α) {k:Nat} (h:dn.length=k):((dn++x :: rest).map f).set k (f y)=((dn++[y])++rest).map f:=by
 subst h
 rw [yA,List.set_append_right _ _ (by simp)]
 simp
theorem Da {α:Type} (a:α):dec (a=a)=true:=A6 rfl
def En {α β:Type} (f:α→β) (z:β) (xs:List α) (k:Nat):List β:=(xs.take k).map f++List.replicate (xs.length-k) z
section
variable {α β:Type} (f:α→β) (z:β) {xs:List α} {k:Nat}
theorem EY:En f z xs 0=List.replicate xs.length z:=by simp [En]
theorem G3:(En f z xs k).length=xs.length:=by simp [En]; omega
theorem G4:En f z xs xs.length=xs.map f:=by simp [En]
theorem G5 (h:k<xs.length):(En f z xs k)[k]?=some z:=by
 have hl:((xs.take k).map f).length=k:=by simp; omega
 unfold En
 rw [zR (by omega),hl,yF,List.getElem?_replicate]
 simp; omega
theorem G6 (h:k<xs.length):(En f z xs k).set k (f xs[k])=En f z xs (k+1):=by
 have hl:((xs.take k).map f).length=k:=by simp; omega
 have e:List.take (k+1) xs=List.take k xs++[xs[k]]:=yG h
 unfold En
 rw [List.set_append_right _ _ (by omega),hl,yF,e,yA,List.append_assoc]
 congr 1
 rw [show xs.length-k=(xs.length-(k+1))+1 by omega,List.replicate_succ,List.set_cons_zero]
 rfl
end
theorem Wu (a b:Int):(bif dec (a<b) then b else a)=max a b:=by
 by_cases h:a<b
 ·rw [A6 h,cond_true,Int.max_eq_right (by omega)]
 ·rw [An h,cond_false,Int.max_eq_left (by omega)]
def Ck {α:Type} (p:α→Bool):List α→Int→Int
 | [],_=>-1
 | x :: xs,i=>if p x then i else Ck p xs (i+1)
theorem G7 {α:Type} (p:α→Bool):∀ (xs:List α),dec (0≤Ck p xs 0)=xs.any p:=by
 have key:∀ (xs:List α) (i:Int),0≤i→(0≤Ck p xs i ↔ xs.any p=true):=by
  intro xs
  induction xs with
  | nil=>intro i h; simp [Ck]
  | cons x xs ih =>
   intro i h
   simp only [Ck,yQ,z4]
   by_cases hp:p x=true
   ·simp [hp,h]
   ·rw [if_neg hp,ih (i+1) (by omega)]; simp [hp]
 intro xs
 cases h:xs.any p with
 | true=>exact A6 ((key xs 0 (by omega)).2 h)
 | false=>exact An fun h'=>by rw [(key xs 0 (by omega)).1 h'] at h; cases h
theorem Tm.nodes_eq (x:Tm):x.nodes=1+Tm.nodeS x.args:=by
 obtain ⟨name,args⟩:=x
 rw [Tm.nodes]; rfl
theorem Tm.nodes_pos (x:Tm):1≤x.nodes:=by rw [Tm.nodes_eq]; omega
theorem Tm.nodes_le:∀ (xs:List Tm) (k:Nat) (h:k<xs.length),xs[k].nodes≤Tm.nodeS xs
 | [],k,h=>absurd h (by simp)
 | x :: xs,0,_=>by rw [Tm.nodeS]; simp
 | x :: xs,k+1,h=>by
  have:=Tm.nodes_le xs k (by simpa using h)
  rw [Tm.nodeS]; simp only [yH]; omega
theorem Tm.PB (x:Tm):x.deep=Tm.F2 x.args+1:=by
 obtain ⟨name,args⟩:=x
 rw [Tm.deep]; rfl
theorem Tm.HR:∀ xs:List Tm,(∀ y∈xs,y.deep≤y.nodes)→Tm.F2 xs≤Tm.nodeS xs
 | [],_=>by simp [Tm.F2]
 | x :: xs,h=>by
  have h1:=h x (by simp)
  have h2:=Tm.HR xs fun y hy=>h y (by simp [hy])
  rw [Tm.F2,Tm.nodeS]; omega
theorem Tm.FX (x:Tm):x.deep≤x.nodes:=by
 rw [Tm.PB,Tm.nodes_eq]
 have:=Tm.HR x.args fun y hy=>Tm.FX y
 omega
termination_by SizeOf.sizeOf x
decreasing_by exact Tm.lt_of_mem hy
theorem Tm.HS (x:Tm):x.names=if BI x.name then x.args.length == 0 else Dw x.name&&decide (x.args.length≤4)&&Tm.F3 x.args:=by
 obtain ⟨name,args⟩:=x
 rw [Tm.names]; rfl
theorem Tm.G8:∀ xs:List Tm,Tm.F3 xs=xs.all Tm.names
 | []=>rfl
 | x :: xs=>by rw [Tm.F3,Tm.G8 xs]; rfl
theorem Tm.length_le:∀ xs:List Tm,xs.length≤Tm.nodeS xs
 | []=>zY _
 | x :: xs=>by
  have:=Tm.length_le xs
  have:=Tm.nodes_pos x
  rw [Tm.nodeS]; simp only [zL]; omega
theorem Tm.nodes_mem {xs:List Tm} {y:Tm} (h:y∈xs):y.nodes≤Tm.nodeS xs:=by
 obtain ⟨k,hk,rfl⟩:=z8 h
 exact Tm.nodes_le xs k hk
theorem ON {xs:List Tm} (h:xs.length=2):Tm.F3 xs=((xs[0]'(by omega)).names&&(xs[1]'(by omega)).names):=by
 match xs,h with
 | [a,b],_=>simp [Tm.F3]
mutual
def Tm.cap:Tm→Int
 | .mk _ xs=>Tm.capL xs 1
def Tm.capL:List Tm→Int→Int
 | [],n=>n
 | x :: xs,n=>if 30 < n then n else Tm.capL xs (n+Tm.cap x)
end
theorem Tm.cap_eq (x:Tm):x.cap=Tm.capL x.args 1:=by
 obtain ⟨n,xs⟩:=x
 rw [Tm.cap]; rfl
theorem Tm.capL_spec:∀ (xs:List Tm) (n:Int),(∀ x∈xs,1≤x.cap∧x.cap≤x.nodes∧(x.cap≤30→x.cap=x.nodes))→1≤n→n≤Tm.capL xs n∧Tm.capL xs n≤n+Tm.nodeS xs∧(Tm.capL xs n≤30→Tm.capL xs n=n+Tm.nodeS xs)
 | [],n,_,h=>by simp [Tm.capL,Tm.nodeS]
 | x :: xs,n,hx,h=>by
  rw [Tm.capL,Tm.nodeS]
  have h1:=hx x (by simp)
  split
  ·omega
  ·have:=Tm.capL_spec xs (n+x.cap) (fun y hy=>hx y (by simp [hy])) (by omega)
   omega
theorem Tm.cap_spec (x:Tm):1≤x.cap∧x.cap≤x.nodes∧(x.cap≤30→x.cap=x.nodes):=by
 rw [Tm.cap_eq,Tm.nodes_eq]
 have:=Tm.capL_spec x.args 1 (fun y hy=>Tm.cap_spec y) (by omega)
 omega
termination_by SizeOf.sizeOf x
decreasing_by exact Tm.lt_of_mem hy
mutual
def Tm.many:Tm→Int→Int
 | .mk _ xs,m=>Tm.manyL xs m 1
def Tm.manyL:List Tm→Int→Int→Int
 | [],_,n=>n
 | x :: xs,m,n=>if n≤m then Tm.manyL xs m (n+Tm.many x (m-n)) else n
end
theorem Tm.many_eq (x:Tm) (m:Int):x.many m=Tm.manyL x.args m 1:=by
 obtain ⟨n,xs⟩:=x
 rw [Tm.many]; rfl
theorem Tm.manyL_spec (m:Int):∀ (xs:List Tm) (n:Int),(∀ x∈xs,∀ m,0≤m→1≤x.many m∧x.many m≤x.nodes∧(x.many m≤m→x.many m=x.nodes))→1≤n→n≤Tm.manyL xs m n∧Tm.manyL xs m n≤n+Tm.nodeS xs∧(Tm.manyL xs m n≤m→Tm.manyL xs m n=n+Tm.nodeS xs)
 | [],n,_,h=>by simp [Tm.manyL,Tm.nodeS]
 | x :: xs,n,hx,h=>by
  rw [Tm.manyL,Tm.nodeS]
  split
  ·have h1:=hx x (by simp) (m-n) (by omega)
   have:=Tm.manyL_spec m xs (n+x.many (m-n)) (fun y hy=>hx y (by simp [hy])) (by omega)
   omega
  ·omega
theorem Tm.many_spec (x:Tm) (m:Int):1≤x.many m∧x.many m≤x.nodes∧(x.many m≤m→x.many m=x.nodes):=by
 rw [Tm.many_eq,Tm.nodes_eq]
 have:=Tm.manyL_spec m x.args 1 (fun y hy m _=>Tm.many_spec y m) (by omega)
 omega
termination_by SizeOf.sizeOf x
decreasing_by exact Tm.lt_of_mem hy
mutual
noncomputable def Tm.ap (f:ByteArray→Option Tm):Tm→Tm
 | .mk name args=>if BI name then (f name).getD (.mk name []) else .mk name (Tm.apL f args)
noncomputable def Tm.apL (f:ByteArray→Option Tm):List Tm→List Tm
 | []=>[]
 | x :: xs=>Tm.ap f x :: Tm.apL f xs
end
theorem Tm.Ni (f:ByteArray→Option Tm) (x:Tm):x.ap f=if BI x.name then (f x.name).getD (.mk x.name []) else .mk x.name (Tm.apL f x.args):=by
 obtain ⟨name,args⟩:=x
 rw [Tm.ap]; rfl
theorem Tm.Wv (f:ByteArray→Option Tm):∀ xs:List Tm,(Tm.apL f xs).length=xs.length
 | []=>by rw [Tm.apL]
 | x :: xs=>by rw [Tm.apL]; simp only [zL,Tm.Wv f xs]
theorem Tm.IB (f:ByteArray→Option Tm):∀ xs:List Tm,Tm.apL f xs=xs.map (Tm.ap f)
 | []=>by rw [Tm.apL]; rfl
 | x :: xs=>by rw [Tm.apL,Tm.IB f xs]; rfl
theorem Tm.Lb {x:Tm} (h:x.names=true) (hv:BI x.name=true):x.args=[]:=by
 rw [Tm.HS,if_pos hv] at h
 exact zV (by simpa using h)
theorem Tm.IC {x:Tm} (h:x.names=true) {y:Tm} (hy:y∈x.args):y.names=true:=by
 rw [Tm.HS] at h
 split at h
 ·have:x.args=[]:=zV (by simpa using h)
  rw [this] at hy; cases hy
 ·rw [zG,Tm.G8,zW] at h
  exact h.2 y hy
def LE:SC:=(.seq (.reg [⟨some 1,none,.boxv 33 2 (.t 0)⟩,⟨some 2,none,.mv (.c (.int .i64 0))⟩]) (.seq (.reg [⟨some 3,none,.mv (.c (.int .i64 1))⟩]) (.seq (.seq (.reg [⟨some 6,none,.faddr 1 (.t 1)⟩,⟨some 7,none,.load false 1 (.t 6)⟩,⟨some 8,none,.len false (.t 7)⟩,⟨some 9,none,.mv (.c (.int .i64 0))⟩]) (.block 0 (.loop [0,0,0,1,0,0,0,1,1,1,0,0,0,0,0,0,0,0,0,0,0,0] (.seq (.reg [⟨some 10,none,.bin .lss false (.t 9) (.t 8)⟩]) (.seq (.cond (.t 10) .skip (.exit 0)) (.seq (.block 1 (.seq (.reg [⟨some 11,none,.iaddr 2 (.t 7) (.t 9)⟩,⟨some 12,none,.load true 2 (.t 11)⟩,⟨(some 5),none,(.alloc 33 [(.str ⟨#[]⟩),.nil])⟩,⟨none,none,(.store 2 (.t 5) (.t 12))⟩]) (.seq (.seq (.reg [⟨some 13,none,.mv (.t 3)⟩,⟨some 14,none,.bin .gtr false (.t 13) (.c (.int .i64 30))⟩]) (.cond (.t 14) (.seq (.reg [⟨some 15,none,.mv (.t 3)⟩,⟨some 2,none,.mv (.t 15)⟩]) .ret) .skip)) (.reg [⟨some 16,none,.mv (.t 3)⟩,⟨some 17,none,.load true 2 (.t 5)⟩,⟨some 18,none,.call 186 [(.t 17)]⟩,⟨some 19,none,.bin .add false (.t 16) (.t 18)⟩,⟨some 3,none,.mv (.t 19)⟩])))) (.reg [⟨some 20,none,.bin .add false (.t 9) (.c (.int .i64 1))⟩,⟨some 9,none,.mv (.t 20)⟩]))))))) (.seq (.reg [⟨some 21,none,.mv (.t 3)⟩,⟨some 2,none,.mv (.t 21)⟩]) .ret))))
theorem QI:Ao Tryz.prog 186=some ⟨22,LE,[(.tmp 2)]⟩:=by kernel_rfl
theorem Ec:modes 186=⟨[],.asis,none,false⟩:=by unfold modes; rfl
theorem Ww (x:Tm) (hn:x.nodes≤1099511627776) (ih:∀ y∈x.args,E 186 [y.sv] []=some (.int .i64 y.cap,[])):E 186 [x.sv] []=some (.int .i64 x.cap,[]):=by
 have hl:=Tm.length_le x.args
 have hx:=Tm.nodes_eq x
 rw [Tm.cap_eq]
 refine Ak QI Ec (of_decide_eq_true rfl) ?_
 simp (disch:=omega) only [LE,go_sem,Ab]
 refine go_loop (α:=Int × Int) (fun a=>⟨slots 22 0 [(3,.int .i64 a.2),(7,.arr (x.args.map Tm.d)),(8,.int .i64 x.args.length),(9,.int .i64 a.1)],[]⟩) (fun a=>∃ k:Nat,a.1=k∧k≤x.args.length∧1≤a.2∧a.2+Tm.nodeS (x.args.drop k)≤x.nodes∧Tm.capL (x.args.drop k) a.2=Tm.capL x.args 1) (fun a=>x.args.length-a.1.toNat) (0,1) ⟨0,rfl,zI _,by dsimp only; omega,by rw [zH]; dsimp only; omega,rfl⟩ (by simp (disch:=omega) only [go_sem,Ab]) ?_
 rintro ⟨i,n⟩ ⟨k,hi,hk,hn0,hn1,hs⟩
 dsimp only at hi hn0 hn1 hs
 have hni:i.toNat=k:=by omega
 rcases zE k x.args.length with hlt | hge
 ·have hg:=get_at Tm.d hlt
  rw [Tm.d_eq] at hg
  have hd:x.args.drop k=x.args[k] :: x.args.drop (k+1):=zB hlt
  have hc:=ih x.args[k] (zD hlt)
  have hp:=Tm.cap_spec x.args[k]
  rw [hd,Tm.capL] at hs
  rw [hd,Tm.nodeS] at hn1
  rcases Int.lt_or_le 30 n with h30 | h30
  ·rw [if_pos h30] at hs
   simp (disch:=omega) only [go_sem,Ab,hni,hg,hc,Ec]
   exact hs
  ·rw [if_neg (by omega)] at hs
   simp (disch:=omega) only [go_sem,Ab,hni,hg,hc,Ec]
   refine ⟨(i+1,n+x.args[k].cap),⟨k+1,by dsimp only; omega,hlt,by dsimp only; omega,by dsimp only; omega,hs⟩,by dsimp only; omega,?_⟩
   simp only [and_self]
 ·have hd:x.args.drop k=[]:=zF hge
  rw [hd,Tm.capL] at hs
  simp (disch:=omega) only [go_sem,Ab,hni]
  exact hs
theorem UK (x:Tm) (hn:x.nodes≤1099511627776):E 186 [x.sv] []=some (.int .i64 x.cap,[]) :=
 Ww x hn fun y hy=>UK y (by have:=Tm.nodes_mem hy; have:=Tm.nodes_eq x; omega)
termination_by SizeOf.sizeOf x
decreasing_by exact Tm.lt_of_mem hy
def Jd:SC:=(.seq (.reg [⟨some 2,none,.boxv 33 2 (.t 0)⟩,⟨some 4,none,.mv (.c (.int .i64 0))⟩]) (.seq (.reg [⟨some 5,none,.mv (.c (.int .i64 1))⟩]) (.seq (.seq (.reg [⟨some 6,none,.mv (.c (.int .i64 0))⟩]) (.block 0 (.loop [0,1,1,0,0,1,1,0,0,0,0,0,0,0,0,0,0,0,0,0,0,0,0,0,0,0,0,0,0,0,0] (.seq (.seq (.reg [⟨some 7,none,.mv (.t 6)⟩,⟨some 8,none,.faddr 1 (.t 2)⟩,⟨some 9,none,.load false 1 (.t 8)⟩,⟨some 10,none,.len false (.t 9)⟩,⟨some 11,none,.bin .lss false (.t 7) (.t 10)⟩,⟨some 12,none,.mv (.t 11)⟩,⟨(some 13),(some (12,true)),(.mv (.t 5))⟩,⟨(some 14),(some (12,true)),(.mv (.t 1))⟩,⟨(some 15),(some (12,true)),(.bin .leq false (.t 13) (.t 14))⟩,⟨some 16,none,.pick (.t 12) (.t 15) (.c (.bool false))⟩]) (.cond (.t 16) .skip (.exit 0))) (.seq (.block 1 (.reg [⟨some 19,none,.mv (.t 5)⟩,⟨some 20,none,.faddr 1 (.t 2)⟩,⟨some 21,none,.load false 1 (.t 20)⟩,⟨some 22,none,.mv (.t 6)⟩,⟨some 23,none,.iaddr 2 (.t 21) (.t 22)⟩,⟨some 24,none,.load true 2 (.t 23)⟩,⟨some 25,none,.mv (.t 1)⟩,⟨some 26,none,.mv (.t 5)⟩,⟨some 27,none,.bin .sub false (.t 25) (.t 26)⟩,⟨some 28,none,.call 190 [(.t 24),(.t 27)]⟩,⟨some 29,none,.bin .add false (.t 19) (.t 28)⟩,⟨some 5,none,.mv (.t 29)⟩])) (.reg [⟨some 17,none,.mv (.t 6)⟩,⟨some 18,none,.bin .add false (.t 17) (.c (.int .i64 1))⟩,⟨some 6,none,.mv (.t 18)⟩])))))) (.seq (.reg [⟨some 30,none,.mv (.t 5)⟩,⟨some 4,none,.mv (.t 30)⟩]) .ret))))
theorem NV:Ao Tryz.prog 190=some ⟨31,Jd,[(.tmp 4)]⟩:=by kernel_rfl
theorem Db:modes 190=⟨[],.asis,none,false⟩:=by unfold modes; rfl
theorem Wx (x:Tm) (m:Int) (hm:0≤m) (hm1:m≤1099511627776) (hn:x.nodes≤1099511627776) (ih:∀ y∈x.args,∀ m:Int,0≤m→m≤1099511627776→E 190 [y.sv,.int .i64 m] []=some (.int .i64 (y.many m),[])):E 190 [x.sv,.int .i64 m] []=some (.int .i64 (x.many m),[]):=by
 have hl:=Tm.length_le x.args
 have hx:=Tm.nodes_eq x
 rw [Tm.many_eq]
 refine Ak NV Db (of_decide_eq_true rfl) ?_
 simp (disch:=omega) only [Jd,go_sem,Ab]
 refine go_loop (α:=Int × Int) (fun a=>⟨slots 31 0 [(1,.int .i64 m),(2,.ptr 0 0),(5,.int .i64 a.2),(6,.int .i64 a.1)],[.box 33 [.str x.name,.arr (x.args.map Tm.d)]]⟩) (fun a=>∃ k:Nat,a.1=k∧k≤x.args.length∧1≤a.2∧a.2+Tm.nodeS (x.args.drop k)≤x.nodes∧Tm.manyL (x.args.drop k) m a.2=Tm.manyL x.args m 1) (fun a=>x.args.length-a.1.toNat) (0,1) ⟨0,rfl,zI _,by dsimp only; omega,by rw [zH]; dsimp only; omega,rfl⟩ (by simp (disch:=omega) only [go_sem,Ab]) ?_
 rintro ⟨i,n⟩ ⟨k,hi,hk,hn0,hn1,hs⟩
 dsimp only at hi hn0 hn1 hs
 have hni:i.toNat=k:=by omega
 rcases zE k x.args.length with hlt | hge
 ·have hg:=get_at Tm.d hlt
  rw [Tm.d_eq] at hg
  have hd:x.args.drop k=x.args[k] :: x.args.drop (k+1):=zB hlt
  rw [hd,Tm.manyL] at hs
  rw [hd,Tm.nodeS] at hn1
  rcases Int.lt_or_le m n with h30 | h30
  ·rw [if_neg (by omega)] at hs
   simp (disch:=omega) only [go_sem,Ab,hni,hg,Db]
   exact hs
  ·rw [if_pos h30] at hs
   have hc:=ih x.args[k] (zD hlt) (m-n) (by omega) (by omega)
   have hp:=Tm.many_spec x.args[k] (m-n)
   simp (disch:=omega) only [go_sem,Ab,hni,hg,hc,Db]
   refine ⟨(i+1,n+x.args[k].many (m-n)),⟨k+1,by dsimp only; omega,hlt,by dsimp only; omega,by dsimp only; omega,hs⟩,by dsimp only; omega,?_⟩
   simp only [and_self]
 ·have hd:x.args.drop k=[]:=zF hge
  rw [hd,Tm.manyL] at hs
  simp (disch:=omega) only [go_sem,Ab,hni]
  exact hs
theorem UL (x:Tm) (m:Int) (hm:0≤m) (hm1:m≤1099511627776) (hn:x.nodes≤1099511627776):E 190 [x.sv,.int .i64 m] []=some (.int .i64 (x.many m),[]) :=
 Wx x m hm hm1 hn fun y hy m hm hm1=>UL y m hm hm1 (by have:=Tm.nodes_mem hy; have:=Tm.nodes_eq x; omega)
termination_by SizeOf.sizeOf x
decreasing_by exact Tm.lt_of_mem hy
def Ke:SC:=(.seq (.reg [⟨some 1,none,.boxv 33 2 (.t 0)⟩,⟨some 2,none,.mv (.c (.int .i64 0))⟩]) (.seq (.reg [⟨some 3,none,.mv (.c (.int .i64 0))⟩]) (.seq (.seq (.reg [⟨some 6,none,.faddr 1 (.t 1)⟩,⟨some 7,none,.load false 1 (.t 6)⟩,⟨some 8,none,.len false (.t 7)⟩,⟨some 9,none,.mv (.c (.int .i64 0))⟩]) (.block 0 (.loop [0,0,0,1,0,0,0,1,1,1,0,0,0,0,0,0,0,0,0,0] (.seq (.reg [⟨some 10,none,.bin .lss false (.t 9) (.t 8)⟩]) (.seq (.cond (.t 10) .skip (.exit 0)) (.seq (.block 1 (.seq (.reg [⟨some 11,none,.iaddr 2 (.t 7) (.t 9)⟩,⟨some 12,none,.load true 2 (.t 11)⟩,⟨(some 5),none,(.alloc 33 [(.str ⟨#[]⟩),.nil])⟩,⟨none,none,(.store 2 (.t 5) (.t 12))⟩]) (.reg [⟨some 13,none,.mv (.t 3)⟩,⟨some 14,none,.load true 2 (.t 5)⟩,⟨some 15,none,.call 187 [(.t 14)]⟩,⟨some 16,none,.minmax true (.t 13) (.t 15)⟩,⟨some 3,none,.mv (.t 16)⟩]))) (.reg [⟨some 17,none,.bin .add false (.t 9) (.c (.int .i64 1))⟩,⟨some 9,none,.mv (.t 17)⟩]))))))) (.seq (.reg [⟨some 18,none,.mv (.t 3)⟩,⟨some 19,none,.bin .add false (.t 18) (.c (.int .i64 1))⟩,⟨some 2,none,.mv (.t 19)⟩]) .ret))))
theorem PC:Ao Tryz.prog 187=some ⟨20,Ke,[(.tmp 2)]⟩:=by kernel_rfl
theorem E7:modes 187=⟨[],.asis,none,false⟩:=by unfold modes; rfl
def Je:SC:=(.seq (.reg [⟨some 4,none,.mv (.c (.int .i64 0))⟩]) (.seq (.seq (.reg [⟨some 5,none,.mv (.t 0)⟩,⟨some 6,none,.mv (.t 1)⟩,⟨some 7,none,.bin .gtr false (.t 5) (.t 6)⟩]) (.cond (.t 7) (.seq (.reg [⟨some 8,none,.mv (.t 0)⟩,⟨some 4,none,.mv (.t 8)⟩]) .ret) .skip)) (.seq (.reg [⟨some 9,none,.mv (.t 1)⟩,⟨some 4,none,.mv (.t 9)⟩]) .ret)))
theorem NW:Ao Tryz.prog 210=some ⟨10,Je,[(.tmp 4)]⟩:=by kernel_rfl
theorem Jf:modes 210=⟨[],.asis,none,false⟩:=by unfold modes; rfl
def HT:SC:=(.seq (.reg [⟨some 1,none,.boxv 33 2 (.t 0)⟩,⟨some 2,none,.mv (.c (.int .i64 0))⟩]) (.seq (.reg [⟨some 3,none,.mv (.c (.int .i64 0))⟩]) (.seq (.seq (.reg [⟨some 4,none,.mv (.c (.int .i64 0))⟩]) (.block 0 (.loop [0,1,0,1,1,0,0,0,0,0,0,0,0,0,0,0,0,0,0,0,0,0] (.seq (.seq (.reg [⟨some 5,none,.mv (.t 4)⟩,⟨some 6,none,.faddr 1 (.t 1)⟩,⟨some 7,none,.load false 1 (.t 6)⟩,⟨some 8,none,.len false (.t 7)⟩,⟨some 9,none,.bin .lss false (.t 5) (.t 8)⟩]) (.cond (.t 9) .skip (.exit 0))) (.seq (.block 1 (.reg [⟨some 12,none,.mv (.t 3)⟩,⟨some 13,none,.faddr 1 (.t 1)⟩,⟨some 14,none,.load false 1 (.t 13)⟩,⟨some 15,none,.mv (.t 4)⟩,⟨some 16,none,.iaddr 2 (.t 14) (.t 15)⟩,⟨some 17,none,.load true 2 (.t 16)⟩,⟨some 18,none,.call 191 [(.t 17)]⟩,⟨some 19,none,.call 210 [(.t 12),(.t 18)]⟩,⟨some 3,none,.mv (.t 19)⟩])) (.reg [⟨some 10,none,.mv (.t 4)⟩,⟨some 11,none,.bin .add false (.t 10) (.c (.int .i64 1))⟩,⟨some 4,none,.mv (.t 11)⟩])))))) (.seq (.reg [⟨some 20,none,.mv (.t 3)⟩,⟨some 21,none,.bin .add false (.t 20) (.c (.int .i64 1))⟩,⟨some 2,none,.mv (.t 21)⟩]) .ret))))
theorem Nj:Ao Tryz.prog 191=some ⟨22,HT,[(.tmp 2)]⟩:=by kernel_rfl
theorem D0:modes 191=⟨[],.asis,none,false⟩:=by unfold modes; rfl
theorem UM (a b:Int):E 210 [.int .i64 a,.int .i64 b] []=some (.int .i64 (max a b),[]):=by
 refine Ak NW Jf (of_decide_eq_true rfl) ?_
 simp (disch:=omega) only [Je,go_sem,Ab]
 repeat' (refine By (fun hq=>?_) (fun hq=>?_) <;> (first | replace hq:=Ap.1 hq | replace hq:=Bv.1 hq) <;> (try simp (disch:=omega) only [go_sem,Ab]))
 all_goals omega
theorem UN (x:Tm) (hn:x.nodes≤1099511627776) (ih:∀ y∈x.args,E 187 [y.sv] []=some (.int .i64 y.deep,[])):E 187 [x.sv] []=some (.int .i64 x.deep,[]):=by
 have hl:=Tm.length_le x.args
 have hx:=Tm.nodes_eq x
 have hd1:=Tm.PB x
 have hd2:=Tm.FX x
 refine Ak PC E7 (of_decide_eq_true rfl) ?_
 simp (disch:=omega) only [Ke,go_sem,Ab]
 refine go_loop (α:=Int × (Int)) (fun a=>⟨slots 20 0 [(3,.int .i64 (a.2)),(7,.arr (x.args.map Tm.d)),(8,.int .i64 x.args.length),(9,.int .i64 (a.1))],[]⟩) (fun a=>∃ k:Nat,a.1=k∧k≤(x.args).length∧0≤(a.2)∧max (a.2) (Tm.F2 (x.args.drop k):Nat)=(Tm.F2 x.args:Nat)) (fun a=>(x.args).length-(a.1).toNat) (0,0) ⟨0,rfl,zI _,by dsimp only; omega,by rw [zH]; dsimp only; omega⟩ (by simp (disch:=omega) only [go_sem,Ab]) ?_
 rintro ⟨i,n⟩ ⟨k,hi,hk,hR⟩
 dsimp only at hi hR
 have hni:i.toNat=k:=by omega
 have hni1:(i+1).toNat=k+1:=by omega
 rcases zE k (x.args).length with hlt | hge
 ·have hg:=get_at Tm.d hlt
  rw [Tm.d_eq] at hg
  have hc:=ih x.args[k] (zD hlt)
  rw [zB hlt,Tm.F2] at hR
  simp (disch:=omega) only [go_sem,Ab,hni,hg,hc,E7,Wu]
  refine ⟨(i+1,max n (x.args[k].deep:Int)),⟨k+1,by dsimp only; omega,hlt,by dsimp only; omega⟩,by dsimp only; omega,?_⟩
  simp only [and_self]
 ·rw [zF hge,Tm.F2] at hR
  simp (disch:=omega) only [go_sem,Ab,hni]
  omega
theorem SI (x:Tm) (hn:x.nodes≤1099511627776):E 187 [x.sv] []=some (.int .i64 x.deep,[]) :=
 UN x hn fun y hy=>SI y (by have:=Tm.nodes_mem hy; have:=Tm.nodes_eq x; omega)
termination_by SizeOf.sizeOf x
decreasing_by exact Tm.lt_of_mem hy
theorem RR (x:Tm) (hn:x.nodes≤1099511627776) (ih:∀ y∈x.args,E 191 [y.sv] []=some (.int .i64 y.deep,[])):E 191 [x.sv] []=some (.int .i64 x.deep,[]):=by
 have hl:=Tm.length_le x.args
 have hx:=Tm.nodes_eq x
 have hd1:=Tm.PB x
 have hd2:=Tm.FX x
 refine Ak Nj D0 (of_decide_eq_true rfl) ?_
 simp (disch:=omega) only [HT,go_sem,Ab]
 refine go_loop (α:=Int × (Int)) (fun a=>⟨slots 22 0 [(1,.ptr 0 0),(3,.int .i64 (a.2)),(4,.int .i64 (a.1))],[.box 33 [.str x.name,.arr (x.args.map Tm.d)]]⟩) (fun a=>∃ k:Nat,a.1=k∧k≤(x.args).length∧0≤(a.2)∧max (a.2) (Tm.F2 (x.args.drop k):Nat)=(Tm.F2 x.args:Nat)) (fun a=>(x.args).length-(a.1).toNat) (0,0) ⟨0,rfl,zI _,by dsimp only; omega,by rw [zH]; dsimp only; omega⟩ (by simp (disch:=omega) only [go_sem,Ab]) ?_
 rintro ⟨i,n⟩ ⟨k,hi,hk,hR⟩
 dsimp only at hi hR
 have hni:i.toNat=k:=by omega
 have hni1:(i+1).toNat=k+1:=by omega
 rcases zE k (x.args).length with hlt | hge
 ·have hg:=get_at Tm.d hlt
  rw [Tm.d_eq] at hg
  have hc:=ih x.args[k] (zD hlt)
  rw [zB hlt,Tm.F2] at hR
  simp (disch:=omega) only [go_sem,Ab,hni,hg,hc,D0,UM,Jf]
  refine ⟨(i+1,max n (x.args[k].deep:Int)),⟨k+1,by dsimp only; omega,hlt,by dsimp only; omega⟩,by dsimp only; omega,?_⟩
  simp only [and_self]
 ·rw [zF hge,Tm.F2] at hR
  simp (disch:=omega) only [go_sem,Ab,hni]
  omega
theorem OO (x:Tm) (hn:x.nodes≤1099511627776):E 191 [x.sv] []=some (.int .i64 x.deep,[]) :=
 RR x hn fun y hy=>OO y (by have:=Tm.nodes_mem hy; have:=Tm.nodes_eq x; omega)
termination_by SizeOf.sizeOf x
decreasing_by exact Tm.lt_of_mem hy
def BE:SC:=(.seq (.reg [⟨some 4,none,.mv (.c (.int .i64 0))⟩]) (.seq (.seq (.reg [⟨some 6,none,.mv (.t 0)⟩,⟨some 7,none,.len false (.t 6)⟩,⟨some 8,none,.mv (.c (.int .i64 0))⟩]) (.block 0 (.loop [1,1,0,0,0,0,0,1,1,0,0,0,0,0,0,0,0,0,0] (.seq (.reg [⟨some 9,none,.bin .lss false (.t 8) (.t 7)⟩]) (.seq (.cond (.t 9) .skip (.exit 0)) (.seq (.block 1 (.seq (.reg [⟨some 10,none,.mv (.t 8)⟩,⟨some 5,none,.mv (.t 10)⟩]) (.seq (.reg [⟨some 11,none,.mv (.t 1)⟩,⟨some 12,none,.mv (.t 0)⟩,⟨some 13,none,.mv (.t 5)⟩,⟨some 14,none,.iaddr 2 (.t 12) (.t 13)⟩,⟨some 15,none,.load true 2 (.t 14)⟩,⟨some 16,none,.callv (.t 11) [(.t 15)]⟩]) (.cond (.t 16) (.seq (.reg [⟨some 17,none,.mv (.t 5)⟩,⟨some 4,none,.mv (.t 17)⟩]) .ret) .skip)))) (.reg [⟨some 18,none,.bin .add false (.t 8) (.c (.int .i64 1))⟩,⟨some 8,none,.mv (.t 18)⟩]))))))) (.seq (.reg [⟨some 4,none,.mv (.c (.int .i64 (-(0+1))))⟩]) .ret)))
theorem CF:Ao Tryz.prog 209=some ⟨19,BE,[(.tmp 4)]⟩:=by kernel_rfl
theorem BF:modes 209=⟨[],.asis,none,false⟩:=by unfold modes; rfl
def Bz:SC:=(.seq (.reg [⟨some 4,none,.mv (.c (.bool false))⟩]) (.seq (.reg [⟨some 5,none,.mv (.t 0)⟩,⟨some 6,none,.mv (.t 1)⟩,⟨some 7,none,.call 209 [(.t 5),(.t 6)]⟩,⟨some 8,none,.bin .geq false (.t 7) (.c (.int .i64 0))⟩,⟨some 4,none,.mv (.t 8)⟩]) .ret))
theorem C2:Ao Tryz.prog 188=some ⟨9,Bz,[(.tmp 4)]⟩:=by kernel_rfl
theorem B0:modes 188=⟨[],.asis,none,false⟩:=by unfold modes; rfl
theorem LR (fid:Nat) (p:Tm→Bool) (xs:List Tm) (hl:xs.length≤1099511627776) (hg:E3 Tryz.prog fid=true) (hm:(modes fid).hand=[]) (hE:∀ x∈xs,E fid [x.sv] []=some (.bool (p x),[])):E 209 [.arr (xs.map Tm.d),.fn fid []] []=some (.int .i64 (Ck p xs 0),[]):=by
 refine Ak CF BF (of_decide_eq_true rfl) ?_
 simp (disch:=omega) only [BE,go_sem,Ab]
 refine go_loop (α:=Int) (fun a=>⟨slots 19 0 [(0,.arr (xs.map Tm.d)),(1,.fn fid []),(7,.int .i64 xs.length),(8,.int .i64 a)],[]⟩) (fun a=>∃ k:Nat,a=k∧k≤(xs).length∧Ck p (xs.drop k) a=Ck p xs 0) (fun a=>(xs).length-(a).toNat) 0 ⟨0,rfl,zI _,by rw [zH]⟩ (by simp (disch:=omega) only [go_sem,Ab]) ?_
 rintro i ⟨k,hi,hk,hR⟩
 have hni:i.toNat=k:=by omega
 have hni1:(i+1).toNat=k+1:=by omega
 rcases zE k (xs).length with hlt | hge
 ·have hg':=get_at Tm.d hlt
  rw [Tm.d_eq] at hg'
  have hc:=hE xs[k] (zD hlt)
  rw [zB hlt,Ck] at hR
  cases hp:p xs[k] with
  | true =>
   rw [hp] at hc hR
   simp (disch:=omega) only [go_sem,Ab,hni,hg',hc,hg,hm]
   simpa using hR
  | false =>
   rw [hp] at hc hR
   simp (disch:=omega) only [go_sem,Ab,hni,hg',hc,hg,hm]
   exact ⟨i+1,⟨k+1,by omega,hlt,by simpa using hR⟩,by omega,by first | trivial | rfl⟩
 ·rw [zF hge,Ck] at hR
  simp (disch:=omega) only [go_sem,Ab,hni]
  exact hR
theorem JA (fid:Nat) (p:Tm→Bool) (xs:List Tm) (hl:xs.length≤1099511627776) (hg:E3 Tryz.prog fid=true) (hm:(modes fid).hand=[]) (hE:∀ x∈xs,E fid [x.sv] []=some (.bool (p x),[])):E 188 [.arr (xs.map Tm.d),.fn fid []] []=some (.bool (xs.any p),[]):=by
 have h:=LR fid p xs hl hg hm hE
 refine Ak C2 B0 (of_decide_eq_true rfl) ?_
 simp (disch:=omega) only [Bz,go_sem,Ab,h,BF]
 rw [G7]
def C3:SC:=(.seq (.reg [⟨some 1,none,.boxv 33 2 (.t 0)⟩,⟨some 2,none,.mv (.c (.bool false))⟩]) (.seq (.seq (.reg [⟨some 3,none,.faddr 0 (.t 1)⟩,⟨some 4,none,.load false 1 (.t 3)⟩,⟨some 5,none,.call 94 [(.t 4)]⟩]) (.cond (.t 5) (.seq (.reg [⟨some 6,none,.faddr 1 (.t 1)⟩,⟨some 7,none,.load false 1 (.t 6)⟩,⟨some 8,none,.len false (.t 7)⟩,⟨some 9,none,.bin .eql false (.t 8) (.c (.int .i64 0))⟩,⟨some 2,none,.mv (.t 9)⟩]) .ret) .skip)) (.seq (.reg [⟨some 10,none,.faddr 0 (.t 1)⟩,⟨some 11,none,.load false 1 (.t 10)⟩,⟨some 12,none,.call 95 [(.t 11)]⟩,⟨some 13,none,.mv (.t 12)⟩,⟨(some 14),(some (13,true)),(.faddr 1 (.t 1))⟩,⟨(some 15),(some (13,true)),(.load false 1 (.t 14))⟩,⟨(some 16),(some (13,true)),(.len false (.t 15))⟩,⟨(some 17),(some (13,true)),(.bin .leq false (.t 16) (.c (.int .i64 4)))⟩,⟨some 18,none,.pick (.t 13) (.t 17) (.c (.bool false))⟩,⟨some 19,none,.mv (.t 18)⟩,⟨(some 20),(some (19,true)),(.faddr 1 (.t 1))⟩,⟨(some 21),(some (19,true)),(.load false 1 (.t 20))⟩,⟨(some 22),(some (19,true)),(.call 188 [(.t 21),(.c (.fn 189 []))])⟩,⟨(some 23),(some (19,true)),(.un .not (.t 22))⟩,⟨some 24,none,.pick (.t 19) (.t 23) (.c (.bool false))⟩,⟨some 2,none,.mv (.t 24)⟩]) .ret)))
theorem Dj:Ao Tryz.prog 166=some ⟨25,C3,[(.tmp 2)]⟩:=by kernel_rfl
theorem AL:modes 166=⟨[],.asis,none,false⟩:=by unfold modes; rfl
def F6:SC:=(.seq (.reg [⟨some 1,none,.boxv 33 2 (.t 0)⟩,⟨some 2,none,.mv (.c (.bool false))⟩]) (.seq (.reg [⟨some 3,none,.load true 2 (.t 1)⟩,⟨some 4,none,.call 166 [(.t 3)]⟩,⟨some 5,none,.un .not (.t 4)⟩,⟨some 2,none,.mv (.t 5)⟩]) .ret))
theorem Kf:Ao Tryz.prog 189=some ⟨6,F6,[(.tmp 2)]⟩:=by kernel_rfl
theorem F7:modes 189=⟨[],.asis,none,false⟩:=by unfold modes; rfl
theorem Kg:E3 Tryz.prog 189=true:=by kernel_rfl
theorem Tm.any_not (xs:List Tm):(!xs.any fun y=>!y.names)=Tm.F3 xs:=by
 rw [Tm.G8]
 induction xs with
 | nil=>rfl
 | cons x xs ih=>simp only [yQ,yX,Bool.not_or,Bool.not_not,ih]
theorem QJ (x:Tm) (hn:x.nodes≤1099511627776) (ih:∀ y∈x.args,E 166 [y.sv] []=some (.bool y.names,[])):E 166 [x.sv] []=some (.bool x.names,[]):=by
 have hl:=Tm.length_le x.args
 have hx:=Tm.nodes_eq x
 have h1:∀ y∈x.args,E 189 [y.sv] []=some (.bool (!y.names),[]):=fun y hy=>by
  have h:=ih y hy
  refine Ak Kf F7 (of_decide_eq_true rfl) ?_
  simp (disch:=omega) only [F6,go_sem,Ab,h,AL]
 have h2:=JA 189 (fun y=>!y.names) x.args (by omega) Kg (by rw [F7]) h1
 rw [Tm.HS,← Tm.any_not]
 cases hv:BI x.name with
 | true =>
  have h3:=Cb x.name
  rw [hv] at h3
  refine Ak Dj AL (of_decide_eq_true rfl) ?_
  simp (disch:=omega) only [C3,go_sem,Ab,h3,Ae]
  rw [MH]; cases x.args <;> simp <;> omega
 | false =>
  have h3:=Cb x.name
  rw [hv] at h3
  have h4:=J8 x.name
  cases hs:Dw x.name with
  | false =>
   rw [hs] at h4
   refine Ak Dj AL (of_decide_eq_true rfl) ?_
   simp (disch:=omega) only [C3,go_sem,Ab,h2,h3,h4,Ae,AH]
  | true =>
   rw [hs] at h4
   rcases zE 4 x.args.length with h5 | h5
   ·refine Ak Dj AL (of_decide_eq_true rfl) ?_
    simp (disch:=omega) only [C3,go_sem,Ab,h2,h3,h4,Ae,AH]
    simp; omega
   ·refine Ak Dj AL (of_decide_eq_true rfl) ?_
    simp (disch:=omega) only [C3,go_sem,Ab,h2,h3,h4,Ae,AH,B0]
    simp [h5]
theorem Hg (x:Tm) (hn:x.nodes≤1099511627776):E 166 [x.sv] []=some (.bool x.names,[]) :=
 QJ x hn fun y hy=>Hg y (by have:=Tm.nodes_mem hy; have:=Tm.nodes_eq x; omega)
termination_by SizeOf.sizeOf x
decreasing_by exact Tm.lt_of_mem hy
def CG:SC:=(.seq (.reg [⟨some 1,none,.boxv 33 2 (.t 0)⟩,⟨some 2,none,.mv (.c (.bool false))⟩]) (.seq (.seq (.reg [⟨some 4,none,.faddr 0 (.t 1)⟩,⟨some 5,none,.load false 1 (.t 4)⟩,⟨some 6,none,.call 79 [(.t 5)]⟩]) (.cond (.t 6) (.seq (.reg [⟨some 7,none,.faddr 1 (.t 1)⟩,⟨some 8,none,.load false 1 (.t 7)⟩,⟨some 9,none,.len false (.t 8)⟩,⟨some 10,none,.bin .eql false (.t 9) (.c (.int .i64 0))⟩,⟨some 2,none,.mv (.t 10)⟩]) .ret) .skip)) (.seq (.seq (.reg [⟨some 11,none,.faddr 0 (.t 1)⟩,⟨some 12,none,.load false 1 (.t 11)⟩,⟨some 13,none,.call 80 [(.t 12)]⟩,⟨some 14,none,.un .not (.t 13)⟩,⟨some 15,none,.mv (.t 14)⟩,⟨(some 16),(some (15,false)),(.faddr 1 (.t 1))⟩,⟨(some 17),(some (15,false)),(.load false 1 (.t 16))⟩,⟨(some 18),(some (15,false)),(.len false (.t 17))⟩,⟨(some 19),(some (15,false)),(.bin .gtr false (.t 18) (.c (.int .i64 4)))⟩,⟨some 20,none,.pick (.t 15) (.c (.bool true)) (.t 19)⟩]) (.cond (.t 20) (.seq (.reg [⟨some 2,none,.mv (.c (.bool false))⟩]) .ret) .skip)) (.seq (.seq (.reg [⟨some 3,none,.mv (.c (.int .i64 0))⟩]) (.block 0 (.loop [0,1,0,1,0,0,0,0,0,0,0,0,0,0,0,0,0,0,0,0,0,0,0,0,0,0,0,0,0,0,0,0,0,0,0] (.seq (.seq (.reg [⟨some 21,none,.mv (.t 3)⟩,⟨some 22,none,.faddr 1 (.t 1)⟩,⟨some 23,none,.load false 1 (.t 22)⟩,⟨some 24,none,.len false (.t 23)⟩,⟨some 25,none,.bin .lss false (.t 21) (.t 24)⟩]) (.cond (.t 25) .skip (.exit 0))) (.seq (.block 1 (.seq (.reg [⟨some 28,none,.faddr 1 (.t 1)⟩,⟨some 29,none,.load false 1 (.t 28)⟩,⟨some 30,none,.mv (.t 3)⟩,⟨some 31,none,.iaddr 2 (.t 29) (.t 30)⟩,⟨some 32,none,.load true 2 (.t 31)⟩,⟨some 33,none,.call 171 [(.t 32)]⟩,⟨some 34,none,.un .not (.t 33)⟩]) (.cond (.t 34) (.seq (.reg [⟨some 2,none,.mv (.c (.bool false))⟩]) .ret) .skip))) (.reg [⟨some 26,none,.mv (.t 3)⟩,⟨some 27,none,.bin .add false (.t 26) (.c (.int .i64 1))⟩,⟨some 3,none,.mv (.t 27)⟩])))))) (.seq (.reg [⟨some 2,none,.mv (.c (.bool true))⟩]) .ret)))))
theorem D1:Ao Tryz.prog 171=some ⟨35,CG,[(.tmp 2)]⟩:=by kernel_rfl
theorem AM:modes 171=⟨[],.asis,none,false⟩:=by unfold modes; rfl
theorem RS (x:Tm) (hn:x.nodes≤1099511627776) (ih:∀ y∈x.args,E 171 [y.sv] []=some (.bool y.names,[])):E 171 [x.sv] []=some (.bool x.names,[]):=by
 have hl:=Tm.length_le x.args
 have hx:=Tm.nodes_eq x
 have h3:=DV x.name
 have h4:=J9 x.name
 rw [Tm.HS]
 cases hv:BI x.name with
 | true =>
  rw [hv] at h3
  refine Ak D1 AM (of_decide_eq_true rfl) ?_
  simp (disch:=omega) only [CG,go_sem,Ab,h3,Aj]
  rw [MH]; cases x.args <;> simp <;> omega
 | false =>
  rw [hv] at h3
  cases hs:Dw x.name with
  | false =>
   rw [hs] at h4
   refine Ak D1 AM (of_decide_eq_true rfl) ?_
   simp (disch:=omega) only [CG,go_sem,Ab,h3,h4,Aj,AK]
  | true =>
   rw [hs] at h4
   rcases zE 4 x.args.length with h5 | h5
   ·refine Ak D1 AM (of_decide_eq_true rfl) ?_
    simp (disch:=omega) only [CG,go_sem,Ab,h3,h4,Aj,AK]
    simp; omega
   ·refine Ak D1 AM (of_decide_eq_true rfl) ?_
    simp (disch:=omega) only [CG,go_sem,Ab,h3,h4,Aj,AK]
    refine go_loop (α:=Int) (fun a=>⟨slots 35 0 [(1,.ptr 0 0),(3,.int .i64 a)],[.box 33 [.str x.name,.arr (x.args.map Tm.d)]]⟩) (fun a=>∃ k:Nat,a=k∧k≤(x.args).length∧Tm.F3 (x.args.drop k)=Tm.F3 x.args) (fun a=>(x.args).length-(a).toNat) 0 ⟨0,rfl,zI _,by rw [zH]⟩ (by simp (disch:=omega) only [go_sem,Ab]) ?_
    rintro i ⟨k,hi,hk,hR⟩
    have hni:i.toNat=k:=by omega
    have hni1:(i+1).toNat=k+1:=by omega
    rcases zE k (x.args).length with hlt | hge
    ·have hg:=get_at Tm.d hlt
     rw [Tm.d_eq] at hg
     have hc:=ih x.args[k] (zD hlt)
     rw [zB hlt,Tm.F3] at hR
     cases hp:x.args[k].names with
     | true =>
      rw [hp] at hc hR
      simp (disch:=omega) only [go_sem,Ab,hni,hg,hc,AM]
      exact ⟨i+1,⟨k+1,by omega,hlt,by simpa using hR⟩,by omega,by first | trivial | rfl⟩
     | false =>
      rw [hp] at hc hR
      simp (disch:=omega) only [go_sem,Ab,hni,hg,hc,AM]
      simp at hR ⊢; exact fun _=>hR
    ·rw [zF hge,Tm.F3] at hR
     simp (disch:=omega) only [go_sem,Ab,hni]
     simp [h5,← hR]
theorem ID (x:Tm) (hn:x.nodes≤1099511627776):E 171 [x.sv] []=some (.bool x.names,[]) :=
 RS x hn fun y hy=>ID y (by have:=Tm.nodes_mem hy; have:=Tm.nodes_eq x; omega)
termination_by SizeOf.sizeOf x
decreasing_by exact Tm.lt_of_mem hy
def EZ:SC:=(.seq (.reg [⟨some 1,none,.boxv 33 2 (.t 0)⟩,⟨some 2,none,.mv (.c (.bool false))⟩]) (.seq (.reg [⟨some 3,none,.load true 2 (.t 1)⟩,⟨some 4,none,.call 186 [(.t 3)]⟩,⟨some 5,none,.bin .leq false (.t 4) (.c (.int .i64 30))⟩,⟨some 6,none,.mv (.t 5)⟩,⟨(some 7),(some (6,true)),(.load true 2 (.t 1))⟩,⟨(some 8),(some (6,true)),(.call 187 [(.t 7)])⟩,⟨(some 9),(some (6,true)),(.bin .leq false (.t 8) (.c (.int .i64 8)))⟩,⟨some 10,none,.pick (.t 6) (.t 9) (.c (.bool false))⟩,⟨some 2,none,.mv (.t 10)⟩]) .ret))
theorem HU:Ao Tryz.prog 165=some ⟨11,EZ,[(.tmp 2)]⟩:=by kernel_rfl
theorem Bj:modes 165=⟨[],.asis,none,false⟩:=by unfold modes; rfl
def FY:SC:=(.seq (.reg [⟨some 1,none,.boxv 33 2 (.t 0)⟩,⟨some 2,none,.mv (.c (.bool false))⟩]) (.seq (.reg [⟨some 3,none,.load true 2 (.t 1)⟩,⟨some 4,none,.call 190 [(.t 3),(.c (.int .i64 30))]⟩,⟨some 5,none,.bin .leq false (.t 4) (.c (.int .i64 30))⟩,⟨some 6,none,.mv (.t 5)⟩,⟨(some 7),(some (6,true)),(.load true 2 (.t 1))⟩,⟨(some 8),(some (6,true)),(.call 191 [(.t 7)])⟩,⟨(some 9),(some (6,true)),(.bin .leq false (.t 8) (.c (.int .i64 8)))⟩,⟨some 10,none,.pick (.t 6) (.t 9) (.c (.bool false))⟩,⟨some 2,none,.mv (.t 10)⟩]) .ret))
theorem Jg:Ao Tryz.prog 170=some ⟨11,FY,[(.tmp 2)]⟩:=by kernel_rfl
theorem Bu:modes 170=⟨[],.asis,none,false⟩:=by unfold modes; rfl
def Dq:SC:=(.seq (.reg [⟨some 1,none,.boxv 33 2 (.t 0)⟩,⟨some 2,none,.mv (.c (.bool false))⟩]) (.seq (.reg [⟨some 3,none,.load true 2 (.t 1)⟩,⟨some 4,none,.call 165 [(.t 3)]⟩,⟨some 5,none,.mv (.t 4)⟩,⟨(some 6),(some (5,true)),(.load true 2 (.t 1))⟩,⟨(some 7),(some (5,true)),(.call 166 [(.t 6)])⟩,⟨some 8,none,.pick (.t 5) (.t 7) (.c (.bool false))⟩,⟨some 2,none,.mv (.t 8)⟩]) .ret))
theorem Fa:Ao Tryz.prog 167=some ⟨9,Dq,[(.tmp 2)]⟩:=by kernel_rfl
theorem Ba:modes 167=⟨[],.asis,none,false⟩:=by unfold modes; rfl
def FZ:SC:=(.seq (.reg [⟨some 1,none,.boxv 33 2 (.t 0)⟩,⟨some 2,none,.mv (.c (.bool false))⟩]) (.seq (.reg [⟨some 3,none,.load true 2 (.t 1)⟩,⟨some 4,none,.call 170 [(.t 3)]⟩,⟨some 5,none,.mv (.t 4)⟩,⟨(some 6),(some (5,true)),(.load true 2 (.t 1))⟩,⟨(some 7),(some (5,true)),(.call 171 [(.t 6)])⟩,⟨some 8,none,.pick (.t 5) (.t 7) (.c (.bool false))⟩,⟨some 2,none,.mv (.t 8)⟩]) .ret))
theorem Jh:Ao Tryz.prog 172=some ⟨9,FZ,[(.tmp 2)]⟩:=by kernel_rfl
theorem BO:modes 172=⟨[],.asis,none,false⟩:=by unfold modes; rfl
def F8:SC:=(.seq (.reg [⟨some 1,none,.boxv 33 2 (.t 0)⟩,⟨some 2,none,.mv (.c (.bool false))⟩]) (.seq (.reg [⟨some 3,none,.faddr 0 (.t 1)⟩,⟨some 4,none,.load false 1 (.t 3)⟩,⟨(some 5),none,(.bin .eql false (.t 4) (.c (.str ⟨#[61]⟩)))⟩,⟨some 2,none,.mv (.t 5)⟩]) .ret))
theorem Kh:Ao Tryz.prog 152=some ⟨6,F8,[(.tmp 2)]⟩:=by kernel_rfl
theorem Bw:modes 152=⟨[],.asis,none,false⟩:=by unfold modes; rfl
def Bm:SC:=(.seq (.reg [⟨some 1,none,.boxv 33 2 (.t 0)⟩,⟨some 2,none,.mv (.c (.bool false))⟩]) (.seq (.seq (.reg [⟨some 3,none,.load true 2 (.t 1)⟩,⟨some 4,none,.call 152 [(.t 3)]⟩]) (.cond (.t 4) (.seq (.reg [⟨some 5,none,.faddr 1 (.t 1)⟩,⟨some 6,none,.load false 1 (.t 5)⟩,⟨some 7,none,.len false (.t 6)⟩,⟨some 8,none,.bin .eql false (.t 7) (.c (.int .i64 2))⟩,⟨some 9,none,.mv (.t 8)⟩,⟨(some 10),(some (9,true)),(.load true 2 (.t 1))⟩,⟨(some 11),(some (9,true)),(.call 165 [(.t 10)])⟩,⟨some 12,none,.pick (.t 9) (.t 11) (.c (.bool false))⟩,⟨some 13,none,.mv (.t 12)⟩,⟨(some 14),(some (13,true)),(.faddr 1 (.t 1))⟩,⟨(some 15),(some (13,true)),(.load false 1 (.t 14))⟩,⟨(some 16),(some (13,true)),(.iaddr 2 (.t 15) (.c (.int .i64 0)))⟩,⟨(some 17),(some (13,true)),(.load true 2 (.t 16))⟩,⟨(some 18),(some (13,true)),(.call 166 [(.t 17)])⟩,⟨some 19,none,.pick (.t 13) (.t 18) (.c (.bool false))⟩,⟨some 20,none,.mv (.t 19)⟩,⟨(some 21),(some (20,true)),(.faddr 1 (.t 1))⟩,⟨(some 22),(some (20,true)),(.load false 1 (.t 21))⟩,⟨(some 23),(some (20,true)),(.iaddr 2 (.t 22) (.c (.int .i64 1)))⟩,⟨(some 24),(some (20,true)),(.load true 2 (.t 23))⟩,⟨(some 25),(some (20,true)),(.call 166 [(.t 24)])⟩,⟨some 26,none,.pick (.t 20) (.t 25) (.c (.bool false))⟩,⟨some 2,none,.mv (.t 26)⟩]) .ret) .skip)) (.seq (.reg [⟨some 27,none,.faddr 0 (.t 1)⟩,⟨some 28,none,.load false 1 (.t 27)⟩,⟨some 29,none,.call 95 [(.t 28)]⟩,⟨some 30,none,.mv (.t 29)⟩,⟨(some 31),(some (30,true)),(.load true 2 (.t 1))⟩,⟨(some 32),(some (30,true)),(.call 167 [(.t 31)])⟩,⟨some 33,none,.pick (.t 30) (.t 32) (.c (.bool false))⟩,⟨some 2,none,.mv (.t 33)⟩]) .ret)))
theorem B8:Ao Tryz.prog 130=some ⟨34,Bm,[(.tmp 2)]⟩:=by kernel_rfl
theorem Ad:modes 130=⟨[],.asis,none,false⟩:=by unfold modes; rfl
def Cg:SC:=(.seq (.reg [⟨some 1,none,.boxv 33 2 (.t 0)⟩,⟨some 2,none,.mv (.c (.bool false))⟩]) (.seq (.seq (.reg [⟨some 3,none,.faddr 0 (.t 1)⟩,⟨some 4,none,.load false 1 (.t 3)⟩,⟨(some 5),none,(.bin .eql false (.t 4) (.c (.str ⟨#[61]⟩)))⟩]) (.cond (.t 5) (.seq (.reg [⟨some 6,none,.faddr 1 (.t 1)⟩,⟨some 7,none,.load false 1 (.t 6)⟩,⟨some 8,none,.len false (.t 7)⟩,⟨some 9,none,.bin .eql false (.t 8) (.c (.int .i64 2))⟩,⟨some 10,none,.mv (.t 9)⟩,⟨(some 11),(some (10,true)),(.load true 2 (.t 1))⟩,⟨(some 12),(some (10,true)),(.call 170 [(.t 11)])⟩,⟨some 13,none,.pick (.t 10) (.t 12) (.c (.bool false))⟩,⟨some 14,none,.mv (.t 13)⟩,⟨(some 15),(some (14,true)),(.faddr 1 (.t 1))⟩,⟨(some 16),(some (14,true)),(.load false 1 (.t 15))⟩,⟨(some 17),(some (14,true)),(.iaddr 2 (.t 16) (.c (.int .i64 0)))⟩,⟨(some 18),(some (14,true)),(.load true 2 (.t 17))⟩,⟨(some 19),(some (14,true)),(.call 171 [(.t 18)])⟩,⟨some 20,none,.pick (.t 14) (.t 19) (.c (.bool false))⟩,⟨some 21,none,.mv (.t 20)⟩,⟨(some 22),(some (21,true)),(.faddr 1 (.t 1))⟩,⟨(some 23),(some (21,true)),(.load false 1 (.t 22))⟩,⟨(some 24),(some (21,true)),(.iaddr 2 (.t 23) (.c (.int .i64 1)))⟩,⟨(some 25),(some (21,true)),(.load true 2 (.t 24))⟩,⟨(some 26),(some (21,true)),(.call 171 [(.t 25)])⟩,⟨some 27,none,.pick (.t 21) (.t 26) (.c (.bool false))⟩,⟨some 2,none,.mv (.t 27)⟩]) .ret) .skip)) (.seq (.reg [⟨some 28,none,.faddr 0 (.t 1)⟩,⟨some 29,none,.load false 1 (.t 28)⟩,⟨some 30,none,.call 80 [(.t 29)]⟩,⟨some 31,none,.mv (.t 30)⟩,⟨(some 32),(some (31,true)),(.load true 2 (.t 1))⟩,⟨(some 33),(some (31,true)),(.call 172 [(.t 32)])⟩,⟨some 34,none,.pick (.t 31) (.t 33) (.c (.bool false))⟩,⟨some 2,none,.mv (.t 34)⟩]) .ret)))
theorem C5:Ao Tryz.prog 145=some ⟨35,Cg,[(.tmp 2)]⟩:=by kernel_rfl
theorem Ai:modes 145=⟨[],.asis,none,false⟩:=by unfold modes; rfl
theorem OP (x:Tm) (hn:x.nodes≤1099511627776):E 165 [x.sv] []=some (.bool x.small,[]):=by
 have h1:=UK x hn
 have h2:=SI x hn
 have h3:=Tm.cap_spec x
 have h4:=Tm.many_spec x 30
 unfold Tm.small
 rcases zE 30 x.nodes with h5 | h5
 ·rw [decide_eq_false (by omega),yW]
  refine Ak HU Bj (of_decide_eq_true rfl) ?_
  simp (disch:=omega) only [EZ,go_sem,Ab,h1,h2,Ec,E7]
 ·rw [decide_eq_true h5,yY]
  refine Ak HU Bj (of_decide_eq_true rfl) ?_
  simp (disch:=omega) only [EZ,go_sem,Ab,h1,h2,Ec,E7]
  rcases zE 8 x.deep with h6 | h6
  ·rw [decide_eq_false (by omega),An (by omega)]
  ·rw [decide_eq_true h6,A6 (by omega)]
theorem QK (x:Tm) (hn:x.nodes≤1099511627776):E 170 [x.sv] []=some (.bool x.small,[]):=by
 have h1:=UL x 30 (by omega) (by omega) hn
 have h2:=OO x hn
 have h3:=Tm.cap_spec x
 have h4:=Tm.many_spec x 30
 unfold Tm.small
 rcases zE 30 x.nodes with h5 | h5
 ·rw [decide_eq_false (by omega),yW]
  refine Ak Jg Bu (of_decide_eq_true rfl) ?_
  simp (disch:=omega) only [FY,go_sem,Ab,h1,h2,Db,D0]
 ·rw [decide_eq_true h5,yY]
  refine Ak Jg Bu (of_decide_eq_true rfl) ?_
  simp (disch:=omega) only [FY,go_sem,Ab,h1,h2,Db,D0]
  rcases zE 8 x.deep with h6 | h6
  ·rw [decide_eq_false (by omega),An (by omega)]
  ·rw [decide_eq_true h6,A6 (by omega)]
theorem NX (x:Tm) (hn:x.nodes≤1099511627776):E 167 [x.sv] []=some (.bool x.valid,[]):=by
 have h1:=OP x hn
 have h2:=Hg x hn
 unfold Tm.valid
 cases h3:x.small <;> rw [h3] at h1
 ·refine Ak Fa Ba (of_decide_eq_true rfl) ?_
  simp (disch:=omega) only [Dq,go_sem,Ab,h1,h2,Bj,AL]
 ·refine Ak Fa Ba (of_decide_eq_true rfl) ?_
  simp (disch:=omega) only [Dq,go_sem,Ab,h1,h2,Bj,AL]
theorem UO (x:Tm) (hn:x.nodes≤1099511627776):E 172 [x.sv] []=some (.bool x.valid,[]):=by
 have h1:=QK x hn
 have h2:=ID x hn
 unfold Tm.valid
 cases h3:x.small <;> rw [h3] at h1
 ·refine Ak Jh BO (of_decide_eq_true rfl) ?_
  simp (disch:=omega) only [FZ,go_sem,Ab,h1,h2,Bu,AM]
 ·refine Ak Jh BO (of_decide_eq_true rfl) ?_
  simp (disch:=omega) only [FZ,go_sem,Ab,h1,h2,Bu,AM]
theorem Ki (x:Tm):E 152 [x.sv] []=some (.bool x.eqn,[]):=by
 unfold Tm.eqn
 refine Ak Kh Bw (of_decide_eq_true rfl) ?_
 simp (disch:=omega) only [F8,go_sem,Ab]
theorem NY (x:Tm) (hn:x.nodes≤1099511627776):E 130 [x.sv] []=some (.bool x.atom,[]):=by
 have hl:=Tm.length_le x.args
 have hx:=Tm.nodes_eq x
 have h0:=Ki x
 have h1:=OP x hn
 have h2:=J8 x.name
 have h3:=NX x hn
 have hE:dec (x.name=⟨#[61]⟩)=x.eqn:=rfl
 unfold Tm.atom
 cases he:x.eqn <;> rw [he] at h0 hE
 ·rw [if_neg (by simp)]
  cases hs:Dw x.name <;> rw [hs] at h2
  ·refine Ak B8 Ad (of_decide_eq_true rfl) ?_
   simp (disch:=omega) only [Bm,go_sem,Ab,h0,h1,h2,h3,hE,Bj,AL,AH,Ba,Bw]
  ·refine Ak B8 Ad (of_decide_eq_true rfl) ?_
   simp (disch:=omega) only [Bm,go_sem,Ab,h0,h1,h2,h3,hE,Bj,AL,AH,Ba,Bw]
 ·rw [if_pos rfl]
  by_cases hc:x.args.length=2
  ·have hlt0:0<x.args.length:=by omega
   have hlt1:1<x.args.length:=by omega
   have hg0:=get_at Tm.d hlt0
   have hg1:=get_at Tm.d hlt1
   rw [Tm.d_eq] at hg0 hg1
   have hb0:=Tm.nodes_le x.args 0 hlt0
   have hb1:=Tm.nodes_le x.args 1 hlt1
   have hn0:=Hg x.args[0] (by omega)
   have hn1:=Hg x.args[1] (by omega)
   rw [ON hc,show (x.args.length == 2)=true by simpa using hc]
   cases hs:x.small <;> rw [hs] at h1
   ·refine Ak B8 Ad (of_decide_eq_true rfl) ?_
    simp (disch:=omega) only [Bm,go_sem,Ab,h0,h1,h2,h3,hE,hg0,hg1,hn0,hn1,hc,Bj,AL,AH,Ba,Bw]
    try simp
   ·cases hq:(x.args[0]'hlt0).names <;> rw [hq] at hn0
    ·refine Ak B8 Ad (of_decide_eq_true rfl) ?_
     simp (disch:=omega) only [Bm,go_sem,Ab,h0,h1,h2,h3,hE,hg0,hg1,hn0,hn1,hc,Bj,AL,AH,Ba,Bw]
     try simp
    ·refine Ak B8 Ad (of_decide_eq_true rfl) ?_
     simp (disch:=omega) only [Bm,go_sem,Ab,h0,h1,h2,h3,hE,hg0,hg1,hn0,hn1,hc,Bj,AL,AH,Ba,Bw]
     try simp
  ·refine Ak B8 Ad (of_decide_eq_true rfl) ?_
   simp (disch:=omega) only [Bm,go_sem,Ab,h0,h1,h2,h3,hE,Bj,AL,AH,Ba,Bw]
   rw [show (x.args.length == 2)=false by simpa using hc]
   try simp
theorem UP (x:Tm) (hn:x.nodes≤1099511627776):E 145 [x.sv] []=some (.bool x.atom,[]):=by
 have hl:=Tm.length_le x.args
 have hx:=Tm.nodes_eq x
 have h0:=Ki x
 have h1:=QK x hn
 have h2:=J9 x.name
 have h3:=UO x hn
 have hE:dec (x.name=⟨#[61]⟩)=x.eqn:=rfl
 unfold Tm.atom
 cases he:x.eqn <;> rw [he] at h0 hE
 ·rw [if_neg (by simp)]
  cases hs:Dw x.name <;> rw [hs] at h2
  ·refine Ak C5 Ai (of_decide_eq_true rfl) ?_
   simp (disch:=omega) only [Cg,go_sem,Ab,h0,h1,h2,h3,hE,Bu,AM,AK,BO]
  ·refine Ak C5 Ai (of_decide_eq_true rfl) ?_
   simp (disch:=omega) only [Cg,go_sem,Ab,h0,h1,h2,h3,hE,Bu,AM,AK,BO]
 ·rw [if_pos rfl]
  by_cases hc:x.args.length=2
  ·have hlt0:0<x.args.length:=by omega
   have hlt1:1<x.args.length:=by omega
   have hg0:=get_at Tm.d hlt0
   have hg1:=get_at Tm.d hlt1
   rw [Tm.d_eq] at hg0 hg1
   have hb0:=Tm.nodes_le x.args 0 hlt0
   have hb1:=Tm.nodes_le x.args 1 hlt1
   have hn0:=ID x.args[0] (by omega)
   have hn1:=ID x.args[1] (by omega)
   rw [ON hc,show (x.args.length == 2)=true by simpa using hc]
   cases hs:x.small <;> rw [hs] at h1
   ·refine Ak C5 Ai (of_decide_eq_true rfl) ?_
    simp (disch:=omega) only [Cg,go_sem,Ab,h0,h1,h2,h3,hE,hg0,hg1,hn0,hn1,hc,Bu,AM,AK,BO]
    try simp
   ·cases hq:(x.args[0]'hlt0).names <;> rw [hq] at hn0
    ·refine Ak C5 Ai (of_decide_eq_true rfl) ?_
     simp (disch:=omega) only [Cg,go_sem,Ab,h0,h1,h2,h3,hE,hg0,hg1,hn0,hn1,hc,Bu,AM,AK,BO]
     try simp
    ·refine Ak C5 Ai (of_decide_eq_true rfl) ?_
     simp (disch:=omega) only [Cg,go_sem,Ab,h0,h1,h2,h3,hE,hg0,hg1,hn0,hn1,hc,Bu,AM,AK,BO]
     try simp
  ·refine Ak C5 Ai (of_decide_eq_true rfl) ?_
   simp (disch:=omega) only [Cg,go_sem,Ab,h0,h1,h2,h3,hE,Bu,AM,AK,BO]
   rw [show (x.args.length == 2)=false by simpa using hc]
   try simp
theorem Tm.RT {x:Tm} (h:x.expr=true):x.small=true:=by
 unfold Tm.expr Tm.atom Tm.valid at h
 cases hs:x.small with
 | true=>rfl
 | false =>
  rw [hs] at h
  split at h <;> simp at h
theorem Tm.RU {x:Tm} (h:x.expr=true):x.nodes≤30:=by
 have:=Tm.RT h
 unfold Tm.small at this
 rw [zG,decide_eq_true_eq] at this
 exact this.1
theorem Tm.RV {x:Tm} (h:x.expr=true):x.names=true∨(x.eqn=true∧Tm.F3 x.args=true):=by
 unfold Tm.expr Tm.valid at h
 cases hn:x.names with
 | true=>exact .inl rfl
 | false =>
  rw [hn,yO,Bool.false_or] at h
  unfold Tm.atom at h
  split at h
  ·rename_i he
   rw [zG] at h
   exact .inr ⟨he,h.2⟩
  ·unfold Tm.valid at h; rw [hn,yO,yO] at h; cases h
theorem Tm.UQ {x:Tm} (h:x.expr=true) {y:Tm} (hy:y∈x.args):y.names=true:=by
 rcases Tm.RV h with h1 | ⟨h1,h2⟩
 ·exact Tm.IC h1 hy
 ·rw [Tm.G8,zW] at h2; exact h2 y hy
theorem Tm.Nk:∀ xs:List Tm,(∀ x∈xs,x.nodes≤1+x.bulk)→Tm.nodeS xs≤xs.length+Tm.sumB xs
 | [],_=>by simp [Tm.nodeS]
 | x :: xs,h=>by
  have h1:=h x (by simp)
  have h2:=Tm.Nk xs fun y hy=>h y (by simp [hy])
  rw [Tm.nodeS,Tm.sumB]; simp only [zL]; omega
theorem Tm.Nl (x:Tm):x.nodes≤1+x.bulk:=by
 rw [Tm.nodes_eq,Tm.bulk_eq]
 have:=Tm.Nk x.args fun y hy=>Tm.Nl y
 omega
termination_by SizeOf.sizeOf x
decreasing_by exact Tm.lt_of_mem hy
theorem OQ {s:ByteArray} (h:BI s=true):s.size≤6:=by
 unfold BI inB at h
 simp at h
 omega
theorem OR {s:ByteArray} (h:Dw s=true):s.size≤6:=by
 unfold Dw inB at h
 simp at h
 omega
theorem Tm.JB:∀ xs:List Tm,(∀ x∈xs,x.bulk+1≤8*x.nodes)→xs.length+Tm.sumB xs≤8*Tm.nodeS xs
 | [],_=>by simp [Tm.nodeS,Tm.sumB]
 | x :: xs,h=>by
  have h1:=h x (by simp)
  have h2:=Tm.JB xs fun y hy=>h y (by simp [hy])
  rw [Tm.nodeS,Tm.sumB]; simp only [zL]; omega
theorem Tm.Nm (x:Tm) (h:x.names=true):x.bulk+1≤8*x.nodes:=by
 have h1:=Tm.JB x.args fun y hy=>Tm.Nm y (Tm.IC h hy)
 have h2:x.name.size≤6:=by
  rw [Tm.HS] at h
  split at h
  ·rename_i hv; exact OQ hv
  ·rw [zG,zG] at h; exact OR h.1.1
 rw [Tm.nodes_eq,Tm.bulk_eq]
 omega
termination_by SizeOf.sizeOf x
decreasing_by exact Tm.lt_of_mem hy
theorem Tm.OS {x:Tm} (h:x.atom=true):(BI x.name=true→x.args=[])∧∀ y∈x.args,y.names=true:=by
 unfold Tm.atom at h
 cases he:x.eqn with
 | true =>
  rw [he,if_pos rfl,zG,zG] at h
  have h2:=h.2
  rw [Tm.G8,zW] at h2
  refine ⟨fun hv=>?_,h2⟩
  have hn:=Ap.1 he
  have hnv0:BI ⟨#[61]⟩=false:=by kernel_rfl
  rw [hn,hnv0] at hv
  cases hv
 | false =>
  rw [he,if_neg (by simp),zG] at h
  have hnm:x.names=true:=by have h3:=h.2; unfold Tm.valid at h3; rw [zG] at h3; exact h3.2
  exact ⟨fun hv=>Tm.Lb hnm hv,fun y hy=>Tm.IC hnm hy⟩
structure Ord3 {α:Type} (c:α→α→Int) (a b d:α):Prop where
 anti:c b a=- c a b
 zero:c a b=0 ↔ a=b
 trans:c a b<0→c b d<0→c a d<0
theorem RW {p:Nat→Int→Bool} {s:ByteArray} (h:Dz p s s.size=true) (hs:0<s.size):p 0 (Kd s 0)=true:=by
 unfold Dz at h
 rw [zW] at h
 exact h 0 (List.mem_range.2 hs)
theorem Nn (a:ByteArray):strLt a a=false:=by
 unfold strLt
 have key:∀ l:List UInt8,Op.bytesLess l l=false:=by
  intro l
  induction l with
  | nil=>rfl
  | cons x l ih=>simp [Op.bytesLess,ih]
 exact key _
theorem TD {s:ByteArray} (h:BI s=true):Dw s=false:=by
 unfold BI at h
 rw [zG] at h
 have hsz:0<s.size:=by
  have h2:=h.2
  unfold inB at h2
  rw [zG,decide_eq_true_eq,decide_eq_true_eq] at h2
  omega
 have h0:=RW h.1 hsz
 unfold Dw
 have h1:Dz HP s s.size=false:=Dp (k:=0) hsz (by
  unfold Jb at h0
  unfold HP
  rw [zG] at h0
  have hu:RI (Kd s 0)=true:=by simpa using h0.1
  have hlo:P3 (Kd s 0)=false:=by
   unfold RI at hu
   unfold P3
   rw [zG,decide_eq_true_eq,decide_eq_true_eq] at hu
   rw [decide_eq_false (by omega)]
   rfl
  rw [hlo]
  rfl)
 rw [h1]
 rfl
theorem Tm.OU {x:Tm} (h:x.atom=true):x.expr=true:=by unfold Tm.expr; rw [h,Bool.or_true]
theorem Tm.No {x:Tm} (h:x.atom=true):x.nodes≤30:=Tm.RU (Tm.OU h)
mutual
noncomputable def Tm.vs:Tm→List ByteArray
 | .mk name args=>bif BI name then [name] else Tm.vsL args
noncomputable def Tm.vsL:List Tm→List ByteArray
 | []=>[]
 | x :: xs=>Tm.vs x++Tm.vsL xs
end
noncomputable def qB (op:Int):Bool:=dec (op=8) || dec (op=9)
theorem Fm.nodes_eq (x:Fm):x.nodes=1+Fm.nodeS x.parts:=by
 obtain ⟨op,atom,var,parts⟩:=x
 rw [Fm.nodes]; rfl
theorem Fm.nodes_pos (x:Fm):1≤x.nodes:=by rw [Fm.nodes_eq]; omega
theorem Fm.nodes_le:∀ (xs:List Fm) (k:Nat) (h:k<xs.length),xs[k].nodes≤Fm.nodeS xs
 | [],k,h=>absurd h (by simp)
 | x :: xs,0,_=>by rw [Fm.nodeS]; simp
 | x :: xs,k+1,h=>by
  have:=Fm.nodes_le xs k (by simpa using h)
  rw [Fm.nodeS]; simp only [yH]; omega
theorem Fm.nodes_mem {xs:List Fm} {y:Fm} (h:y∈xs):y.nodes≤Fm.nodeS xs:=by
 obtain ⟨k,hk,rfl⟩:=z8 h
 exact Fm.nodes_le xs k hk
mutual
def Fm.cap:Fm→Int
 | .mk _ _ _ xs=>Fm.capL xs 1
def Fm.capL:List Fm→Int→Int
 | [],n=>n
 | x :: xs,n=>if 40 < n then n else Fm.capL xs (n+Fm.cap x)
end
theorem Fm.cap_eq (x:Fm):x.cap=Fm.capL x.parts 1:=by
 obtain ⟨op,atom,var,xs⟩:=x
 rw [Fm.cap]; rfl
theorem Fm.capL_spec:∀ (xs:List Fm) (n:Int),(∀ x∈xs,1≤x.cap∧x.cap≤x.nodes∧(x.cap≤40→x.cap=x.nodes))→1≤n→n≤Fm.capL xs n∧Fm.capL xs n≤n+Fm.nodeS xs∧(Fm.capL xs n≤40→Fm.capL xs n=n+Fm.nodeS xs)
 | [],n,_,h=>by simp [Fm.capL,Fm.nodeS]
 | x :: xs,n,hx,h=>by
  rw [Fm.capL,Fm.nodeS]
  have h1:=hx x (by simp)
  split
  ·omega
  ·have:=Fm.capL_spec xs (n+x.cap) (fun y hy=>hx y (by simp [hy])) (by omega)
   omega
theorem Fm.cap_spec (x:Fm):1≤x.cap∧x.cap≤x.nodes∧(x.cap≤40→x.cap=x.nodes):=by
 rw [Fm.cap_eq,Fm.nodes_eq]
 have:=Fm.capL_spec x.parts 1 (fun y hy=>Fm.cap_spec y) (by omega)
 omega
termination_by SizeOf.sizeOf x
decreasing_by exact Fm.lt_of_mem hy
mutual
def Fm.many:Fm→Int→Int
 | .mk _ _ _ xs,m=>Fm.manyL xs m 1
def Fm.manyL:List Fm→Int→Int→Int
 | [],_,n=>n
 | x :: xs,m,n=>if n≤m then Fm.manyL xs m (n+Fm.many x (m-n)) else n
end
theorem Fm.many_eq (x:Fm) (m:Int):x.many m=Fm.manyL x.parts m 1:=by
 obtain ⟨op,atom,var,xs⟩:=x
 rw [Fm.many]; rfl
theorem Fm.manyL_spec (m:Int):∀ (xs:List Fm) (n:Int),(∀ x∈xs,∀ m,0≤m→1≤x.many m∧x.many m≤x.nodes∧(x.many m≤m→x.many m=x.nodes))→1≤n→n≤Fm.manyL xs m n∧Fm.manyL xs m n≤n+Fm.nodeS xs∧(Fm.manyL xs m n≤m→Fm.manyL xs m n=n+Fm.nodeS xs)
 | [],n,_,h=>by simp [Fm.manyL,Fm.nodeS]
 | x :: xs,n,hx,h=>by
  rw [Fm.manyL,Fm.nodeS]
  split
  ·have h1:=hx x (by simp) (m-n) (by omega)
   have:=Fm.manyL_spec m xs (n+x.many (m-n)) (fun y hy=>hx y (by simp [hy])) (by omega)
   omega
  ·omega
theorem Fm.many_spec (x:Fm) (m:Int):1≤x.many m∧x.many m≤x.nodes∧(x.many m≤m→x.many m=x.nodes):=by
 rw [Fm.many_eq,Fm.nodes_eq]
 have:=Fm.manyL_spec m x.parts 1 (fun y hy m _=>Fm.many_spec y m) (by omega)
 omega
termination_by SizeOf.sizeOf x
decreasing_by exact Fm.lt_of_mem hy
theorem QL (n:Int):n=1∨n=2∨n=3∨n=4∨n=5∨n=6∨n=7∨n=8∨n=9∨(n≠1∧n≠2∧n≠3∧n≠4∧n≠5∧n≠6∧n≠7∧n≠8∧n≠9):=by omega
theorem Fm.D2 (x:Fm):x.forms=(x.form&&Fm.Jc x.parts):=by
 obtain ⟨op,atom,var,parts⟩:=x
 rw [Fm.forms]; rfl
theorem Fm.Lc:∀ xs:List Fm,Fm.Jc xs=xs.all Fm.forms
 | []=>rfl
 | x :: xs=>by rw [Fm.Jc,Fm.Lc xs]; rfl
theorem Fm.any_not (xs:List Fm):(!xs.any fun y=>!y.forms)=Fm.Jc xs:=by
 rw [Fm.Lc]
 induction xs with
 | nil=>rfl
 | cons x xs ih=>simp only [yQ,yX,Bool.not_or,Bool.not_not,ih]
theorem Fm.length_le:∀ xs:List Fm,xs.length≤Fm.nodeS xs
 | []=>by simp
 | x :: xs=>by
  have h:=Fm.length_le xs
  have h1:=Fm.nodes_pos x
  rw [Fm.nodeS,zL]; omega
mutual
def Fm.tame:Fm→Prop
 | .mk _ atom _ parts=>atom.nodes≤1099511627776∧Fm.F9 parts
def Fm.F9:List Fm→Prop
 | []=>True
 | x :: xs=>Fm.tame x∧Fm.F9 xs
end
theorem Fm.Hh (x:Fm):x.tame=(x.atom.nodes≤1099511627776∧Fm.F9 x.parts):=by
 obtain ⟨op,atom,var,parts⟩:=x
 rw [Fm.tame]; rfl
theorem Fm.OV:∀ {xs:List Fm},Fm.F9 xs→∀ y∈xs,y.tame
 | [],_,y,hy=>by cases hy
 | x :: xs,h,y,hy=>by
  rw [Fm.F9] at h
  rcases zQ.1 hy with rfl | hy
  ·exact h.1
  ·exact Fm.OV h.2 y hy
theorem Fm.tame_at {x:Fm} (h:x.tame):x.atom.nodes≤1099511627776:=by rw [Fm.Hh] at h; exact h.1
theorem Fm.Dv {x y:Fm} (h:x.tame) (hy:y∈x.parts):y.tame:=by rw [Fm.Hh] at h; exact Fm.OV h.2 y hy
mutual
def Fm.vn:Fm→Nat
 | .mk _ atom _ parts=>atom.nodes+Fm.vnS parts
def Fm.vnS:List Fm→Nat
 | []=>0
 | x :: xs=>Fm.vn x+Fm.vnS xs
end
theorem Fm.HV (x:Fm):x.vn=x.atom.nodes+Fm.vnS x.parts:=by
 obtain ⟨op,atom,var,parts⟩:=x
 rw [Fm.vn]; rfl
theorem Ed {x:Fm} (h:x.valid=true):x.nodes≤40∧x.forms=true:=by
 unfold Fm.valid at h
 rw [zG,decide_eq_true_eq] at h
 exact h
theorem UR {x:Tm} (h:x.atom=true):BI x.name=false:=by
 unfold Tm.atom at h
 split at h
 ·rename_i hq
  have:x.name=⟨#[61]⟩:=Ap.1 hq
  rw [this]; decide +kernel
 ·rw [zG] at h
  cases hv:BI x.name with
  | false=>rfl
  | true =>
   have:=TD hv
   rw [h.1] at this
   cases this
def Fb (e:TEnv):MF
 | .str s=>match e s with
  | some t=>some (true,[.str t.name,.arr (t.args.map Tm.d)])
  | none=>none
 | .int _=>none
theorem IE (e:TEnv) (s:ByteArray):Fb e (.str s)=match e s with | some t=>some (true,[.str t.name,.arr (t.args.map Tm.d)]) | none=>none:=rfl
theorem TE (e:TEnv) (s:ByteArray) (t:Tm):Ms (Fb e) (.str s) (true,[.str t.name,.arr (t.args.map Tm.d)])=Fb (NT e s t):=by
 funext k
 cases k with
 | int i=>rw [GT (fun h=>by cases h)]; rfl
 | str q =>
  rw [Qs,IE,IE]
  unfold NT
  cases dec (q=s) <;> rfl
theorem RY:Fb (fun _=>none)=nomap:=by
 funext k
 cases k <;> rfl
def TB (m:Nat) (e:TEnv):Prop:=∀ s t,e s=some t→t.nodes≤m∧BI s=true
theorem TB.none (m:Nat):TB m fun _=>Option.none:=fun s t h=>by cases h
theorem TB.put {m:Nat} {e:TEnv} (h:TB m e) {s:ByteArray} (hs:BI s=true) {t:Tm} (ht:t.nodes≤m):TB m (NT e s t):=fun q u hq=>by
 unfold NT at hq
 by_cases he:q=s
 ·rw [A6 he,cond_true] at hq
  obtain rfl:=zM hq
  rw [he]; exact ⟨ht,hs⟩
 ·rw [An he,cond_false] at hq; exact h q u hq
theorem Tm.SJ (e:TEnv):∀ xs:List Tm,Tm.rvL e xs=xs.map (Tm.rv e)
 | []=>by rw [Tm.rvL]; rfl
 | x :: xs=>by rw [Tm.rvL,Tm.SJ e xs]; rfl
theorem Tm.QM (e:TEnv) (x:Tm):x.rv e=bif x.args.isEmpty then (e x.name).getD (.mk x.name []) else .mk x.name (x.args.map (Tm.rv e)):=by
 obtain ⟨n,args⟩:=x
 rw [Tm.rv,Tm.SJ]; rfl
theorem Tm.QN {m:Nat} (hm:1≤m) {e:TEnv} (he:TB m e) (x:Tm):(x.rv e).nodes≤m*x.nodes:=by
 have key:∀ xs:List Tm,(∀ y∈xs,(y.rv e).nodes≤m*y.nodes)→Tm.nodeS (xs.map (Tm.rv e))≤m*Tm.nodeS xs:=by
  intro xs
  induction xs with
  | nil=>intro _; simp [Tm.nodeS]
  | cons y ys ih =>
   intro h
   have h1:=h y (by simp)
   have h2:=ih fun z hz=>h z (by simp [hz])
   rw [zA,Tm.nodeS,Tm.nodeS,Nat.mul_add]; omega
 have h1:=key x.args fun y hy=>Tm.QN hm he y
 rw [Tm.QM,Tm.nodes_eq x,Nat.mul_add,Nat.mul_one]
 cases x.args.isEmpty with
 | true =>
  rw [cond_true]
  cases hx:e x.name with
  | none =>
   show (Tm.mk x.name []).nodes≤_
   rw [Tm.nodes_eq]
   show 1+Tm.nodeS []≤_
   rw [Tm.nodeS]; omega
  | some t=>have:=(he _ _ hx).1; show t.nodes≤_; omega
 | false =>
  rw [cond_false,Tm.nodes_eq]
  show 1+Tm.nodeS (x.args.map (Tm.rv e))≤_
  omega
termination_by SizeOf.sizeOf x
decreasing_by exact Tm.lt_of_mem hy
theorem Tm.WN {m:Nat} {e:TEnv} (he:TB m e) (x:Tm) (hx:x.names=true):x.rv e=x.ap e:=by
 have ih:∀ y∈x.args,y.rv e=y.ap e:=fun y hy=>Tm.WN he y (Tm.IC hx hy)
 rw [Tm.QM,Tm.Ni,Tm.IB]
 cases hv:BI x.name with
 | true =>
  have h0:=Tm.Lb hx hv
  rw [h0]
  simp
 | false =>
  have hn:e x.name=none:=by
   cases h:e x.name with
   | none=>rfl
   | some t=>have:=(he _ _ h).2; rw [hv] at this; cases this
  cases h0:x.args.isEmpty with
  | true =>
   have:x.args=[]:=by simpa using h0
   rw [hn,this]
   simp
  | false =>
   rw [cond_false]
   simp only [yC,if_false]
   congr 1
   exact yN ih
termination_by SizeOf.sizeOf x
decreasing_by exact Tm.lt_of_mem hy
theorem Tm.XB {m:Nat} {e:TEnv} (he:TB m e) (x:Tm) (hx:x.atom=true):x.rv e=x.ap e:=by
 have hnv:=UR hx
 have hn:e x.name=none:=by
  cases h:e x.name with
  | none=>rfl
  | some t=>have:=(he _ _ h).2; rw [hnv] at this; cases this
 rw [Tm.QM,Tm.Ni,Tm.IB,hnv]
 simp only [yC,if_false]
 cases h0:x.args.isEmpty with
 | true =>
  have:x.args=[]:=by simpa using h0
  rw [hn,this]
  simp
 | false =>
  rw [cond_false]
  congr 1
  exact yN fun y hy=>Tm.WN he y (Tm.UQ (Tm.OU hx) hy)
theorem Fm.RZ {x:Fm} (h:x.form=true) (ho:qB x.op=false):x.var=⟨#[]⟩:=by
 unfold qB at ho
 rw [z6] at ho
 have h8:¬ x.op=8:=fun e=>by rw [A6 e] at ho; cases ho.1
 have h9:¬ x.op=9:=fun e=>by rw [A6 e] at ho; cases ho.2
 unfold Fm.form at h
 split at h
 ·rw [zG] at h; exact Ap.1 h.2
 ·split at h
  ·rw [zG] at h; exact Ap.1 h.2
  ·split at h
   ·rw [zG] at h; exact Ap.1 h.2
   ·split at h
    ·rw [zG] at h; exact Ap.1 h.2
    ·split at h
     ·omega
     ·cases h
theorem Np:∀ x y:List UInt8,Op.bytesLess x y=true→Op.bytesLess y x=false
 | [],[],h=>by simp [Op.bytesLess] at h
 | [],_ :: _,_=>rfl
 | _ :: _,[],h=>by simp [Op.bytesLess] at h
 | a :: x,b :: y,h=>by
  simp only [Op.bytesLess,z4,decide_eq_true_eq,zG,beq_iff_eq] at h
  simp only [Op.bytesLess,z6,decide_eq_false_iff_not]
  rcases h with h | ⟨rfl,h⟩
  ·have h2:¬ b<a:=by intro h3; exact absurd (UInt8.lt_trans h h3) (UInt8.lt_irrefl _)
   have h3:(b == a)=false:=by
    rw [beq_eq_false_iff_ne]; rintro rfl; exact UInt8.lt_irrefl _ h
   exact ⟨h2,by rw [h3]; rfl⟩
  ·exact ⟨UInt8.lt_irrefl _,by rw [Np x y h]; simp⟩
theorem Nq:∀ x y:List UInt8,Op.bytesLess x y=false→Op.bytesLess y x=false→x=y
 | [],[],_,_=>rfl
 | [],_ :: _,h,_=>by simp [Op.bytesLess] at h
 | _ :: _,[],_,h=>by simp [Op.bytesLess] at h
 | a :: x,b :: y,h,k=>by
  simp only [Op.bytesLess,z6,decide_eq_false_iff_not] at h k
  have hab:a=b:=by
   have h1:=h.1; have h2:=k.1
   rw [UInt8.lt_iff_toNat_lt] at h1 h2
   exact UInt8.toNat_inj.1 (by omega)
  subst hab
  have h1:Op.bytesLess x y=false:=by simpa using h.2
  have h2:Op.bytesLess y x=false:=by simpa using k.2
  rw [Nq x y h1 h2]
theorem FA {a b:ByteArray} (h:strLt a b=true):strLt b a=false:=Np _ _ h
theorem HW {a b:ByteArray} (h:strLt a b=false) (h':strLt b a=false):a=b:=O3 (Nq _ _ h h')
theorem Nr:∀ x y z:List UInt8,Op.bytesLess x y=true→Op.bytesLess y z=true→Op.bytesLess x z=true
 | _,_,[],_,h=>by simp [Op.bytesLess] at h
 | [],[],_ :: _,h,_=>by simp [Op.bytesLess] at h
 | [],_ :: _,_ :: _,_,_=>rfl
 | _ :: _,[],_ :: _,h,_=>by simp [Op.bytesLess] at h
 | a :: x,b :: y,c :: z,h,k=>by
  simp only [Op.bytesLess,z4,decide_eq_true_eq,zG,beq_iff_eq] at h k ⊢
  rcases h with h | ⟨rfl,h⟩
  ·rcases k with k | ⟨rfl,k⟩
   ·exact .inl (UInt8.lt_trans h k)
   ·exact .inl h
  ·rcases k with k | ⟨rfl,k⟩
   ·exact .inl k
   ·exact .inr ⟨rfl,Nr x y z h k⟩
theorem LF {a b c:ByteArray} (h:strLt a b=true) (k:strLt b c=true):strLt a c=true:=Nr _ _ _ h k
theorem US {a b:ByteArray} (h:strLt a b=true):¬ a=b:=by rintro rfl; rw [Nn] at h; cases h
noncomputable def Yo (x:Bd):Bool:=BI x.var&&(x.term.valid&&!dec (x.term.name=x.var))
noncomputable def Yp (xs:List Bd) (k:Nat):Bool:=match xs[k]? with
 | none=>true
 | some x=>Yo x&&(match k with
  | 0=>true
  | j+1=>match xs[j]? with
   | none=>true
   | some y=>strLt y.var x.var)
noncomputable def Yc (xs:List Bd):Nat→Bool
 | 0=>true
 | k+1=>Yc xs k&&Yp xs k
noncomputable def Sb.ok (x:Sb):Bool:=decide (x.binds.length≤12)&&Yc x.binds x.binds.length
def Sb.tame (x:Sb):Prop:=x.binds.length≤1099511627776∧∀ y∈x.binds,y.term.nodes≤1099511627776
theorem Sb.tame_at {x:Sb} (h:x.tame) {k:Nat} (hk:k<x.binds.length):x.binds[k].term.nodes≤1099511627776:=h.2 _ (zD hk)
def Ji:SC:=(.seq (.reg [⟨some 2,none,.boxv 124 1 (.t 0)⟩,⟨some 4,none,.mv (.c (.int .i64 0))⟩]) (.seq (.seq (.reg [⟨some 5,none,.mv (.c (.int .i64 0))⟩]) (.block 0 (.loop [0,1,1,0,0,1,0,0,0,0,0,0,0,0,0,0,0,0,0,0,0,0] (.seq (.seq (.reg [⟨some 6,none,.mv (.t 5)⟩,⟨some 7,none,.faddr 0 (.t 2)⟩,⟨some 8,none,.load false 1 (.t 7)⟩,⟨some 9,none,.len false (.t 8)⟩,⟨some 10,none,.bin .lss false (.t 6) (.t 9)⟩]) (.cond (.t 10) .skip (.exit 0))) (.seq (.block 1 (.seq (.reg [⟨some 13,none,.faddr 0 (.t 2)⟩,⟨some 14,none,.load false 1 (.t 13)⟩,⟨some 15,none,.mv (.t 5)⟩,⟨some 16,none,.iaddr 3 (.t 14) (.t 15)⟩,⟨some 17,none,.faddr 0 (.t 16)⟩,⟨some 18,none,.load false 1 (.t 17)⟩,⟨some 19,none,.mv (.t 1)⟩,⟨some 20,none,.bin .eql false (.t 18) (.t 19)⟩]) (.cond (.t 20) (.seq (.reg [⟨some 21,none,.mv (.t 5)⟩,⟨some 4,none,.mv (.t 21)⟩]) .ret) .skip))) (.reg [⟨some 11,none,.mv (.t 5)⟩,⟨some 12,none,.bin .add false (.t 11) (.c (.int .i64 1))⟩,⟨some 5,none,.mv (.t 12)⟩])))))) (.seq (.reg [⟨some 4,none,.mv (.c (.int .i64 (-(0+1))))⟩]) .ret)))
theorem NZ:Ao Tryz.prog 163=some ⟨22,Ji,[(.tmp 4)]⟩:=by kernel_rfl
theorem DW:modes 163=⟨[],.asis,none,false⟩:=by unfold modes; rfl
theorem UT (x:Sb) (n:ByteArray) (hl:x.binds.length≤1099511627776):E 163 [x.sv,.str n] []=some (.int .i64 (Ck (fun b=>dec (b.var=n)) x.binds 0),[]):=by
 refine Ak NZ DW (of_decide_eq_true rfl) ?_
 simp (disch:=omega) only [Ji,go_sem,Ab]
 refine go_loop (α:=Int) (fun a=>⟨slots 22 0 [(1,.str n),(2,.ptr 0 0),(5,.int .i64 a)],[.box 124 [.arr (x.binds.map Bd.d)]]⟩) (fun a=>∃ k:Nat,a=k∧k≤(x.binds).length∧Ck (fun b=>dec (b.var=n)) (x.binds.drop k) a=Ck (fun b=>dec (b.var=n)) x.binds 0) (fun a=>(x.binds).length-(a).toNat) 0 ⟨0,rfl,zI _,by rw [zH]⟩ (by simp (disch:=omega) only [go_sem,Ab]) ?_
 rintro i ⟨k,hi,hk,hR⟩
 have hni:i.toNat=k:=by omega
 have hni1:(i+1).toNat=k+1:=by omega
 rcases zE k (x.binds).length with hlt | hge
 ·have hg:=get_at Bd.d hlt
  rw [Bd.d_eq] at hg
  rw [zB hlt,Ck] at hR
  cases hp:dec (x.binds[k].var=n) with
  | true =>
   rw [hp] at hR
   simp (disch:=omega) only [go_sem,Ab,hni,hg,hp]
   simpa using hR
  | false =>
   rw [hp] at hR
   simp (disch:=omega) only [go_sem,Ab,hni,hg,hp]
   exact ⟨i+1,⟨k+1,by omega,hlt,by simpa using hR⟩,by omega,by first | trivial | rfl⟩
 ·rw [zF hge,Ck] at hR
  simp (disch:=omega) only [go_sem,Ab,hni]
  exact hR
def DO:SC:=(.seq (.reg [⟨some 2,none,.mv (.c .nil)⟩]) (.seq (.seq (.reg [⟨some 6,none,.mv (.t 0)⟩,⟨some 7,none,.len false (.t 6)⟩,⟨some 8,none,.bin .eql false (.t 7) (.c (.int .i64 0))⟩]) (.cond (.t 8) (.seq (.reg [⟨some 2,none,.mv (.c .nil)⟩]) .ret) .skip)) (.seq (.reg [⟨some 9,none,.mv (.t 0)⟩,⟨some 10,none,.len false (.t 9)⟩,⟨(some 11),none,(.mkslice 33 2 40 [(.str ⟨#[]⟩),.nil] (.t 10))⟩,⟨some 3,none,.mv (.t 11)⟩]) (.seq (.seq (.reg [⟨some 12,none,.mv (.t 0)⟩,⟨some 13,none,.len false (.t 12)⟩,⟨some 14,none,.mv (.c (.int .i64 0))⟩]) (.block 0 (.loop [0,0,0,1,0,0,0,0,0,0,0,0,1,1,1,0,0,0,0,0,0,0,0,0,0,0] (.seq (.reg [⟨some 15,none,.bin .lss false (.t 14) (.t 13)⟩]) (.seq (.cond (.t 15) .skip (.exit 0)) (.seq (.block 1 (.seq (.reg [⟨some 16,none,.mv (.t 14)⟩,⟨some 17,none,.iaddr 2 (.t 12) (.t 14)⟩,⟨some 18,none,.load true 2 (.t 17)⟩,⟨(some 5),none,(.alloc 33 [(.str ⟨#[]⟩),.nil])⟩,⟨some 4,none,.mv (.t 16)⟩,⟨none,none,(.store 2 (.t 5) (.t 18))⟩]) (.reg [⟨some 19,none,.mv (.t 3)⟩,⟨some 20,none,.mv (.t 4)⟩,⟨some 21,none,.load true 2 (.t 5)⟩,⟨some 22,none,.call 140 [(.t 21)]⟩,⟨some 23,none,.iaddr 2 (.t 19) (.t 20)⟩,⟨none,none,(.store 2 (.t 23) (.t 22))⟩]))) (.reg [⟨some 24,none,.bin .add false (.t 14) (.c (.int .i64 1))⟩,⟨some 14,none,.mv (.t 24)⟩]))))))) (.seq (.reg [⟨some 25,none,.mv (.t 3)⟩,⟨some 2,none,.mv (.t 25)⟩]) .ret)))))
theorem G9:Ao Tryz.prog 169=some ⟨26,DO,[(.tmp 2)]⟩:=by kernel_rfl
theorem DP:modes 169=⟨[],.own [some (33,2)],none,false⟩:=by unfold modes; rfl
def Hs:SC:=(.seq (.reg [⟨some 1,none,.boxv 33 2 (.t 0)⟩,⟨(some 2),none,(.alloc 33 [(.str ⟨#[]⟩),.nil])⟩]) (.seq (.dreg [[],[0],[],[2],[3,2],[1,0,4,3,2],[5,1,0,4,3,2]] [⟨some 3,none,.faddr 0 (.t 1)⟩,⟨some 4,none,.load false 1 (.t 3)⟩,⟨some 5,none,.faddr 1 (.t 1)⟩,⟨some 6,none,.load false 1 (.t 5)⟩,⟨some 7,none,.call 169 [(.t 6)]⟩,⟨(some 8),none,(.build [(.str ⟨#[]⟩),.nil] [(0,(1,(.t 4))),(1,(1,(.t 7)))])⟩,⟨none,none,(.store 2 (.t 2) (.t 8))⟩]) .ret))
theorem LS:Ao Tryz.prog 140=some ⟨9,Hs,[(.cell 2 true 2)]⟩:=by kernel_rfl
theorem BY:modes 140=⟨[],.asis,none,false⟩:=by unfold modes; rfl
def Kj:SC:=(.seq (.reg [⟨some 1,none,.boxv 33 2 (.t 0)⟩,⟨(some 2),none,(.alloc 33 [(.str ⟨#[]⟩),.nil])⟩]) (.seq (.reg [⟨some 5,none,.faddr 0 (.t 1)⟩,⟨some 6,none,.load false 1 (.t 5)⟩,⟨(some 7),none,(.build [(.str ⟨#[]⟩),.nil] [(0,(1,(.t 6)))])⟩,⟨(some 3),none,(.alloc 33 [(.str ⟨#[]⟩),.nil])⟩,⟨none,none,(.store 2 (.t 3) (.t 7))⟩]) (.seq (.seq (.reg [⟨some 4,none,.mv (.c (.int .i64 0))⟩]) (.block 0 (.loop [0,1,1,1,1,0,0,0,0,0,0,0,0,0,0,0,0,0,0,0,0,0,0,0,0,0,0] (.seq (.seq (.reg [⟨some 8,none,.mv (.t 4)⟩,⟨some 9,none,.faddr 1 (.t 1)⟩,⟨some 10,none,.load false 1 (.t 9)⟩,⟨some 11,none,.len false (.t 10)⟩,⟨some 12,none,.bin .lss false (.t 8) (.t 11)⟩]) (.cond (.t 12) .skip (.exit 0))) (.seq (.block 1 (.dreg [[],[0],[],[2],[],[3,2,4],[5,3,2,4],[6,5,3,2,4],[7,6,5,3,2,4],[1,0,8,7,6,5,3,2,4],[0,1,2,3,4,5,6,7,8,9],[10,0,1,2,3,4,5,6,7,8,9]] [⟨some 15,none,.faddr 1 (.t 3)⟩,⟨some 16,none,.load false 1 (.t 15)⟩,⟨some 17,none,.faddr 1 (.t 1)⟩,⟨some 18,none,.load false 1 (.t 17)⟩,⟨some 19,none,.mv (.t 4)⟩,⟨some 20,none,.iaddr 2 (.t 18) (.t 19)⟩,⟨some 21,none,.load true 2 (.t 20)⟩,⟨some 22,none,.call 81 [(.t 21)]⟩,⟨(some 23),none,(.mkrow 33 2 [(.str ⟨#[]⟩),.nil] 1 [(0,(.t 22))])⟩,⟨(some 24),none,(.append 33 2 40 [(.str ⟨#[]⟩),.nil] (.t 16) (.t 23))⟩,⟨some 25,none,.faddr 1 (.t 3)⟩,⟨none,none,(.store 1 (.t 25) (.t 24))⟩])) (.reg [⟨some 13,none,.mv (.t 4)⟩,⟨some 14,none,.bin .add false (.t 13) (.c (.int .i64 1))⟩,⟨some 4,none,.mv (.t 14)⟩])))))) (.seq (.reg [⟨some 26,none,.load true 2 (.t 3)⟩,⟨none,none,(.store 2 (.t 2) (.t 26))⟩]) .ret))))
theorem PD:Ao Tryz.prog 81=some ⟨27,Kj,[(.cell 2 true 2)]⟩:=by kernel_rfl
theorem BN:modes 81=⟨[],.frz,none,false⟩:=by unfold modes; rfl
theorem PE (xs:List Tm) (hl:xs.length≤1099511627776) (h:∀ x∈xs,E 140 [x.sv] []=some (x.osv,x.obs)):E 169 [.arr (xs.map Tm.d)] []=some (.ref 0,[.row 33 2 (xs.map Tm.o)]):=by
 cases xs with
 | nil =>
  refine Ak G9 DP (of_decide_eq_true rfl) ?_
  simp (disch:=omega) only [DO,go_sem,Ab]
 | cons x0 xs0 =>
 generalize hxs:x0 :: xs0=xs at *
 have hpos:0<xs.length:=by rw [←hxs]; simp
 refine Ak G9 DP (of_decide_eq_true rfl) ?_
 simp (disch:=omega) only [DO,go_sem,Ab]
 refine go_loop (α:=Int) (fun a=>⟨slots 26 0 [(3,.ref 0),(12,.arr (xs.map Tm.d)),(13,.int .i64 xs.length),(14,.int .i64 a)],[.row 33 2 (En Tm.o [.str ⟨#[]⟩,.ow []] xs a.toNat)]⟩) (fun a=>∃ k:Nat,a=k∧k≤(xs).length) (fun a=>(xs).length-(a).toNat) 0 ⟨0,rfl,zI _⟩ (by simp (disch:=omega) only [go_sem,Ab,EY,zP]) ?_
 rintro i ⟨k,hi,hk⟩
 have hni:i.toNat=k:=by omega
 have hni1:(i+1).toNat=k+1:=by omega
 rcases zE k (xs).length with hlt | hge
 ·have hg:=get_at Tm.d hlt
  rw [Tm.d_eq] at hg
  have hz:=G5 Tm.o [.str ⟨#[]⟩,.ow []] hlt
  have hc:=h xs[k] (zD hlt)
  have hs:=G6 Tm.o [.str ⟨#[]⟩,.ow []] hlt
  rw [Tm.o_eq] at hs
  simp (disch:=omega) only [go_sem,Ab,hni,hg,hc,hz,G3,BY,Tm.osv,Tm.obs]
  refine ⟨i+1,⟨k+1,by omega,hlt⟩,by omega,?_⟩
  simp (disch:=omega) only [go_sem,Ab,hni1,hs]
 ·obtain rfl:k=xs.length:=by omega
  simp (disch:=omega) only [go_sem,Ab,hni,G4]
theorem QO (x:Tm) (h:E 169 [.arr (x.args.map Tm.d)] []=some (.ref 0,[.row 33 2 (x.args.map Tm.o)])):E 140 [x.sv] []=some (x.osv,x.obs):=by
 refine Ak LS BY (of_decide_eq_true rfl) ?_
 simp (disch:=omega) only [Hs,go_sem,Ab,h,DP]
theorem Fc (x:Tm) (hn:x.nodes≤1099511627776):E 140 [x.sv] []=some (x.osv,x.obs) :=
 QO x (PE x.args (by have:=Tm.nodes_eq x; have:=Tm.length_le x.args; omega) fun y hy=>Fc y (by have:=Tm.nodes_mem hy; have:=Tm.nodes_eq x; omega))
termination_by SizeOf.sizeOf x
decreasing_by exact Tm.lt_of_mem hy
def Yd (res:RM) (n0:Nat) (rs:List RX) (Q:SV × List Ob→Prop) (x:X) (st:St):Prop:=∃ out,Wr res n0 rs out x st∧Q out
theorem exq {α:Type} {a:α} {Q:α→Prop}:(∃ out,some a=some out∧Q out)=Q a:=propext ⟨fun ⟨o,h,q⟩=>by obtain rfl:=zM h; exact q,fun q=>⟨a,rfl,q⟩⟩
theorem XC {res:RM} {n0:Nat} {rs:List RX} {Q:SV × List Ob→Prop} {sl:List SV} {ob:List Ob}:Yd res n0 rs Q .ret ⟨sl,ob⟩=∃ out,QE res n0 ob (NO ⟨sl,ob⟩ rs)=some out∧Q out:=rfl
theorem XD {res:RM} {n0:Nat} {rs:List RX} {Q:SV × List Ob→Prop} {sl:List SV} {ob:List Ob}:Yd res n0 rs Q .normal ⟨sl,ob⟩=∃ out,QE res n0 ob (NO ⟨sl,ob⟩ rs)=some out∧Q out:=rfl
attribute [go_sem] XC XD exq
def Tm.osh (x:Tm):List OT:=[.str x.name,.sh (x.args.map Tm.d)]
theorem Tm.osh_eq (x:Tm):x.osh=[.str x.name,.sh (x.args.map Tm.d)]:=rfl
theorem Tm.osh_full:∀ xs:List Tm,OT.A7 (xs.map Tm.osh)=true
 | []=>rfl
 | x :: xs=>by rw [zA,Tm.osh_eq]; simp [OT.A7,OT.BL,OT.full,Tm.osh_full xs]
theorem Tm.osh_er:∀ xs:List Tm,OT.erss (xs.map Tm.osh)=xs.map Tm.d
 | []=>rfl
 | x :: xs=>by rw [zA,zA,Tm.osh_eq,Tm.d_eq]; simp [OT.erss,OT.ers,OT.er,Tm.osh_er xs]
theorem CH {α β:Type} (f:α→β) {xs:List α} {k:Nat} (h:k<xs.length):(xs.take k).map f++[f xs[k]]=(xs.take (k+1)).map f:=by
 rw [yG h,yA]; rfl
theorem UU (x:Tm) (hn:x.nodes≤1099511627776) (ih:∀ y∈x.args,E 81 [y.sv] []=some (y.sv,[])):E 81 [x.sv] []=some (x.sv,[]):=by
 have hl:=Tm.length_le x.args
 have hne:=Tm.nodes_eq x
 have h10:((1:Int)=0)=False:=by simp
 have hfu:=Tm.osh_full x.args
 have her:=Tm.osh_er x.args
 refine Ak PD BN (of_decide_eq_true rfl) ?_
 simp (disch:=omega) only [Kj,go_sem,Ab]
 refine go_loop (α:=Int) (fun a=>⟨slots 27 0 [(1,.ptr 0 0),(2,.ptr 1 0),(3,.ptr 2 0),(4,.int .i64 a)],(if a=0 then [.box 33 [.str x.name,.arr (x.args.map Tm.d)],.box 33 [.str ⟨#[]⟩,.nil],.box 33 [.str x.name,.nil]] else [.box 33 [.str x.name,.arr (x.args.map Tm.d)],.box 33 [.str ⟨#[]⟩,.nil],.box 33 [.str x.name,.ref 3],.row 33 2 ((x.args.take a.toNat).map Tm.osh)])⟩) (fun a=>∃ k:Nat,a=k∧k≤(x.args).length) (fun a=>(x.args).length-(a).toNat) 0 ⟨0,rfl,zI _⟩ (by simp (disch:=omega) only [go_sem,Ab,eq_self,if_true]) ?_
 rintro i ⟨k,hi,hk⟩
 have hni:i.toNat=k:=by omega
 have hni1:(i+1).toNat=k+1:=by omega
 rcases zE k (x.args).length with hlt | hge
 ·have hg:=get_at Tm.d hlt
  rw [Tm.d_eq] at hg
  have hc:=ih x.args[k] (zD hlt)
  have hs:=CH Tm.osh hlt
  rw [Tm.osh_eq] at hs
  rcases yD k with h0 | h0
  ·subst h0
   obtain rfl:i=0:=hi
   rw [yV,z7,yL] at hs
   simp (disch:=omega) only [go_sem,Ab,hni,hg,hc,BN,eq_self,if_true]
   refine ⟨1,⟨1,rfl,hlt⟩,by omega,?_⟩
   simp (disch:=omega) only [go_sem,Ab,h10,if_false,hs]
  ·have hi0:(i=0)=False:=by simp; omega
   have hi1:(i+1=0)=False:=by simp; omega
   have htl:(x.args.take k).length=k:=by rw [yR]; omega
   simp (disch:=omega) only [go_sem,Ab,hni,hg,hc,BN,hi0,if_false,htl]
   refine ⟨i+1,⟨k+1,by omega,hlt⟩,by omega,?_⟩
   simp (disch:=omega) only [go_sem,Ab,hni1,hi1,if_false,hs]
 ·obtain rfl:k=x.args.length:=by omega
  have ht:x.args.take x.args.length=x.args:=List.take_length
  rcases yD x.args.length with h0 | h0
  ·have hx:x.args=[]:=zV h0
   obtain rfl:i=0:=by omega
   simp (disch:=omega) only [go_sem,Ab,hni,hx,eq_self,if_true,z7,yU]
  ·have hi0:(i=0)=False:=by simp; omega
   simp (disch:=omega) only [go_sem,Ab,hni,hi0,if_false,ht,hfu,her]
theorem Kk (x:Tm) (hn:x.nodes≤1099511627776):E 81 [x.sv] []=some (x.sv,[]) :=
 UU x hn fun y hy=>Kk y (by have:=Tm.nodes_mem hy; have:=Tm.nodes_eq x; omega)
termination_by SizeOf.sizeOf x
decreasing_by exact Tm.lt_of_mem hy
def Ns (xs:List Bd):Prop:=∀ j k (h:j<k) (hk:k<xs.length),strLt xs[j].var xs[k].var=true
def B5:List Bd→ByteArray→Nat
 | [],_=>0
 | x :: xs,n=>if strLt x.var n then B5 xs n+1 else 0
theorem SK (n:ByteArray):∀ xs:List Bd,B5 xs n≤xs.length
 | []=>zY _
 | x :: xs=>by
  have:=SK n xs
  rw [B5]; simp only [zL]; split <;> omega
theorem LG (n:ByteArray):∀ (xs:List Bd) (j:Nat) (h:j<xs.length),j<B5 xs n→strLt xs[j].var n=true
 | [],j,h,_=>absurd h (by simp)
 | x :: xs,j,h,hj=>by
  rw [B5] at hj
  split at hj
  ·rename_i hx
   cases j with
   | zero=>exact hx
   | succ j=>exact LG n xs j (by simpa using h) (by omega)
  ·omega
theorem SL (n:ByteArray):∀ (xs:List Bd) (h:B5 xs n<xs.length),strLt (xs[B5 xs n]).var n=false
 | [],h=>absurd h (by simp)
 | x :: xs,h=>by
  cases hx:strLt x.var n with
  | false =>
   have e:B5 (x :: xs) n=0:=by rw [B5,if_neg (by rw [hx]; simp)]
   simp only [e,List.getElem_cons_zero]; exact hx
  | true =>
   have e:B5 (x :: xs) n=B5 xs n+1:=by rw [B5,if_pos hx]
   have h2:B5 xs n<xs.length:=by rw [e] at h; simpa using h
   simp only [e,yH]; exact SL n xs h2
noncomputable def Hi (xs:List Bd) (n:ByteArray):Bool:=match xs[B5 xs n]? with
 | none=>false
 | some b=>dec (b.var=n)
theorem QP {α:Type} (p:α→Bool):∀ (xs:List α) (k:Nat) (i:Int) (h:k<xs.length),(∀ j (hj:j<k),p xs[j]=false)→p xs[k]=true→Ck p xs i=i+k
 | [],k,i,h,_,_=>absurd h (by simp)
 | x :: xs,0,i,h,_,hp=>by rw [Ck,if_pos (show p x=true from hp)]; simp
 | x :: xs,k+1,i,h,hb,hp=>by
  have h0:p x=false:=hb 0 (by omega)
  have:=QP p xs k (i+1) (by simpa using h) (fun j hj=>hb (j+1) (by omega)) hp
  rw [Ck,if_neg (by rw [h0]; simp),this]; omega
theorem PF {α:Type} (p:α→Bool):∀ (xs:List α) (i:Int),(∀ j (hj:j<xs.length),p xs[j]=false)→Ck p xs i=-1
 | [],i,_=>by rw [Ck]
 | x :: xs,i,h=>by
  have h0:p x=false:=h 0 (by simp)
  rw [Ck,if_neg (by rw [h0]; simp)]
  exact PF p xs (i+1) fun j hj=>h (j+1) (by simpa using hj)
theorem QQ {xs:List Bd} (hs:Ns xs) (n:ByteArray):Ck (fun b=>dec (b.var=n)) xs 0=if Hi xs n then ((B5 xs n:Nat):Int) else -1:=by
 have before:∀ j (hj:j<xs.length),j<B5 xs n→dec (xs[j].var=n)=false:=fun j hj hL=>An (US (LG n xs j hj hL))
 rcases zE (B5 xs n) xs.length with hlt | hge
 ·have hh:Hi xs n=dec (xs[B5 xs n].var=n):=by unfold Hi; rw [zN hlt]
  cases hq:dec (xs[B5 xs n].var=n) with
  | true =>
   rw [hh,hq,if_pos rfl,QP _ xs (B5 xs n) 0 hlt (fun j hj=>before j (by omega) hj) hq]; omega
  | false =>
   rw [hh,hq,if_neg (by simp)]
   refine PF _ xs 0 fun j hj=>?_
   rcases Nat.lt_trichotomy j (B5 xs n) with h | h | h
   ·exact before j hj h
   ·subst h; exact hq
   ·refine An fun e=>?_
    have h1:=hs _ _ h hj
    rw [e,SL n xs hlt] at h1
    cases h1
 ·have hh:Hi xs n=false:=by unfold Hi; rw [yI hge]
  rw [hh,if_neg (by simp)]
  exact PF _ xs 0 fun j hj=>before j hj (by omega)
theorem Mm {xs:List Bd} {n:ByteArray} (h:Hi xs n=true):B5 xs n<xs.length:=by
 rcases zE (B5 xs n) xs.length with h1 | h1
 ·exact h1
 ·unfold Hi at h; rw [yI h1] at h; cases h
noncomputable def Sb.look (x:Sb) (n:ByteArray):Option Tm:=if h:Hi x.binds n=true then some (x.binds[B5 x.binds n]'(Mm h)).term else none
theorem SM {xs:List Bd} {n:ByteArray} (h:Hi xs n=true) (hlt:B5 xs n<xs.length):(xs[B5 xs n]).var=n:=by
 have hh:Hi xs n=dec (xs[B5 xs n].var=n):=by unfold Hi; rw [zN hlt]
 rw [hh] at h
 exact Ap.1 h
theorem Sb.Nt {x:Sb} {n:ByteArray} (h:Hi x.binds n=true) (hlt:B5 x.binds n<x.binds.length):x.look n=some (x.binds[B5 x.binds n]).term:=by
 unfold Sb.look; rw [dif_pos h]
theorem Sb.PG {x:Sb} {n:ByteArray} (h:Hi x.binds n=false):x.look n=none:=by
 unfold Sb.look; rw [dif_neg (by rw [h]; simp)]
def Sb.fine (s:Sb):Prop:=Ns s.binds∧∀ b∈s.binds,BI b.var=true
def D3:SC:=(.seq (.reg [⟨some 2,none,.boxv 124 1 (.t 0)⟩,⟨some 3,none,.boxv 33 2 (.t 1)⟩,⟨(some 4),none,(.alloc 33 [(.str ⟨#[]⟩),.nil])⟩]) (.seq (.seq (.reg [⟨some 8,none,.faddr 0 (.t 3)⟩,⟨some 9,none,.load false 1 (.t 8)⟩,⟨some 10,none,.call 79 [(.t 9)]⟩]) (.cond (.t 10) (.seq (.seq (.reg [⟨some 11,none,.load true 1 (.t 2)⟩,⟨some 12,none,.faddr 0 (.t 3)⟩,⟨some 13,none,.load false 1 (.t 12)⟩,⟨some 14,none,.call 163 [(.t 11),(.t 13)]⟩,⟨some 5,none,.mv (.t 14)⟩]) (.seq (.reg [⟨some 15,none,.mv (.t 5)⟩,⟨some 16,none,.bin .geq false (.t 15) (.c (.int .i64 0))⟩]) (.cond (.t 16) (.seq (.reg [⟨some 17,none,.faddr 0 (.t 2)⟩,⟨some 18,none,.load false 1 (.t 17)⟩,⟨some 19,none,.mv (.t 5)⟩,⟨some 20,none,.iaddr 3 (.t 18) (.t 19)⟩,⟨some 21,none,.faddr 1 (.t 20)⟩,⟨some 22,none,.load true 2 (.t 21)⟩,⟨some 23,none,.call 81 [(.t 22)]⟩,⟨none,none,(.store 2 (.t 4) (.t 23))⟩]) .ret) .skip))) (.seq (.reg [⟨some 24,none,.faddr 0 (.t 3)⟩,⟨some 25,none,.load false 1 (.t 24)⟩,⟨(some 26),none,(.build [(.str ⟨#[]⟩),.nil] [(0,(1,(.t 25)))])⟩,⟨none,none,(.store 2 (.t 4) (.t 26))⟩]) .ret)) .skip)) (.seq (.reg [⟨some 27,none,.faddr 0 (.t 3)⟩,⟨some 28,none,.load false 1 (.t 27)⟩,⟨(some 29),none,(.build [(.str ⟨#[]⟩),.nil] [(0,(1,(.t 28)))])⟩,⟨(some 6),none,(.alloc 33 [(.str ⟨#[]⟩),.nil])⟩,⟨none,none,(.store 2 (.t 6) (.t 29))⟩]) (.seq (.seq (.reg [⟨some 7,none,.mv (.c (.int .i64 0))⟩]) (.block 0 (.loop [0,0,1,1,1,0,1,1,0,0,0,0,0,0,0,0,0,0,0,0,0,0,0,0,0,0,0,0,0,0,0,0,0,0,0,0,0,0,0,0,0,0,0,0,0,0,0,0,0,0] (.seq (.seq (.reg [⟨some 30,none,.mv (.t 7)⟩,⟨some 31,none,.faddr 1 (.t 3)⟩,⟨some 32,none,.load false 1 (.t 31)⟩,⟨some 33,none,.len false (.t 32)⟩,⟨some 34,none,.bin .lss false (.t 30) (.t 33)⟩]) (.cond (.t 34) .skip (.exit 0))) (.seq (.block 1 (.dreg [[],[0],[],[],[3],[],[4,3,5],[6,4,3,5],[2,7,6,4,3,5],[8,2,7,6,4,3,5],[1,0,9,8,2,7,6,4,3,5],[0,1,2,3,4,5,6,7,8,9,10],[11,0,1,2,3,4,5,6,7,8,9,10]] [⟨some 37,none,.faddr 1 (.t 6)⟩,⟨some 38,none,.load false 1 (.t 37)⟩,⟨some 39,none,.load true 1 (.t 2)⟩,⟨some 40,none,.faddr 1 (.t 3)⟩,⟨some 41,none,.load false 1 (.t 40)⟩,⟨some 42,none,.mv (.t 7)⟩,⟨some 43,none,.iaddr 2 (.t 41) (.t 42)⟩,⟨some 44,none,.load true 2 (.t 43)⟩,⟨some 45,none,.call 126 [(.t 39),(.t 44)]⟩,⟨(some 46),none,(.mkrow 33 2 [(.str ⟨#[]⟩),.nil] 1 [(0,(.t 45))])⟩,⟨(some 47),none,(.append 33 2 40 [(.str ⟨#[]⟩),.nil] (.t 38) (.t 46))⟩,⟨some 48,none,.faddr 1 (.t 6)⟩,⟨none,none,(.store 1 (.t 48) (.t 47))⟩])) (.reg [⟨some 35,none,.mv (.t 7)⟩,⟨some 36,none,.bin .add false (.t 35) (.c (.int .i64 1))⟩,⟨some 7,none,.mv (.t 36)⟩])))))) (.seq (.reg [⟨some 49,none,.load true 2 (.t 6)⟩,⟨none,none,(.store 2 (.t 4) (.t 49))⟩]) .ret)))))
theorem Fd:Ao Tryz.prog 126=some ⟨50,D3,[(.cell 4 true 2)]⟩:=by kernel_rfl
theorem Co:modes 126=⟨[],.frz,none,false⟩:=by unfold modes; rfl
theorem Sa (s:Sb) (hs:s.fine) (ht:s.tame) (x:Tm) (hn:x.nodes≤1099511627776) (ih:∀ y∈x.args,E 126 [s.sv,y.sv] []=some ((y.ap s.look).sv,[])):E 126 [s.sv,x.sv] []=some ((x.ap s.look).sv,[]):=by
 have hsl:=ht.1
 have hl:=Tm.length_le x.args
 have hne:=Tm.nodes_eq x
 have hf:=UT s x.name hsl
 rw [QQ hs.1] at hf
 cases hv:BI x.name with
 | true =>
  cases hh:Hi s.binds x.name with
  | true =>
   have hlt:=Mm hh
   have hg:=get_at Bd.d hlt
   rw [Bd.d_eq] at hg
   have hni:((B5 s.binds x.name:Nat):Int).toNat=B5 s.binds x.name:=Int.toNat_natCast _
   have hd:=Kk (s.binds[B5 s.binds x.name]).term (Sb.tame_at ht hlt)
   have e:x.ap s.look=(s.binds[B5 s.binds x.name]).term:=by rw [Tm.Ni,if_pos hv,Sb.Nt hh hlt]; rfl
   rw [hh,if_pos rfl] at hf
   rw [e]
   refine Ak Fd Co (of_decide_eq_true rfl) ?_
   simp (disch:=omega) only [D3,go_sem,Ab,hv,hf,hg,hni,hd,DW,Aj,DV,BN]
  | false =>
   have e:x.ap s.look=.mk x.name []:=by rw [Tm.Ni,if_pos hv,Sb.PG hh]; rfl
   rw [hh,if_neg (by simp)] at hf
   rw [e]
   have e1:(Tm.mk x.name []).sv=.agg [.str x.name,.arr []]:=rfl
   rw [e1]
   refine Ak Fd Co (of_decide_eq_true rfl) ?_
   simp (disch:=omega) only [D3,go_sem,Ab,hv,hf,DW,Aj,DV]
 | false =>
  have e:x.ap s.look=.mk x.name (x.args.map (Tm.ap s.look)):=by rw [Tm.Ni,if_neg (by rw [hv]; simp),Tm.IB]
  rw [e]
  have e1:(Tm.mk x.name (x.args.map (Tm.ap s.look))).sv=.agg [.str x.name,.arr ((x.args.map (Tm.ap s.look)).map Tm.d)]:=rfl
  rw [e1]
  have h10:((1:Int)=0)=False:=by simp
  have hfu:=Tm.osh_full (x.args.map (Tm.ap s.look))
  have her:=Tm.osh_er (x.args.map (Tm.ap s.look))
  refine Ak Fd Co (of_decide_eq_true rfl) ?_
  simp (disch:=omega) only [D3,go_sem,Ab,hv,DW,Aj,DV]
  refine go_loop (α:=Int) (fun a=>⟨slots 50 0 [(2,.ptr 0 0),(3,.ptr 1 0),(4,.ptr 2 0),(6,.ptr 3 0),(7,.int .i64 a)],(if a=0 then [.box 124 [.arr (s.binds.map Bd.d)],.box 33 [.str x.name,.arr (x.args.map Tm.d)],.box 33 [.str ⟨#[]⟩,.nil],.box 33 [.str x.name,.nil]] else [.box 124 [.arr (s.binds.map Bd.d)],.box 33 [.str x.name,.arr (x.args.map Tm.d)],.box 33 [.str ⟨#[]⟩,.nil],.box 33 [.str x.name,.ref 4],.row 33 2 (((x.args.map (Tm.ap s.look)).take a.toNat).map Tm.osh)])⟩) (fun a=>∃ k:Nat,a=k∧k≤(x.args).length) (fun a=>(x.args).length-(a).toNat) 0 ⟨0,rfl,zI _⟩ (by simp (disch:=omega) only [go_sem,Ab,eq_self,if_true]) ?_
  rintro i ⟨k,hi,hk⟩
  have hni:i.toNat=k:=by omega
  have hni1:(i+1).toNat=k+1:=by omega
  rcases zE k (x.args).length with hlt | hge
  ·have hg:=get_at Tm.d hlt
   rw [Tm.d_eq] at hg
   have hltm:k<(x.args.map (Tm.ap s.look)).length:=by rw [zJ]; exact hlt
   have hc:=ih x.args[k] (zD hlt)
   have hse:=CH Tm.osh hltm
   rw [Tm.osh_eq,yJ] at hse
   rcases yD k with h0 | h0
   ·subst h0
    obtain rfl:i=0:=hi
    rw [yV,z7,yL] at hse
    simp (disch:=omega) only [go_sem,Ab,hni,hg,hc,Co,eq_self,if_true]
    refine ⟨1,⟨1,rfl,hlt⟩,by omega,?_⟩
    simp (disch:=omega) only [go_sem,Ab,h10,if_false,hse]
   ·have hi0:(i=0)=False:=by simp; omega
    have hi1:(i+1=0)=False:=by simp; omega
    have htl:((x.args.map (Tm.ap s.look)).take k).length=k:=by rw [yR]; omega
    simp (disch:=omega) only [go_sem,Ab,hni,hg,hc,Co,hi0,if_false,htl]
    refine ⟨i+1,⟨k+1,by omega,hlt⟩,by omega,?_⟩
    simp (disch:=omega) only [go_sem,Ab,hni1,hi1,if_false,hse]
  ·obtain rfl:k=x.args.length:=by omega
   have hta:(x.args.map (Tm.ap s.look)).take x.args.length=x.args.map (Tm.ap s.look):=by
    have:=List.take_length (l:=x.args.map (Tm.ap s.look))
    rwa [zJ] at this
   rcases yD x.args.length with h0 | h0
   ·have hx:x.args=[]:=zV h0
    obtain rfl:i=0:=by omega
    simp (disch:=omega) only [go_sem,Ab,hni,hx,eq_self,if_true,z7,yU]
   ·have hi0:(i=0)=False:=by simp; omega
    simp (disch:=omega) only [go_sem,Ab,hni,hi0,if_false,hta,hfu,her]
theorem OW (s:Sb) (hs:s.fine) (ht:s.tame) (x:Tm) (hn:x.nodes≤1099511627776):E 126 [s.sv,x.sv] []=some ((x.ap s.look).sv,[]) :=
 Sa s hs ht x hn fun y hy=>OW s hs ht y (by have:=Tm.nodes_mem hy; have:=Tm.nodes_eq x; omega)
termination_by SizeOf.sizeOf x
decreasing_by exact Tm.lt_of_mem hy
noncomputable def XE (s:Sb) (x:Tm):Bool:=s.ok&&(x.expr&&(x.ap s.look).small)
noncomputable def IL (s:Sb) (x:Tm):Tm:=if XE s x then x.ap s.look else .mk ⟨#[]⟩ []
def Ld (x y:Bd):Bool:=!strLt y.var x.var
def DC:List Bd→Bd→List Bd
 | [],b=>[b]
 | x :: xs,b=>bif strLt x.var b.var then x :: DC xs b else b :: x :: xs
theorem GA (b:Bd):∀ xs:List Bd,(DC xs b).Perm (b :: xs)
 | []=>.refl _
 | x :: xs=>by
  rw [DC]
  cases strLt x.var b.var with
  | true=>exact ((GA b xs).cons x).trans (.swap b x xs)
  | false=>exact .refl _
theorem Sc {a b c:Bd} (h:Ld a b=true) (k:Ld b c=true):Ld a c=true:=by
 unfold Ld at *
 cases hq:strLt c.var a.var with
 | false=>rfl
 | true =>
  cases hb:strLt b.var a.var with
  | true=>rw [hb] at h; cases h
  | false =>
   cases hc:strLt c.var b.var with
   | true=>rw [hc] at k; cases k
   | false =>
    cases hab:strLt a.var b.var with
    | true=>rw [LF hq hab] at hc; cases hc
    | false =>
     have:=HW hab hb
     rw [this] at hq; rw [hq] at hc; cases hc
theorem LH (b:Bd):∀ xs:List Bd,xs.Pairwise (fun x y=>Ld x y=true)→(DC xs b).Pairwise fun x y=>Ld x y=true
 | [],_=>by simp [DC]
 | x :: xs,h=>by
  rw [DC]
  rw [yE] at h
  cases hq:strLt x.var b.var with
  | true =>
   rw [cond_true,yE]
   refine ⟨fun y hy=>?_,LH b xs h.2⟩
   rcases zQ.1 ((GA b xs).mem_iff.1 hy) with rfl | hy
   ·unfold Ld; rw [FA hq]; rfl
   ·exact h.1 y hy
  | false =>
   have hb:Ld b x=true:=by unfold Ld; rw [hq]; rfl
   rw [cond_false,yE,yE]
   refine ⟨fun y hy=>?_,h⟩
   rcases zQ.1 hy with rfl | hy
   ·exact hb
   ·exact Sc hb (h.1 y hy)
theorem QR (b:Bd):∀ xs:List Bd,DC xs b=xs.take (B5 xs b.var)++b :: xs.drop (B5 xs b.var)
 | []=>by simp [DC,B5]
 | x :: xs=>by
  rw [DC,B5]
  cases h:strLt x.var b.var with
  | true=>rw [cond_true,QR b xs]; simp
  | false=>simp
noncomputable def XF (u:Sb) (b:Bd):Option Bd:=bif dec ((b.term.ap u.look).name=b.var) then none else some ⟨b.var,b.term.ap u.look⟩
noncomputable def Ye (s u:Sb):List Bd:=s.binds.filterMap (XF u)
noncomputable def Yf (s u:Sb):List Bd:=u.binds.filter fun b=>!Hi s.binds b.var
noncomputable def XG (s u:Sb):List Bd:=Ye s u++Yf s u
noncomputable def Yg (s u:Sb):Sb:=⟨(XG s u).mergeSort Ld⟩
theorem Nu:∀ {xs:List Bd},Ns xs→(xs.map Bd.var).Nodup:=by
 intro xs h
 unfold List.Nodup
 rw [zX]
 intro i j hi hj hij e
 rw [zJ] at hj
 have:=h i j hij hj
 simp only [yJ] at e
 rw [e,Nn] at this
 cases this
theorem UV {xs:List Bd} (hs:Ns xs) (n:ByteArray):Hi xs n=xs.any fun b=>dec (b.var=n):=by
 rw [←G7,QQ hs]
 cases Hi xs n with
 | true=>rw [if_pos rfl]; exact (A6 (by omega)).symm
 | false=>rw [if_neg (by simp)]; exact (An (by omega)).symm
def St.wtS (xs:List ByteArray):Nat:=xs.length
noncomputable def St.mkS:List ByteArray→Int→List ByteArray × Int
 | [],k=>([],k)
 | _ :: xs,k=>(BU k :: (St.mkS xs (k+1)).1,(St.mkS xs (k+1)).2)
theorem St.mkS_end:∀ (xs:List ByteArray) (k:Int),(St.mkS xs k).2=k+St.wtS xs
 | [],k=>by simp [St.mkS,St.wtS]
 | x :: xs,k=>by
  have h:=St.mkS_end xs (k+1)
  unfold St.wtS at h ⊢
  rw [St.mkS]
  simp only [zL]
  omega
theorem St.wtS_bulk (xs:List ByteArray):St.wtS xs≤5*(xs.length+Gf xs):=by
 unfold St.wtS
 omega
def Fe:SC:=(.seq (.reg [⟨some 4,none,.mv (.c (.int .i64 0))⟩]) (.seq (.seq (.reg [⟨some 5,none,.mv (.c (.int .i64 0))⟩]) (.block 0 (.loop [1,1,0,0,0,1,0,0,0,0,0,0,0,0,0,0,0,0,0,0] (.seq (.seq (.reg [⟨some 6,none,.mv (.t 5)⟩,⟨some 7,none,.mv (.t 0)⟩,⟨some 8,none,.len false (.t 7)⟩,⟨some 9,none,.bin .lss false (.t 6) (.t 8)⟩]) (.cond (.t 9) .skip (.exit 0))) (.seq (.block 1 (.seq (.reg [⟨some 12,none,.mv (.t 0)⟩,⟨some 13,none,.mv (.t 5)⟩,⟨some 14,none,.mv (.t 1)⟩,⟨some 15,none,.call 49 [(.t 14)]⟩,⟨some 16,none,.iaddr 1 (.t 12) (.t 13)⟩,⟨none,none,(.store 1 (.t 16) (.t 15))⟩]) (.reg [⟨some 17,none,.mv (.t 1)⟩,⟨some 18,none,.bin .add false (.t 17) (.c (.int .i64 1))⟩,⟨some 1,none,.mv (.t 18)⟩]))) (.reg [⟨some 10,none,.mv (.t 5)⟩,⟨some 11,none,.bin .add false (.t 10) (.c (.int .i64 1))⟩,⟨some 5,none,.mv (.t 11)⟩])))))) (.seq (.reg [⟨some 19,none,.mv (.t 1)⟩,⟨some 4,none,.mv (.t 19)⟩]) .ret)))
theorem JC:Ao Tryz.prog 50=some ⟨20,Fe,[(.tmp 4)]⟩:=by kernel_rfl
theorem Ff:modes 50=⟨[true],.asis,none,true⟩:=by unfold modes; rfl
abbrev Oa (xs:List ByteArray):Prop:=∀ (k:Int) (ob:List Ob),1≤k→k+St.wtS xs≤1099511627776→toTree ob=[.tree (xs.map (fun s=>[OT.str s])) []]→E 50 [.ref 0,.int .i64 k] ob=some (.int .i64 (St.mkS xs k).2,[.tree ((St.mkS xs k).1.map (fun s=>[OT.str s])) []])
theorem Oc (xs:List ByteArray):Oa xs:=by
 intro k0 ob h1 h2 hob
 have hlen:ob.length=1:=by rw [←DI,hob]; rfl
 have hwt:St.wtS xs=xs.length:=rfl
 refine Ak JC Ff (of_decide_eq_true rfl) ?_
 simp (disch:=omega) only [Fe,go_sem,Ab,hob,hlen]
 refine go_loop (α:=Int × (Int) × (List ByteArray)) (fun a=>⟨slots 20 0 [(0,.ref 0),(1,.int .i64 (a.2.1)),(5,.int .i64 (a.1))],[.tree (((a.2.2)++xs.drop (a.1).toNat).map (fun s=>[OT.str s])) []]⟩) (fun a=>∃ k:Nat,a.1=k∧k≤(xs).length∧(a.2.2).length=k∧(a.2.1)=k0+k∧St.mkS xs k0=((a.2.2)++(St.mkS (xs.drop k) (a.2.1)).1,(St.mkS (xs.drop k) (a.2.1)).2)) (fun a=>(xs).length-(a.1).toNat) (0,k0,[]) ⟨0,rfl,zI _,rfl,by simp,by simp⟩ (by simp (disch:=omega) only [go_sem,Ab,zP]) ?_
 rintro ⟨i,kk,dn⟩ ⟨k,hi,hk,hR⟩
 dsimp only at hi hR
 have hni:i.toNat=k:=by omega
 have hni1:(i+1).toNat=k+1:=by omega
 rcases zE k (xs).length with hlt | hge
 ·obtain ⟨hd,hk1,hm⟩:=hR
  have hdr:xs.drop k=xs[k] :: xs.drop (k+1):=zB hlt
  have hel:(dn++xs.drop k).length=xs.length:=by simp; omega
  have hg:(yP (fun s=>[OT.str s]) (dn++xs.drop k))[k]?=some [OT.str xs[k]]:=by
   rw [hdr,z5,zR (by omega),hd,yF]; rfl
  rw [hdr,St.mkS] at hm
  have tx:=Cf (k:=kk) (by omega) (by omega)
  have hs:=F5 (fun s=>[OT.str s]) dn (xs.drop (k+1)) xs[k] (BU kk) hd
  rw [←hdr] at hs
  have hgs:∀ a,((yP (fun s=>[OT.str s]) (dn++xs.drop k)).set k a)[k]?=some a:=fun a=>zZ (by rw [zJ,hel]; exact hlt)
  simp (disch:=omega) only [go_sem,Ab,hni,hel,hg,hgs,yM,yT,hs,tx,BX]
  refine ⟨(i+1,kk+1,dn++[BU kk]),⟨k+1,by dsimp only; omega,hlt,by dsimp only; simp [hd],by dsimp only; omega,by rw [hm]; simp⟩,by dsimp only; omega,?_⟩
  dsimp only
  rw [hni1]
  try first | rfl | simp only [and_self]
 ·obtain ⟨hd,hk1,hm⟩:=hR
  have hdr:xs.drop k=[]:=zF hge
  rw [hdr,St.mkS] at hm
  rw [hm]
  simp (disch:=omega) only [go_sem,Ab,hni,hdr,yB]
mutual
def Tm.wt:Tm→Nat
 | .mk name args=>1+Tm.wtS args
def Tm.wtS:List Tm→Nat
 | []=>0
 | x :: xs=>Tm.wt x+Tm.wtS xs
end
theorem Tm.wt_eq (x:Tm):x.wt=1+Tm.wtS x.args:=by
 obtain ⟨name,args⟩:=x
 rw [Tm.wt]; rfl
mutual
noncomputable def Tm.mk1:Tm→Int→Tm × Int
 | .mk name args,k=>((Tm.mk (BU k) ((Tm.mkS args (k+1)).1)),(Tm.mkS args (k+1)).2)
noncomputable def Tm.mkS:List Tm→Int→List Tm × Int
 | [],k=>([],k)
 | x :: xs,k=>((Tm.mk1 x k).1 :: (Tm.mkS xs (Tm.mk1 x k).2).1,(Tm.mkS xs (Tm.mk1 x k).2).2)
end
theorem Tm.mk1_eq (x:Tm) (k:Int):x.mk1 k=((Tm.mk (BU k) ((Tm.mkS x.args (k+1)).1)),(Tm.mkS x.args (k+1)).2):=by
 obtain ⟨name,args⟩:=x
 rw [Tm.mk1]; rfl
theorem Tm.mk1_d (x:Tm) (k:Int):Tm.d (x.mk1 k).1=[.str (BU k),.arr ((Tm.mkS x.args (k+1)).1.map Tm.d)]:=by
 rw [Tm.mk1_eq,Tm.d_eq]
 try rfl
theorem Tm.mk1_o (x:Tm) (k:Int):Tm.o (x.mk1 k).1=[.str (BU k),.ow ((Tm.mkS x.args (k+1)).1.map Tm.o)]:=by
 rw [Tm.mk1_eq,Tm.o_eq]
 try rfl
theorem Tm.mkS_end_of:∀ (xs:List Tm) (k:Int),(∀ x∈xs,∀ k,(x.mk1 k).2=k+x.wt)→(Tm.mkS xs k).2=k+Tm.wtS xs
 | [],k,_=>by simp [Tm.mkS,Tm.wtS]
 | x :: xs,k,h=>by
  rw [Tm.mkS,Tm.wtS]
  have h1:=h x (by simp) k
  have h2:=Tm.mkS_end_of xs (x.mk1 k).2 fun y hy=>h y (by simp [hy])
  dsimp only
  omega
theorem Tm.mk1_end (x:Tm) (k:Int):(x.mk1 k).2=k+x.wt:=by
 rw [Tm.mk1_eq,Tm.wt_eq]
 have h:=fun k=>Tm.mkS_end_of x.args k fun y hy k=>Tm.mk1_end y k
 simp only [h]
 omega
termination_by SizeOf.sizeOf x
decreasing_by exact Tm.lt_of_mem hy
theorem Tm.mkS_end (xs:List Tm) (k:Int):(Tm.mkS xs k).2=k+Tm.wtS xs:=Tm.mkS_end_of xs k fun x _ k=>Tm.mk1_end x k
theorem Tm.wtS_of:∀ xs:List Tm,(∀ x∈xs,x.wt≤5*(1+x.bulk))→Tm.wtS xs≤5*(xs.length+Tm.sumB xs)
 | [],_=>by simp [Tm.wtS]
 | x :: xs,h=>by
  have h1:=h x (by simp)
  have h2:=Tm.wtS_of xs fun y hy=>h y (by simp [hy])
  rw [Tm.wtS,Tm.sumB]; simp only [zL]; omega
theorem Tm.wt_bulk (x:Tm):x.wt≤5*(1+x.bulk):=by
 rw [Tm.wt_eq,Tm.bulk_eq]
 have h:=Tm.wtS_of x.args fun y hy=>Tm.wt_bulk y
 omega
termination_by SizeOf.sizeOf x
decreasing_by exact Tm.lt_of_mem hy
theorem Tm.wtS_bulk (xs:List Tm):Tm.wtS xs≤5*(xs.length+Tm.sumB xs):=Tm.wtS_of xs fun x _=>Tm.wt_bulk x
theorem Tm.length_wt:∀ xs:List Tm,xs.length≤Tm.wtS xs
 | []=>zY _
 | x :: xs=>by
  have:=Tm.length_wt xs
  have:=Tm.wt_eq x
  rw [Tm.wtS]; simp only [zL]; omega
def GB:SC:=(.seq (.reg [⟨some 4,none,.mv (.c (.int .i64 0))⟩]) (.seq (.seq (.reg [⟨some 5,none,.mv (.c (.int .i64 0))⟩]) (.block 0 (.loop [1,1,0,0,0,1,0,0,0,0,0,0,0,0,0,0,0,0,0,0,0,0,0,0,0,0,0,0] (.seq (.seq (.reg [⟨some 6,none,.mv (.t 5)⟩,⟨some 7,none,.mv (.t 0)⟩,⟨some 8,none,.len false (.t 7)⟩,⟨some 9,none,.bin .lss false (.t 6) (.t 8)⟩]) (.cond (.t 9) .skip (.exit 0))) (.seq (.block 1 (.seq (.reg [⟨some 12,none,.mv (.t 0)⟩,⟨some 13,none,.mv (.t 5)⟩,⟨some 14,none,.mv (.t 1)⟩,⟨some 15,none,.call 49 [(.t 14)]⟩,⟨some 16,none,.iaddr 2 (.t 12) (.t 13)⟩,⟨some 17,none,.faddr 0 (.t 16)⟩,⟨none,none,(.store 1 (.t 17) (.t 15))⟩]) (.seq (.reg [⟨some 18,none,.mv (.t 1)⟩,⟨some 19,none,.bin .add false (.t 18) (.c (.int .i64 1))⟩,⟨some 1,none,.mv (.t 19)⟩]) (.reg [⟨some 20,none,.mv (.t 0)⟩,⟨some 21,none,.mv (.t 5)⟩,⟨some 22,none,.iaddr 2 (.t 20) (.t 21)⟩,⟨some 23,none,.faddr 1 (.t 22)⟩,⟨some 24,none,.load false 1 (.t 23)⟩,⟨some 25,none,.mv (.t 1)⟩,⟨some 26,none,.call 51 [(.t 24),(.t 25)]⟩,⟨some 1,none,.mv (.t 26)⟩])))) (.reg [⟨some 10,none,.mv (.t 5)⟩,⟨some 11,none,.bin .add false (.t 10) (.c (.int .i64 1))⟩,⟨some 5,none,.mv (.t 11)⟩])))))) (.seq (.reg [⟨some 27,none,.mv (.t 1)⟩,⟨some 4,none,.mv (.t 27)⟩]) .ret)))
theorem Le:Ao Tryz.prog 51=some ⟨28,GB,[(.tmp 4)]⟩:=by kernel_rfl
theorem Cp:modes 51=⟨[true],.asis,none,true⟩:=by unfold modes; rfl
abbrev FB (xs:List Tm):Prop:=∀ (k:Int) (ob:List Ob),1≤k→k+Tm.wtS xs≤1099511627776→toTree ob=[.tree (xs.map Tm.o) []]→E 51 [.ref 0,.int .i64 k] ob=some (.int .i64 (Tm.mkS xs k).2,[.tree ((Tm.mkS xs k).1.map Tm.o) []])
theorem HX (xs:List Tm) (ih:∀ x∈xs,FB x.args):FB xs:=by
 intro k0 ob h1 h2 hob
 have hlen:ob.length=1:=by rw [←DI,hob]; rfl
 have hL:=Tm.length_wt xs
 refine Ak Le Cp (of_decide_eq_true rfl) ?_
 simp (disch:=omega) only [GB,go_sem,Ab,hob,hlen]
 refine go_loop (α:=Int × (Int) × (List Tm)) (fun a=>⟨slots 28 0 [(0,.ref 0),(1,.int .i64 (a.2.1)),(5,.int .i64 (a.1))],[.tree (((a.2.2)++xs.drop (a.1).toNat).map Tm.o) []]⟩) (fun a=>∃ k:Nat,a.1=k∧k≤(xs).length∧(a.2.2).length=k∧1≤(a.2.1)∧(a.2.1)+Tm.wtS (xs.drop k)=k0+Tm.wtS xs∧Tm.mkS xs k0=((a.2.2)++(Tm.mkS (xs.drop k) (a.2.1)).1,(Tm.mkS (xs.drop k) (a.2.1)).2)) (fun a=>(xs).length-(a.1).toNat) (0,k0,[]) ⟨0,rfl,zI _,rfl,h1,by rw [zH],by simp⟩ (by simp (disch:=omega) only [go_sem,Ab,zP]) ?_
 rintro ⟨i,kk,dn⟩ ⟨k,hi,hk,hR⟩
 dsimp only at hi hR
 have hni:i.toNat=k:=by omega
 have hni1:(i+1).toNat=k+1:=by omega
 rcases zE k (xs).length with hlt | hge
 ·obtain ⟨hd,hk1,hkn,hm⟩:=hR
  have hdr:xs.drop k=xs[k] :: xs.drop (k+1):=zB hlt
  have hel:(dn++xs.drop k).length=xs.length:=by simp; omega
  have hg:(yP Tm.o (dn++xs.drop k))[k]?=some [.str xs[k].name,.ow (xs[k].args.map Tm.o)]:=by
   rw [←Tm.o_eq,hdr,z5,zR (by omega),hd,yF]; rfl
  rw [hdr,Tm.wtS] at hkn
  rw [hdr,Tm.mkS] at hm
  have hn1:=Tm.wt_eq xs[k]
  have e1:=Tm.mkS_end xs[k].args ((kk+1))
  have t0:=Cf (k:=kk) (by omega) (by omega)
  have c58:=ih xs[k] (zD hlt) ((kk+1)) [.tree (xs[k].args.map Tm.o) []] (by omega) (by omega) rfl
  have hs:=F5 Tm.o dn (xs.drop (k+1)) xs[k] (xs[k].mk1 kk).1 hd
  rw [Tm.mk1_o,← hdr] at hs
  have hgs:∀ a,((yP Tm.o (dn++xs.drop k)).set k a)[k]?=some a:=fun a=>zZ (by rw [zJ,hel]; exact hlt)
  have he:=Tm.mk1_end xs[k] kk
  have three:∀ z:Int,dec ((3:Int)=0)=false:=fun _=>An (by omega)
  simp (disch:=omega) only [go_sem,Ab,hni,hel,hg,t0,c58,Cp,BX,hgs,yM,yT,hs,three 0]
  refine ⟨(i+1,(xs[k].mk1 kk).2,dn++[(xs[k].mk1 kk).1]),⟨k+1,by dsimp only; omega,hlt,by dsimp only; simp [hd],by dsimp only; omega,by dsimp only; omega,by rw [hm]; simp⟩,by dsimp only; omega,?_⟩
  dsimp only
  rw [hni1,Tm.mk1_eq]
  refine ⟨⟨?_,rfl⟩,rfl⟩
  first | rfl | omega
 ·obtain ⟨hd,hk1,hkn,hm⟩:=hR
  have hdr:xs.drop k=[]:=zF hge
  rw [hdr,Tm.mkS] at hm
  rw [hm]
  simp (disch:=omega) only [go_sem,Ab,hni,hdr,yB]
theorem Kl (x:Tm):FB x.args:=HX x.args fun y hy=>Kl y
termination_by SizeOf.sizeOf x
decreasing_by exact Tm.lt_of_mem hy
theorem HY (xs:List Tm):FB xs:=HX xs fun y _=>Kl y
mutual
def Fm.wt:Fm→Nat
 | .mk op atom var parts=>3+Tm.wtS atom.args+Fm.wtS parts
def Fm.wtS:List Fm→Nat
 | []=>0
 | x :: xs=>Fm.wt x+Fm.wtS xs
end
theorem Fm.wt_eq (x:Fm):x.wt=3+Tm.wtS x.atom.args+Fm.wtS x.parts:=by
 obtain ⟨op,atom,var,parts⟩:=x
 rw [Fm.wt]; rfl
mutual
noncomputable def Fm.mk1:Fm→Int→Fm × Int
 | .mk op atom var parts,k=>((Fm.mk (k) (Tm.mk (BU (k+1)) ((Tm.mkS atom.args (k+1+1)).1)) (BU (Tm.mkS atom.args (k+1+1)).2) ((Fm.mkS parts ((Tm.mkS atom.args (k+1+1)).2+1)).1)),(Fm.mkS parts ((Tm.mkS atom.args (k+1+1)).2+1)).2)
noncomputable def Fm.mkS:List Fm→Int→List Fm × Int
 | [],k=>([],k)
 | x :: xs,k=>((Fm.mk1 x k).1 :: (Fm.mkS xs (Fm.mk1 x k).2).1,(Fm.mkS xs (Fm.mk1 x k).2).2)
end
theorem Fm.mk1_eq (x:Fm) (k:Int):x.mk1 k=((Fm.mk (k) (Tm.mk (BU (k+1)) ((Tm.mkS x.atom.args (k+1+1)).1)) (BU (Tm.mkS x.atom.args (k+1+1)).2) ((Fm.mkS x.parts ((Tm.mkS x.atom.args (k+1+1)).2+1)).1)),(Fm.mkS x.parts ((Tm.mkS x.atom.args (k+1+1)).2+1)).2):=by
 obtain ⟨op,atom,var,parts⟩:=x
 rw [Fm.mk1]; rfl
theorem Fm.mk1_d (x:Fm) (k:Int):Fm.d (x.mk1 k).1=[.int k,.str (BU (k+1)),.arr ((Tm.mkS x.atom.args (k+1+1)).1.map Tm.d),.str (BU (Tm.mkS x.atom.args (k+1+1)).2),.arr ((Fm.mkS x.parts ((Tm.mkS x.atom.args (k+1+1)).2+1)).1.map Fm.d)]:=by
 rw [Fm.mk1_eq,Fm.d_eq]
 try rfl
theorem Fm.mk1_o (x:Fm) (k:Int):Fm.o (x.mk1 k).1=[.int k,.str (BU (k+1)),.ow ((Tm.mkS x.atom.args (k+1+1)).1.map Tm.o),.str (BU (Tm.mkS x.atom.args (k+1+1)).2),.ow ((Fm.mkS x.parts ((Tm.mkS x.atom.args (k+1+1)).2+1)).1.map Fm.o)]:=by
 rw [Fm.mk1_eq,Fm.o_eq]
 try rfl
theorem Fm.mkS_end_of:∀ (xs:List Fm) (k:Int),(∀ x∈xs,∀ k,(x.mk1 k).2=k+x.wt)→(Fm.mkS xs k).2=k+Fm.wtS xs
 | [],k,_=>by simp [Fm.mkS,Fm.wtS]
 | x :: xs,k,h=>by
  rw [Fm.mkS,Fm.wtS]
  have h1:=h x (by simp) k
  have h2:=Fm.mkS_end_of xs (x.mk1 k).2 fun y hy=>h y (by simp [hy])
  dsimp only
  omega
theorem Fm.mk1_end (x:Fm) (k:Int):(x.mk1 k).2=k+x.wt:=by
 rw [Fm.mk1_eq,Fm.wt_eq]
 have h:=fun k=>Fm.mkS_end_of x.parts k fun y hy k=>Fm.mk1_end y k
 simp only [h,Tm.mkS_end]
 omega
termination_by SizeOf.sizeOf x
decreasing_by exact Fm.lt_of_mem hy
theorem Fm.mkS_end (xs:List Fm) (k:Int):(Fm.mkS xs k).2=k+Fm.wtS xs:=Fm.mkS_end_of xs k fun x _ k=>Fm.mk1_end x k
theorem Fm.wtS_of:∀ xs:List Fm,(∀ x∈xs,x.wt≤5*(1+x.bulk))→Fm.wtS xs≤5*(xs.length+Fm.sumB xs)
 | [],_=>by simp [Fm.wtS]
 | x :: xs,h=>by
  have h1:=h x (by simp)
  have h2:=Fm.wtS_of xs fun y hy=>h y (by simp [hy])
  rw [Fm.wtS,Fm.sumB]; simp only [zL]; omega
theorem Fm.wt_bulk (x:Fm):x.wt≤5*(1+x.bulk):=by
 rw [Fm.wt_eq,Fm.bulk_eq]
 have h:=Fm.wtS_of x.parts fun y hy=>Fm.wt_bulk y
 have h0:=Tm.wtS_bulk x.atom.args
 have q1:=Tm.bulk_eq x.atom
 omega
termination_by SizeOf.sizeOf x
decreasing_by exact Fm.lt_of_mem hy
theorem Fm.wtS_bulk (xs:List Fm):Fm.wtS xs≤5*(xs.length+Fm.sumB xs):=Fm.wtS_of xs fun x _=>Fm.wt_bulk x
theorem Fm.length_wt:∀ xs:List Fm,xs.length≤Fm.wtS xs
 | []=>zY _
 | x :: xs=>by
  have:=Fm.length_wt xs
  have:=Fm.wt_eq x
  rw [Fm.wtS]; simp only [zL]; omega
def Eo:SC:=(.seq (.reg [⟨some 4,none,.mv (.c (.int .i64 0))⟩]) (.seq (.seq (.reg [⟨some 5,none,.mv (.c (.int .i64 0))⟩]) (.block 0 (.loop [1,1,0,0,0,1,0,0,0,0,0,0,0,0,0,0,0,0,0,0,0,0,0,0,0,0,0,0,0,0,0,0,0,0,0,0,0,0,0,0,0,0,0,0,0,0,0,0,0,0,0,0] (.seq (.seq (.reg [⟨some 6,none,.mv (.t 5)⟩,⟨some 7,none,.mv (.t 0)⟩,⟨some 8,none,.len false (.t 7)⟩,⟨some 9,none,.bin .lss false (.t 6) (.t 8)⟩]) (.cond (.t 9) .skip (.exit 0))) (.seq (.block 1 (.seq (.reg [⟨some 12,none,.mv (.t 0)⟩,⟨some 13,none,.mv (.t 5)⟩,⟨some 14,none,.mv (.t 1)⟩,⟨some 15,none,.iaddr 5 (.t 12) (.t 13)⟩,⟨some 16,none,.faddr 0 (.t 15)⟩,⟨none,none,(.store 1 (.t 16) (.t 14))⟩]) (.seq (.reg [⟨some 17,none,.mv (.t 1)⟩,⟨some 18,none,.bin .add false (.t 17) (.c (.int .i64 1))⟩,⟨some 1,none,.mv (.t 18)⟩]) (.seq (.reg [⟨some 19,none,.mv (.t 0)⟩,⟨some 20,none,.mv (.t 5)⟩,⟨some 21,none,.mv (.t 1)⟩,⟨some 22,none,.call 49 [(.t 21)]⟩,⟨some 23,none,.iaddr 5 (.t 19) (.t 20)⟩,⟨some 24,none,.faddr 1 (.t 23)⟩,⟨some 25,none,.faddr 0 (.t 24)⟩,⟨none,none,(.store 1 (.t 25) (.t 22))⟩]) (.seq (.reg [⟨some 26,none,.mv (.t 1)⟩,⟨some 27,none,.bin .add false (.t 26) (.c (.int .i64 1))⟩,⟨some 1,none,.mv (.t 27)⟩]) (.seq (.reg [⟨some 28,none,.mv (.t 0)⟩,⟨some 29,none,.mv (.t 5)⟩,⟨some 30,none,.iaddr 5 (.t 28) (.t 29)⟩,⟨some 31,none,.faddr 1 (.t 30)⟩,⟨some 32,none,.faddr 1 (.t 31)⟩,⟨some 33,none,.load false 1 (.t 32)⟩,⟨some 34,none,.mv (.t 1)⟩,⟨some 35,none,.call 51 [(.t 33),(.t 34)]⟩,⟨some 1,none,.mv (.t 35)⟩]) (.seq (.reg [⟨some 36,none,.mv (.t 0)⟩,⟨some 37,none,.mv (.t 5)⟩,⟨some 38,none,.mv (.t 1)⟩,⟨some 39,none,.call 49 [(.t 38)]⟩,⟨some 40,none,.iaddr 5 (.t 36) (.t 37)⟩,⟨some 41,none,.faddr 3 (.t 40)⟩,⟨none,none,(.store 1 (.t 41) (.t 39))⟩]) (.seq (.reg [⟨some 42,none,.mv (.t 1)⟩,⟨some 43,none,.bin .add false (.t 42) (.c (.int .i64 1))⟩,⟨some 1,none,.mv (.t 43)⟩]) (.reg [⟨some 44,none,.mv (.t 0)⟩,⟨some 45,none,.mv (.t 5)⟩,⟨some 46,none,.iaddr 5 (.t 44) (.t 45)⟩,⟨some 47,none,.faddr 4 (.t 46)⟩,⟨some 48,none,.load false 1 (.t 47)⟩,⟨some 49,none,.mv (.t 1)⟩,⟨some 50,none,.call 48 [(.t 48),(.t 49)]⟩,⟨some 1,none,.mv (.t 50)⟩]))))))))) (.reg [⟨some 10,none,.mv (.t 5)⟩,⟨some 11,none,.bin .add false (.t 10) (.c (.int .i64 1))⟩,⟨some 5,none,.mv (.t 11)⟩])))))) (.seq (.reg [⟨some 51,none,.mv (.t 1)⟩,⟨some 4,none,.mv (.t 51)⟩]) .ret)))
theorem IM:Ao Tryz.prog 48=some ⟨52,Eo,[(.tmp 4)]⟩:=by kernel_rfl
theorem Cm:modes 48=⟨[true],.asis,none,true⟩:=by unfold modes; rfl
abbrev D4 (xs:List Fm):Prop:=∀ (k:Int) (ob:List Ob),1≤k→k+Fm.wtS xs≤1099511627776→toTree ob=[.tree (xs.map Fm.o) []]→E 48 [.ref 0,.int .i64 k] ob=some (.int .i64 (Fm.mkS xs k).2,[.tree ((Fm.mkS xs k).1.map Fm.o) []])
theorem FD (xs:List Fm) (ih:∀ x∈xs,D4 x.parts):D4 xs:=by
 intro k0 ob h1 h2 hob
 have hlen:ob.length=1:=by rw [←DI,hob]; rfl
 have hL:=Fm.length_wt xs
 refine Ak IM Cm (of_decide_eq_true rfl) ?_
 simp (disch:=omega) only [Eo,go_sem,Ab,hob,hlen]
 refine go_loop (α:=Int × (Int) × (List Fm)) (fun a=>⟨slots 52 0 [(0,.ref 0),(1,.int .i64 (a.2.1)),(5,.int .i64 (a.1))],[.tree (((a.2.2)++xs.drop (a.1).toNat).map Fm.o) []]⟩) (fun a=>∃ k:Nat,a.1=k∧k≤(xs).length∧(a.2.2).length=k∧1≤(a.2.1)∧(a.2.1)+Fm.wtS (xs.drop k)=k0+Fm.wtS xs∧Fm.mkS xs k0=((a.2.2)++(Fm.mkS (xs.drop k) (a.2.1)).1,(Fm.mkS (xs.drop k) (a.2.1)).2)) (fun a=>(xs).length-(a.1).toNat) (0,k0,[]) ⟨0,rfl,zI _,rfl,h1,by rw [zH],by simp⟩ (by simp (disch:=omega) only [go_sem,Ab,zP]) ?_
 rintro ⟨i,kk,dn⟩ ⟨k,hi,hk,hR⟩
 dsimp only at hi hR
 have hni:i.toNat=k:=by omega
 have hni1:(i+1).toNat=k+1:=by omega
 rcases zE k (xs).length with hlt | hge
 ·obtain ⟨hd,hk1,hkn,hm⟩:=hR
  have hdr:xs.drop k=xs[k] :: xs.drop (k+1):=zB hlt
  have hel:(dn++xs.drop k).length=xs.length:=by simp; omega
  have hg:(yP Fm.o (dn++xs.drop k))[k]?=some [.int xs[k].op,.str xs[k].atom.name,.ow (xs[k].atom.args.map Tm.o),.str xs[k].var,.ow (xs[k].parts.map Fm.o)]:=by
   rw [←Fm.o_eq,hdr,z5,zR (by omega),hd,yF]; rfl
  rw [hdr,Fm.wtS] at hkn
  rw [hdr,Fm.mkS] at hm
  have hn1:=Fm.wt_eq xs[k]
  have e2:=Tm.mkS_end xs[k].atom.args ((kk+1+1))
  have e4:=Fm.mkS_end xs[k].parts (((Tm.mkS xs[k].atom.args (kk+1+1)).2+1))
  have t0:=Cf (k:=(kk+1)) (by omega) (by omega)
  have c64:=HY xs[k].atom.args ((kk+1+1)) [.tree (xs[k].atom.args.map Tm.o) []] (by omega) (by omega) rfl
  have t187:=Cf (k:=(Tm.mkS xs[k].atom.args (kk+1+1)).2) (by omega) (by omega)
  have c284:=ih xs[k] (zD hlt) (((Tm.mkS xs[k].atom.args (kk+1+1)).2+1)) [.tree (xs[k].parts.map Fm.o) []] (by omega) (by omega) rfl
  have hs:=F5 Fm.o dn (xs.drop (k+1)) xs[k] (xs[k].mk1 kk).1 hd
  rw [Fm.mk1_o,← hdr] at hs
  have hgs:∀ a,((yP Fm.o (dn++xs.drop k)).set k a)[k]?=some a:=fun a=>zZ (by rw [zJ,hel]; exact hlt)
  have he:=Fm.mk1_end xs[k] kk
  have three:∀ z:Int,dec ((3:Int)=0)=false:=fun _=>An (by omega)
  simp (disch:=omega) only [go_sem,Ab,hni,hel,hg,t0,c64,Cp,t187,c284,Cm,BX,hgs,yM,yT,hs,three 0]
  refine ⟨(i+1,(xs[k].mk1 kk).2,dn++[(xs[k].mk1 kk).1]),⟨k+1,by dsimp only; omega,hlt,by dsimp only; simp [hd],by dsimp only; omega,by dsimp only; omega,by rw [hm]; simp⟩,by dsimp only; omega,?_⟩
  dsimp only
  rw [hni1,Fm.mk1_eq]
  refine ⟨⟨?_,rfl⟩,rfl⟩
  first | rfl | omega
 ·obtain ⟨hd,hk1,hkn,hm⟩:=hR
  have hdr:xs.drop k=[]:=zF hge
  rw [hdr,Fm.mkS] at hm
  rw [hm]
  simp (disch:=omega) only [go_sem,Ab,hni,hdr,yB]
theorem Ht (x:Fm):D4 x.parts:=FD x.parts fun y hy=>Ht y
termination_by SizeOf.sizeOf x
decreasing_by exact Fm.lt_of_mem hy
theorem HZ (xs:List Fm):D4 xs:=FD xs fun y _=>Ht y
def Df.wt (x:Df):Nat:=4+St.wtS x.vars+Tm.wtS x.form.atom.args+Fm.wtS x.form.parts
theorem Df.wt_eq (x:Df):x.wt=4+St.wtS x.vars+Tm.wtS x.form.atom.args+Fm.wtS x.form.parts:=rfl
noncomputable def Df.mk1 (x:Df) (k:Int):Df × Int:=((Df.mk (BU k) ((St.mkS x.vars (k+1)).1) (Fm.mk ((St.mkS x.vars (k+1)).2) (Tm.mk (BU ((St.mkS x.vars (k+1)).2+1)) ((Tm.mkS x.form.atom.args ((St.mkS x.vars (k+1)).2+1+1)).1)) (BU (Tm.mkS x.form.atom.args ((St.mkS x.vars (k+1)).2+1+1)).2) ((Fm.mkS x.form.parts ((Tm.mkS x.form.atom.args ((St.mkS x.vars (k+1)).2+1+1)).2+1)).1))),(Fm.mkS x.form.parts ((Tm.mkS x.form.atom.args ((St.mkS x.vars (k+1)).2+1+1)).2+1)).2)
theorem Df.mk1_eq (x:Df) (k:Int):x.mk1 k=((Df.mk (BU k) ((St.mkS x.vars (k+1)).1) (Fm.mk ((St.mkS x.vars (k+1)).2) (Tm.mk (BU ((St.mkS x.vars (k+1)).2+1)) ((Tm.mkS x.form.atom.args ((St.mkS x.vars (k+1)).2+1+1)).1)) (BU (Tm.mkS x.form.atom.args ((St.mkS x.vars (k+1)).2+1+1)).2) ((Fm.mkS x.form.parts ((Tm.mkS x.form.atom.args ((St.mkS x.vars (k+1)).2+1+1)).2+1)).1))),(Fm.mkS x.form.parts ((Tm.mkS x.form.atom.args ((St.mkS x.vars (k+1)).2+1+1)).2+1)).2):=rfl
def Df.wtS:List Df→Nat
 | []=>0
 | x :: xs=>Df.wt x+Df.wtS xs
noncomputable def Df.mkS:List Df→Int→List Df × Int
 | [],k=>([],k)
 | x :: xs,k=>((Df.mk1 x k).1 :: (Df.mkS xs (Df.mk1 x k).2).1,(Df.mkS xs (Df.mk1 x k).2).2)
theorem Df.mk1_o (x:Df) (k:Int):Df.o (x.mk1 k).1=[.str (BU k),.ow ((St.mkS x.vars (k+1)).1.map (fun s=>[OT.str s])),.int (St.mkS x.vars (k+1)).2,.str (BU ((St.mkS x.vars (k+1)).2+1)),.ow ((Tm.mkS x.form.atom.args ((St.mkS x.vars (k+1)).2+1+1)).1.map Tm.o),.str (BU (Tm.mkS x.form.atom.args ((St.mkS x.vars (k+1)).2+1+1)).2),.ow ((Fm.mkS x.form.parts ((Tm.mkS x.form.atom.args ((St.mkS x.vars (k+1)).2+1+1)).2+1)).1.map Fm.o)]:=by
 rw [Df.mk1_eq,Df.o_eq]
 try rfl
theorem Df.mk1_end (x:Df) (k:Int):(x.mk1 k).2=k+x.wt:=by
 rw [Df.mk1_eq,Df.wt_eq]
 first
  |omega
  |(simp only [Fm.mkS_end,St.mkS_end,Tm.mkS_end]; done)
  |(simp only [Fm.mkS_end,St.mkS_end,Tm.mkS_end]; omega)
  |simp
theorem Df.mkS_end:∀ (xs:List Df) (k:Int),(Df.mkS xs k).2=k+Df.wtS xs
 | [],k=>by simp [Df.mkS,Df.wtS]
 | x :: xs,k=>by
  rw [Df.mkS,Df.wtS]
  have h1:=Df.mk1_end x k
  have h2:=Df.mkS_end xs (x.mk1 k).2
  dsimp only
  omega
theorem Df.wt_bulk (x:Df):x.wt≤5*(1+x.bulk):=by
 rw [Df.wt_eq,Df.bulk_eq]
 have h0:=St.wtS_bulk x.vars
 have h1:=Tm.wtS_bulk x.form.atom.args
 have h2:=Fm.wtS_bulk x.form.parts
 have q2:=Fm.bulk_eq x.form
 have q2_1:=Tm.bulk_eq x.form.atom
 omega
theorem Df.wtS_bulk:∀ xs:List Df,Df.wtS xs≤5*(xs.length+Df.sumB xs)
 | []=>by simp [Df.wtS]
 | x :: xs=>by
  have h1:=Df.wt_bulk x
  have h2:=Df.wtS_bulk xs
  rw [Df.wtS,Df.sumB]; simp only [zL]; omega
theorem Df.length_wt:∀ xs:List Df,xs.length≤Df.wtS xs
 | []=>zY _
 | x :: xs=>by
  have:=Df.length_wt xs
  have:=Df.wt_eq x
  rw [Df.wtS]; simp only [zL]; omega
def D5:SC:=(.seq (.reg [⟨some 4,none,.mv (.c (.int .i64 0))⟩]) (.seq (.seq (.reg [⟨some 5,none,.mv (.c (.int .i64 0))⟩]) (.block 0 (.loop [1,1,0,0,0,1,0,0,0,0,0,0,0,0,0,0,0,0,0,0,0,0,0,0,0,0,0,0,0,0,0,0,0,0,0,0,0,0,0,0,0,0,0,0,0,0,0,0,0,0,0,0,0,0,0,0,0,0,0,0,0,0,0,0,0,0,0,0,0,0,0,0] (.seq (.seq (.reg [⟨some 6,none,.mv (.t 5)⟩,⟨some 7,none,.mv (.t 0)⟩,⟨some 8,none,.len false (.t 7)⟩,⟨some 9,none,.bin .lss false (.t 6) (.t 8)⟩]) (.cond (.t 9) .skip (.exit 0))) (.seq (.block 1 (.seq (.reg [⟨some 12,none,.mv (.t 0)⟩,⟨some 13,none,.mv (.t 5)⟩,⟨some 14,none,.mv (.t 1)⟩,⟨some 15,none,.call 49 [(.t 14)]⟩,⟨some 16,none,.iaddr 7 (.t 12) (.t 13)⟩,⟨some 17,none,.faddr 0 (.t 16)⟩,⟨none,none,(.store 1 (.t 17) (.t 15))⟩]) (.seq (.reg [⟨some 18,none,.mv (.t 1)⟩,⟨some 19,none,.bin .add false (.t 18) (.c (.int .i64 1))⟩,⟨some 1,none,.mv (.t 19)⟩]) (.seq (.reg [⟨some 20,none,.mv (.t 0)⟩,⟨some 21,none,.mv (.t 5)⟩,⟨some 22,none,.iaddr 7 (.t 20) (.t 21)⟩,⟨some 23,none,.faddr 1 (.t 22)⟩,⟨some 24,none,.load false 1 (.t 23)⟩,⟨some 25,none,.mv (.t 1)⟩,⟨some 26,none,.call 50 [(.t 24),(.t 25)]⟩,⟨some 1,none,.mv (.t 26)⟩]) (.seq (.reg [⟨some 27,none,.mv (.t 0)⟩,⟨some 28,none,.mv (.t 5)⟩,⟨some 29,none,.mv (.t 1)⟩,⟨some 30,none,.iaddr 7 (.t 27) (.t 28)⟩,⟨some 31,none,.faddr 2 (.t 30)⟩,⟨some 32,none,.faddr 0 (.t 31)⟩,⟨none,none,(.store 1 (.t 32) (.t 29))⟩]) (.seq (.reg [⟨some 33,none,.mv (.t 1)⟩,⟨some 34,none,.bin .add false (.t 33) (.c (.int .i64 1))⟩,⟨some 1,none,.mv (.t 34)⟩]) (.seq (.reg [⟨some 35,none,.mv (.t 0)⟩,⟨some 36,none,.mv (.t 5)⟩,⟨some 37,none,.mv (.t 1)⟩,⟨some 38,none,.call 49 [(.t 37)]⟩,⟨some 39,none,.iaddr 7 (.t 35) (.t 36)⟩,⟨some 40,none,.faddr 2 (.t 39)⟩,⟨some 41,none,.faddr 1 (.t 40)⟩,⟨some 42,none,.faddr 0 (.t 41)⟩,⟨none,none,(.store 1 (.t 42) (.t 38))⟩]) (.seq (.reg [⟨some 43,none,.mv (.t 1)⟩,⟨some 44,none,.bin .add false (.t 43) (.c (.int .i64 1))⟩,⟨some 1,none,.mv (.t 44)⟩]) (.seq (.reg [⟨some 45,none,.mv (.t 0)⟩,⟨some 46,none,.mv (.t 5)⟩,⟨some 47,none,.iaddr 7 (.t 45) (.t 46)⟩,⟨some 48,none,.faddr 2 (.t 47)⟩,⟨some 49,none,.faddr 1 (.t 48)⟩,⟨some 50,none,.faddr 1 (.t 49)⟩,⟨some 51,none,.load false 1 (.t 50)⟩,⟨some 52,none,.mv (.t 1)⟩,⟨some 53,none,.call 51 [(.t 51),(.t 52)]⟩,⟨some 1,none,.mv (.t 53)⟩]) (.seq (.reg [⟨some 54,none,.mv (.t 0)⟩,⟨some 55,none,.mv (.t 5)⟩,⟨some 56,none,.mv (.t 1)⟩,⟨some 57,none,.call 49 [(.t 56)]⟩,⟨some 58,none,.iaddr 7 (.t 54) (.t 55)⟩,⟨some 59,none,.faddr 2 (.t 58)⟩,⟨some 60,none,.faddr 3 (.t 59)⟩,⟨none,none,(.store 1 (.t 60) (.t 57))⟩]) (.seq (.reg [⟨some 61,none,.mv (.t 1)⟩,⟨some 62,none,.bin .add false (.t 61) (.c (.int .i64 1))⟩,⟨some 1,none,.mv (.t 62)⟩]) (.reg [⟨some 63,none,.mv (.t 0)⟩,⟨some 64,none,.mv (.t 5)⟩,⟨some 65,none,.iaddr 7 (.t 63) (.t 64)⟩,⟨some 66,none,.faddr 2 (.t 65)⟩,⟨some 67,none,.faddr 4 (.t 66)⟩,⟨some 68,none,.load false 1 (.t 67)⟩,⟨some 69,none,.mv (.t 1)⟩,⟨some 70,none,.call 48 [(.t 68),(.t 69)]⟩,⟨some 1,none,.mv (.t 70)⟩])))))))))))) (.reg [⟨some 10,none,.mv (.t 5)⟩,⟨some 11,none,.bin .add false (.t 10) (.c (.int .i64 1))⟩,⟨some 5,none,.mv (.t 11)⟩])))))) (.seq (.reg [⟨some 71,none,.mv (.t 1)⟩,⟨some 4,none,.mv (.t 71)⟩]) .ret)))
theorem Hj:Ao Tryz.prog 14=some ⟨72,D5,[(.tmp 4)]⟩:=by kernel_rfl
theorem Bx:modes 14=⟨[true],.asis,none,true⟩:=by unfold modes; rfl
abbrev FE (xs:List Df):Prop:=∀ (k:Int) (ob:List Ob),1≤k→k+Df.wtS xs≤1099511627776→toTree ob=[.tree (xs.map Df.o) []]→E 14 [.ref 0,.int .i64 k] ob=some (.int .i64 (Df.mkS xs k).2,[.tree ((Df.mkS xs k).1.map Df.o) []])
theorem Ia (xs:List Df):FE xs:=by
 intro k0 ob h1 h2 hob
 have hlen:ob.length=1:=by rw [←DI,hob]; rfl
 have hL:=Df.length_wt xs
 refine Ak Hj Bx (of_decide_eq_true rfl) ?_
 simp (disch:=omega) only [D5,go_sem,Ab,hob,hlen]
 refine go_loop (α:=Int × (Int) × (List Df)) (fun a=>⟨slots 72 0 [(0,.ref 0),(1,.int .i64 (a.2.1)),(5,.int .i64 (a.1))],[.tree (((a.2.2)++xs.drop (a.1).toNat).map Df.o) []]⟩) (fun a=>∃ k:Nat,a.1=k∧k≤(xs).length∧(a.2.2).length=k∧1≤(a.2.1)∧(a.2.1)+Df.wtS (xs.drop k)=k0+Df.wtS xs∧Df.mkS xs k0=((a.2.2)++(Df.mkS (xs.drop k) (a.2.1)).1,(Df.mkS (xs.drop k) (a.2.1)).2)) (fun a=>(xs).length-(a.1).toNat) (0,k0,[]) ⟨0,rfl,zI _,rfl,h1,by rw [zH],by simp⟩ (by simp (disch:=omega) only [go_sem,Ab,zP]) ?_
 rintro ⟨i,kk,dn⟩ ⟨k,hi,hk,hR⟩
 dsimp only at hi hR
 have hni:i.toNat=k:=by omega
 have hni1:(i+1).toNat=k+1:=by omega
 rcases zE k (xs).length with hlt | hge
 ·obtain ⟨hd,hk1,hkn,hm⟩:=hR
  have hdr:xs.drop k=xs[k] :: xs.drop (k+1):=zB hlt
  have hel:(dn++xs.drop k).length=xs.length:=by simp; omega
  have hg:(yP Df.o (dn++xs.drop k))[k]?=some [.str xs[k].name,.ow (xs[k].vars.map fun s=>[OT.str s]),.int xs[k].form.op,.str xs[k].form.atom.name,.ow (xs[k].form.atom.args.map Tm.o),.str xs[k].form.var,.ow (xs[k].form.parts.map Fm.o)]:=by
   rw [←Df.o_eq,hdr,z5,zR (by omega),hd,yF]; rfl
  rw [hdr,Df.wtS] at hkn
  rw [hdr,Df.mkS] at hm
  have hn1:=Df.wt_eq xs[k]
  have e1:=St.mkS_end xs[k].vars ((kk+1))
  have e4:=Tm.mkS_end xs[k].form.atom.args (((St.mkS xs[k].vars (kk+1)).2+1+1))
  have e6:=Fm.mkS_end xs[k].form.parts (((Tm.mkS xs[k].form.atom.args ((St.mkS xs[k].vars (kk+1)).2+1+1)).2+1))
  have t0:=Cf (k:=kk) (by omega) (by omega)
  have c58:=Oc xs[k].vars ((kk+1)) [.tree (xs[k].vars.map (fun s=>[OT.str s])) []] (by omega) (by omega) rfl
  have t186:=Cf (k:=((St.mkS xs[k].vars (kk+1)).2+1)) (by omega) (by omega)
  have c280:=HY xs[k].form.atom.args (((St.mkS xs[k].vars (kk+1)).2+1+1)) [.tree (xs[k].form.atom.args.map Tm.o) []] (by omega) (by omega) rfl
  have t442:=Cf (k:=(Tm.mkS xs[k].form.atom.args ((St.mkS xs[k].vars (kk+1)).2+1+1)).2) (by omega) (by omega)
  have c572:=HZ xs[k].form.parts (((Tm.mkS xs[k].form.atom.args ((St.mkS xs[k].vars (kk+1)).2+1+1)).2+1)) [.tree (xs[k].form.parts.map Fm.o) []] (by omega) (by omega) rfl
  have hs:=F5 Df.o dn (xs.drop (k+1)) xs[k] (xs[k].mk1 kk).1 hd
  rw [Df.mk1_o,← hdr] at hs
  have hgs:∀ a,((yP Df.o (dn++xs.drop k)).set k a)[k]?=some a:=fun a=>zZ (by rw [zJ,hel]; exact hlt)
  have he:=Df.mk1_end xs[k] kk
  have three:∀ z:Int,dec ((3:Int)=0)=false:=fun _=>An (by omega)
  simp (disch:=omega) only [go_sem,Ab,hni,hel,hg,t0,c58,Ff,t186,c280,Cp,t442,c572,Cm,BX,hgs,yM,yT,hs,three 0]
  refine ⟨(i+1,(xs[k].mk1 kk).2,dn++[(xs[k].mk1 kk).1]),⟨k+1,by dsimp only; omega,hlt,by dsimp only; simp [hd],by dsimp only; omega,by dsimp only; omega,by rw [hm]; simp⟩,by dsimp only; omega,?_⟩
  dsimp only
  rw [hni1,Df.mk1_eq]
  refine ⟨⟨?_,rfl⟩,rfl⟩
  first | rfl | omega
 ·obtain ⟨hd,hk1,hkn,hm⟩:=hR
  have hdr:xs.drop k=[]:=zF hge
  rw [hdr,Df.mkS] at hm
  rw [hm]
  simp (disch:=omega) only [go_sem,Ab,hni,hdr,yB]
theorem Km (xs:List Df):FE xs:=Ia xs
def GC:SC:=(.seq (.reg [⟨some 4,none,.mv (.c (.int .i64 0))⟩]) (.seq (.seq (.reg [⟨some 5,none,.mv (.c (.int .i64 0))⟩]) (.block 0 (.loop [1,1,0,0,0,1,0,0,0,0,0,0,0,0,0,0,0,0,0,0,0,0,0,0,0,0,0,0,0,0,0,0] (.seq (.seq (.reg [⟨some 6,none,.mv (.t 5)⟩,⟨some 7,none,.mv (.t 0)⟩,⟨some 8,none,.len false (.t 7)⟩,⟨some 9,none,.bin .lss false (.t 6) (.t 8)⟩]) (.cond (.t 9) .skip (.exit 0))) (.seq (.block 1 (.seq (.seq (.dreg [[],[],[0,1],[2,0,1],[3,2,0,1],[],[5],[4,3,2,0,1,6,5]] [⟨some 12,none,.mv (.t 0)⟩,⟨some 13,none,.mv (.t 5)⟩,⟨some 14,none,.iaddr 2 (.t 12) (.t 13)⟩,⟨some 15,none,.faddr 0 (.t 14)⟩,⟨some 16,none,.load false 1 (.t 15)⟩,⟨some 17,none,.mv (.t 1)⟩,⟨some 18,none,.call 49 [(.t 17)]⟩,⟨some 19,none,.bin .neq false (.t 16) (.t 18)⟩]) (.cond (.t 19) (.seq (.reg [⟨some 4,none,.mv (.c (.int .i64 (-(0+1))))⟩]) .ret) .skip)) (.seq (.reg [⟨some 20,none,.mv (.t 1)⟩,⟨some 21,none,.bin .add false (.t 20) (.c (.int .i64 1))⟩,⟨some 1,none,.mv (.t 21)⟩]) (.seq (.reg [⟨some 22,none,.mv (.t 0)⟩,⟨some 23,none,.mv (.t 5)⟩,⟨some 24,none,.iaddr 2 (.t 22) (.t 23)⟩,⟨some 25,none,.faddr 1 (.t 24)⟩,⟨some 26,none,.load false 1 (.t 25)⟩,⟨some 27,none,.mv (.t 1)⟩,⟨some 28,none,.call 102 [(.t 26),(.t 27)]⟩,⟨some 1,none,.mv (.t 28)⟩]) (.seq (.reg [⟨some 29,none,.mv (.t 1)⟩,⟨some 30,none,.bin .lss false (.t 29) (.c (.int .i64 0))⟩]) (.cond (.t 30) (.seq (.reg [⟨some 4,none,.mv (.c (.int .i64 (-(0+1))))⟩]) .ret) .skip)))))) (.reg [⟨some 10,none,.mv (.t 5)⟩,⟨some 11,none,.bin .add false (.t 10) (.c (.int .i64 1))⟩,⟨some 5,none,.mv (.t 11)⟩])))))) (.seq (.reg [⟨some 31,none,.mv (.t 1)⟩,⟨some 4,none,.mv (.t 31)⟩]) .ret)))
theorem Lf:Ao Tryz.prog 102=some ⟨32,GC,[(.tmp 4)]⟩:=by kernel_rfl
theorem CO:modes 102=⟨[],.asis,none,false⟩:=by unfold modes; rfl
theorem Tm.mkS_len:∀ (xs:List Tm) (k:Int),(Tm.mkS xs k).1.length=xs.length
 | [],k=>by rw [Tm.mkS]
 | x :: xs,k=>by rw [Tm.mkS]; simp only [zL]; rw [Tm.mkS_len xs]
abbrev FF (xs:List Tm):Prop:=∀ k:Int,1≤k→k+Tm.wtS xs≤1099511627776→E 102 [.arr ((Tm.mkS xs k).1.map Tm.d),.int .i64 k] []=some (.int .i64 (Tm.mkS xs k).2,[])
theorem Ib (xs:List Tm) (ih:∀ x∈xs,FF x.args):FF xs:=by
 intro k0 h1 h2
 obtain ⟨ys,hys⟩:∃ ys,ys=(Tm.mkS xs k0).1:=⟨_,rfl⟩
 have hyl:ys.length=xs.length:=by rw [hys,Tm.mkS_len]
 rw [←hys]
 have hL:=Tm.length_wt xs
 refine Ak Lf CO (of_decide_eq_true rfl) ?_
 simp (disch:=omega) only [GC,go_sem,Ab]
 refine go_loop (α:=Int × (Int)) (fun a=>⟨slots 32 0 [(0,.arr (ys.map Tm.d)),(1,.int .i64 (a.2)),(5,.int .i64 (a.1))],[]⟩) (fun a=>∃ k:Nat,a.1=k∧k≤(ys).length∧1≤(a.2)∧(a.2)+Tm.wtS (xs.drop k)=k0+Tm.wtS xs∧ys.drop k=(Tm.mkS (xs.drop k) (a.2)).1∧(Tm.mkS xs k0).2=(Tm.mkS (xs.drop k) (a.2)).2) (fun a=>(ys).length-(a.1).toNat) (0,k0) ⟨0,rfl,zI _,h1,by rw [zH],by rw [zH,zH,hys],by rw [zH]⟩ (by simp (disch:=omega) only [go_sem,Ab]) ?_
 rintro ⟨i,kk⟩ ⟨k,hi,hk,hR⟩
 dsimp only at hi hR
 have hni:i.toNat=k:=by omega
 have hni1:(i+1).toNat=k+1:=by omega
 rcases zE k (ys).length with hlt | hge
 ·obtain ⟨hk1,hkn,hy,hm⟩:=hR
  have hlx:k<xs.length:=by omega
  have hdr:xs.drop k=xs[k] :: xs.drop (k+1):=zB hlx
  have hdy:=zB hlt
  rw [hdr,Tm.wtS] at hkn
  rw [hdr,Tm.mkS] at hm
  rw [hdr,Tm.mkS,hdy] at hy
  dsimp only at hy hm
  obtain ⟨hy1,hy2⟩:=z9 hy
  have hg:=get_at Tm.d hlt
  rw [hy1,Tm.mk1_d] at hg
  have hn1:=Tm.wt_eq xs[k]
  have e1:=Tm.mkS_end xs[k].args ((kk+1))
  have t0:=Cf (k:=kk) (by omega) (by omega)
  have c58:=ih xs[k] (zD hlx) ((kk+1)) (by omega) (by omega)
  have he:=Tm.mk1_end xs[k] kk
  simp (disch:=omega) only [go_sem,Ab,hni,hg,BX,Da,t0,c58,CO]
  refine ⟨(i+1,(xs[k].mk1 kk).2),⟨k+1,by dsimp only; omega,hlt,by dsimp only; omega,by dsimp only; omega,hy2,hm⟩,by dsimp only; omega,?_⟩
  dsimp only
  rw [Tm.mk1_eq]
  simp only [and_self,and_true,true_and]
  try omega
 ·obtain ⟨hk1,hkn,hy,hm⟩:=hR
  have hdr:xs.drop k=[]:=zF (by omega)
  rw [hdr,Tm.mkS] at hm
  rw [hm]
  simp (disch:=omega) only [go_sem,Ab,hni]
theorem Kn (x:Tm):FF x.args:=Ib x.args fun y hy=>Kn y
termination_by SizeOf.sizeOf x
decreasing_by exact Tm.lt_of_mem hy
theorem LI (xs:List Tm):FF xs:=Ib xs fun y _=>Kn y
def Ep:SC:=(.seq (.reg [⟨some 4,none,.mv (.c (.int .i64 0))⟩]) (.seq (.seq (.reg [⟨some 5,none,.mv (.c (.int .i64 0))⟩]) (.block 0 (.loop [1,1,0,0,0,1,0,0,0,0,0,0,0,0,0,0,0,0,0,0,0,0,0,0,0,0,0,0,0,0,0,0,0,0,0,0,0,0,0,0,0,0,0,0,0,0,0,0,0,0,0,0,0,0,0,0,0,0,0,0,0,0] (.seq (.seq (.reg [⟨some 6,none,.mv (.t 5)⟩,⟨some 7,none,.mv (.t 0)⟩,⟨some 8,none,.len false (.t 7)⟩,⟨some 9,none,.bin .lss false (.t 6) (.t 8)⟩]) (.cond (.t 9) .skip (.exit 0))) (.seq (.block 1 (.seq (.seq (.reg [⟨some 12,none,.mv (.t 0)⟩,⟨some 13,none,.mv (.t 5)⟩,⟨some 14,none,.iaddr 5 (.t 12) (.t 13)⟩,⟨some 15,none,.faddr 0 (.t 14)⟩,⟨some 16,none,.load false 1 (.t 15)⟩,⟨some 17,none,.mv (.t 1)⟩,⟨some 18,none,.bin .neq false (.t 16) (.t 17)⟩]) (.cond (.t 18) (.seq (.reg [⟨some 4,none,.mv (.c (.int .i64 (-(0+1))))⟩]) .ret) .skip)) (.seq (.reg [⟨some 19,none,.mv (.t 1)⟩,⟨some 20,none,.bin .add false (.t 19) (.c (.int .i64 1))⟩,⟨some 1,none,.mv (.t 20)⟩]) (.seq (.seq (.dreg [[],[],[0,1],[2,0,1],[3,2,0,1],[4,3,2,0,1],[],[6],[5,4,3,2,0,1,7,6]] [⟨some 21,none,.mv (.t 0)⟩,⟨some 22,none,.mv (.t 5)⟩,⟨some 23,none,.iaddr 5 (.t 21) (.t 22)⟩,⟨some 24,none,.faddr 1 (.t 23)⟩,⟨some 25,none,.faddr 0 (.t 24)⟩,⟨some 26,none,.load false 1 (.t 25)⟩,⟨some 27,none,.mv (.t 1)⟩,⟨some 28,none,.call 49 [(.t 27)]⟩,⟨some 29,none,.bin .neq false (.t 26) (.t 28)⟩]) (.cond (.t 29) (.seq (.reg [⟨some 4,none,.mv (.c (.int .i64 (-(0+1))))⟩]) .ret) .skip)) (.seq (.reg [⟨some 30,none,.mv (.t 1)⟩,⟨some 31,none,.bin .add false (.t 30) (.c (.int .i64 1))⟩,⟨some 1,none,.mv (.t 31)⟩]) (.seq (.reg [⟨some 32,none,.mv (.t 0)⟩,⟨some 33,none,.mv (.t 5)⟩,⟨some 34,none,.iaddr 5 (.t 32) (.t 33)⟩,⟨some 35,none,.faddr 1 (.t 34)⟩,⟨some 36,none,.faddr 1 (.t 35)⟩,⟨some 37,none,.load false 1 (.t 36)⟩,⟨some 38,none,.mv (.t 1)⟩,⟨some 39,none,.call 102 [(.t 37),(.t 38)]⟩,⟨some 1,none,.mv (.t 39)⟩]) (.seq (.seq (.reg [⟨some 40,none,.mv (.t 1)⟩,⟨some 41,none,.bin .lss false (.t 40) (.c (.int .i64 0))⟩]) (.cond (.t 41) (.seq (.reg [⟨some 4,none,.mv (.c (.int .i64 (-(0+1))))⟩]) .ret) .skip)) (.seq (.seq (.dreg [[],[],[0,1],[2,0,1],[3,2,0,1],[],[5],[4,3,2,0,1,6,5]] [⟨some 42,none,.mv (.t 0)⟩,⟨some 43,none,.mv (.t 5)⟩,⟨some 44,none,.iaddr 5 (.t 42) (.t 43)⟩,⟨some 45,none,.faddr 3 (.t 44)⟩,⟨some 46,none,.load false 1 (.t 45)⟩,⟨some 47,none,.mv (.t 1)⟩,⟨some 48,none,.call 49 [(.t 47)]⟩,⟨some 49,none,.bin .neq false (.t 46) (.t 48)⟩]) (.cond (.t 49) (.seq (.reg [⟨some 4,none,.mv (.c (.int .i64 (-(0+1))))⟩]) .ret) .skip)) (.seq (.reg [⟨some 50,none,.mv (.t 1)⟩,⟨some 51,none,.bin .add false (.t 50) (.c (.int .i64 1))⟩,⟨some 1,none,.mv (.t 51)⟩]) (.seq (.reg [⟨some 52,none,.mv (.t 0)⟩,⟨some 53,none,.mv (.t 5)⟩,⟨some 54,none,.iaddr 5 (.t 52) (.t 53)⟩,⟨some 55,none,.faddr 4 (.t 54)⟩,⟨some 56,none,.load false 1 (.t 55)⟩,⟨some 57,none,.mv (.t 1)⟩,⟨some 58,none,.call 53 [(.t 56),(.t 57)]⟩,⟨some 1,none,.mv (.t 58)⟩]) (.seq (.reg [⟨some 59,none,.mv (.t 1)⟩,⟨some 60,none,.bin .lss false (.t 59) (.c (.int .i64 0))⟩]) (.cond (.t 60) (.seq (.reg [⟨some 4,none,.mv (.c (.int .i64 (-(0+1))))⟩]) .ret) .skip)))))))))))) (.reg [⟨some 10,none,.mv (.t 5)⟩,⟨some 11,none,.bin .add false (.t 10) (.c (.int .i64 1))⟩,⟨some 5,none,.mv (.t 11)⟩])))))) (.seq (.reg [⟨some 61,none,.mv (.t 1)⟩,⟨some 4,none,.mv (.t 61)⟩]) .ret)))
theorem IN:Ao Tryz.prog 53=some ⟨62,Ep,[(.tmp 4)]⟩:=by kernel_rfl
theorem CU:modes 53=⟨[],.asis,none,false⟩:=by unfold modes; rfl
theorem Fm.mkS_len:∀ (xs:List Fm) (k:Int),(Fm.mkS xs k).1.length=xs.length
 | [],k=>by rw [Fm.mkS]
 | x :: xs,k=>by rw [Fm.mkS]; simp only [zL]; rw [Fm.mkS_len xs]
abbrev D6 (xs:List Fm):Prop:=∀ k:Int,1≤k→k+Fm.wtS xs≤1099511627776→E 53 [.arr ((Fm.mkS xs k).1.map Fm.d),.int .i64 k] []=some (.int .i64 (Fm.mkS xs k).2,[])
theorem FG (xs:List Fm) (ih:∀ x∈xs,D6 x.parts):D6 xs:=by
 intro k0 h1 h2
 obtain ⟨ys,hys⟩:∃ ys,ys=(Fm.mkS xs k0).1:=⟨_,rfl⟩
 have hyl:ys.length=xs.length:=by rw [hys,Fm.mkS_len]
 rw [←hys]
 have hL:=Fm.length_wt xs
 refine Ak IN CU (of_decide_eq_true rfl) ?_
 simp (disch:=omega) only [Ep,go_sem,Ab]
 refine go_loop (α:=Int × (Int)) (fun a=>⟨slots 62 0 [(0,.arr (ys.map Fm.d)),(1,.int .i64 (a.2)),(5,.int .i64 (a.1))],[]⟩) (fun a=>∃ k:Nat,a.1=k∧k≤(ys).length∧1≤(a.2)∧(a.2)+Fm.wtS (xs.drop k)=k0+Fm.wtS xs∧ys.drop k=(Fm.mkS (xs.drop k) (a.2)).1∧(Fm.mkS xs k0).2=(Fm.mkS (xs.drop k) (a.2)).2) (fun a=>(ys).length-(a.1).toNat) (0,k0) ⟨0,rfl,zI _,h1,by rw [zH],by rw [zH,zH,hys],by rw [zH]⟩ (by simp (disch:=omega) only [go_sem,Ab]) ?_
 rintro ⟨i,kk⟩ ⟨k,hi,hk,hR⟩
 dsimp only at hi hR
 have hni:i.toNat=k:=by omega
 have hni1:(i+1).toNat=k+1:=by omega
 rcases zE k (ys).length with hlt | hge
 ·obtain ⟨hk1,hkn,hy,hm⟩:=hR
  have hlx:k<xs.length:=by omega
  have hdr:xs.drop k=xs[k] :: xs.drop (k+1):=zB hlx
  have hdy:=zB hlt
  rw [hdr,Fm.wtS] at hkn
  rw [hdr,Fm.mkS] at hm
  rw [hdr,Fm.mkS,hdy] at hy
  dsimp only at hy hm
  obtain ⟨hy1,hy2⟩:=z9 hy
  have hg:=get_at Fm.d hlt
  rw [hy1,Fm.mk1_d] at hg
  have hn1:=Fm.wt_eq xs[k]
  have e2:=Tm.mkS_end xs[k].atom.args ((kk+1+1))
  have e4:=Fm.mkS_end xs[k].parts (((Tm.mkS xs[k].atom.args (kk+1+1)).2+1))
  have t0:=Cf (k:=(kk+1)) (by omega) (by omega)
  have c64:=LI xs[k].atom.args ((kk+1+1)) (by omega) (by omega)
  have t145:=Cf (k:=(Tm.mkS xs[k].atom.args (kk+1+1)).2) (by omega) (by omega)
  have c242:=ih xs[k] (zD hlx) (((Tm.mkS xs[k].atom.args (kk+1+1)).2+1)) (by omega) (by omega)
  have he:=Fm.mk1_end xs[k] kk
  simp (disch:=omega) only [go_sem,Ab,hni,hg,BX,Da,t0,c64,CO,t145,c242,CU]
  refine ⟨(i+1,(xs[k].mk1 kk).2),⟨k+1,by dsimp only; omega,hlt,by dsimp only; omega,by dsimp only; omega,hy2,hm⟩,by dsimp only; omega,?_⟩
  dsimp only
  rw [Fm.mk1_eq]
  simp only [and_self,and_true,true_and]
  try omega
 ·obtain ⟨hk1,hkn,hy,hm⟩:=hR
  have hdr:xs.drop k=[]:=zF (by omega)
  rw [hdr,Fm.mkS] at hm
  rw [hm]
  simp (disch:=omega) only [go_sem,Ab,hni]
theorem Hu (x:Fm):D6 x.parts:=FG x.parts fun y hy=>Hu y
termination_by SizeOf.sizeOf x
decreasing_by exact Fm.lt_of_mem hy
theorem Nv (xs:List Fm):D6 xs:=FG xs fun y _=>Hu y
theorem PH {o:Ob} {es:List (List OT)} (h:toTree [o]=[.tree es []]):(∃ a b,o=.row a b es)∨o=.tree es []:=by
 cases o with
 | row a b e=>obtain ⟨h1,h2⟩:=z9 h; cases h1; exact .inl ⟨a,b,rfl⟩
 | tree e hs=>obtain ⟨h1,h2⟩:=z9 h; cases h1; exact .inr rfl
 | _=>simp [toTree] at h
noncomputable def Tm.mkr (x:Tm) (k:Int):Tm × Int:=((Tm.mk (x.name) ((Tm.mkS x.args k).1)),(Tm.mkS x.args k).2)
def Hv:SC:=(.seq (.reg [⟨some 2,none,.boxv 33 2 (.t 0)⟩,⟨some 4,none,.mv (.c (.int .i64 0))⟩]) (.seq (.reg [⟨some 5,none,.faddr 1 (.t 2)⟩,⟨some 6,none,.load false 1 (.t 5)⟩,⟨some 7,none,.mv (.t 1)⟩,⟨some 8,none,.call 51 [(.t 6),(.t 7)]⟩,⟨some 1,none,.mv (.t 8)⟩]) (.seq (.reg [⟨some 9,none,.mv (.t 1)⟩,⟨some 4,none,.mv (.t 9)⟩]) .ret)))
theorem LT:Ao Tryz.prog 47=some ⟨10,Hv,[(.tmp 4)]⟩:=by kernel_rfl
theorem Hw:modes 47=⟨[true],.asis,none,false⟩:=by unfold modes; rfl
theorem Sd (x:Tm) (k:Int) (o0:Ob) (h1:1≤k) (h2:k+(Tm.wtS x.args:Nat)≤1099511627776) (t0:toTree [o0]=[.tree (x.args.map Tm.o) []]):E 47 [.agg [.str x.name,.ref 0],.int .i64 k] [o0]=some (.int .i64 (x.mkr k).2,[.tree ((Tm.mkS x.args k).1.map Tm.o) []]):=by
 have e0:=Tm.mkS_end x.args k
 rw [Tm.mkr]
 dsimp only
 have c0:=HY x.args k [o0] (by omega) (by omega) t0
 rcases PH t0 with ⟨a0,b0,rfl⟩ | rfl <;>
  (
  refine Ak LT Hw (of_decide_eq_true rfl) ?_
  simp (disch:=omega) only [Hv,go_sem,Ab,c0,Cp])
def Hx:SC:=(.seq (.reg [⟨some 2,none,.boxv 33 2 (.t 0)⟩,⟨some 4,none,.mv (.c (.int .i64 0))⟩]) (.seq (.reg [⟨some 5,none,.faddr 1 (.t 2)⟩,⟨some 6,none,.load false 1 (.t 5)⟩,⟨some 7,none,.mv (.t 1)⟩,⟨some 8,none,.call 102 [(.t 6),(.t 7)]⟩,⟨some 1,none,.mv (.t 8)⟩]) (.seq (.seq (.reg [⟨some 9,none,.mv (.t 1)⟩,⟨some 10,none,.bin .lss false (.t 9) (.c (.int .i64 0))⟩]) (.cond (.t 10) (.seq (.reg [⟨some 4,none,.mv (.c (.int .i64 (-(0+1))))⟩]) .ret) .skip)) (.seq (.reg [⟨some 11,none,.mv (.t 1)⟩,⟨some 4,none,.mv (.t 11)⟩]) .ret))))
theorem LU:Ao Tryz.prog 52=some ⟨12,Hx,[(.tmp 4)]⟩:=by kernel_rfl
theorem Hy:modes 52=⟨[],.asis,none,false⟩:=by unfold modes; rfl
theorem Se (x:Tm) (k:Int) (h1:1≤k) (h2:k+(Tm.wtS x.args:Nat)≤1099511627776):E 52 [.agg [.str x.name,.arr ((Tm.mkS x.args k).1.map Tm.d)],.int .i64 k] []=some (.int .i64 (x.mkr k).2,[]):=by
 have e0:=Tm.mkS_end x.args k
 rw [Tm.mkr]
 dsimp only
 have p0:(Tm.mk (x.name) ((Tm.mkS x.args k).1)).name=x.name:=rfl
 have p1:(Tm.mk (x.name) ((Tm.mkS x.args k).1)).args=(Tm.mkS x.args k).1:=rfl
 have c0:=LI x.args k (by omega) (by omega)
 refine Ak LU Hy (of_decide_eq_true rfl) ?_
 simp (disch:=omega) only [Hx,go_sem,Ab,c0,CO,p0,p1]
noncomputable def Fm.mkr (x:Fm) (k:Int):Fm × Int:=((Fm.mk (x.op) (Tm.mk (x.atom.name) ((Tm.mkS x.atom.args k).1)) (x.var) ((Fm.mkS x.parts (Tm.mkS x.atom.args k).2).1)),(Fm.mkS x.parts (Tm.mkS x.atom.args k).2).2)
def Fg:SC:=(.seq (.reg [⟨some 2,none,.boxv 36 5 (.t 0)⟩,⟨some 4,none,.mv (.c (.int .i64 0))⟩]) (.seq (.reg [⟨some 5,none,.faddr 1 (.t 2)⟩,⟨some 6,none,.load true 2 (.t 5)⟩,⟨some 7,none,.mv (.t 1)⟩,⟨some 8,none,.call 47 [(.t 6),(.t 7)]⟩,⟨some 1,none,.mv (.t 8)⟩]) (.seq (.reg [⟨some 9,none,.faddr 4 (.t 2)⟩,⟨some 10,none,.load false 1 (.t 9)⟩,⟨some 11,none,.mv (.t 1)⟩,⟨some 12,none,.call 48 [(.t 10),(.t 11)]⟩,⟨some 1,none,.mv (.t 12)⟩]) (.seq (.reg [⟨some 13,none,.mv (.t 1)⟩,⟨some 4,none,.mv (.t 13)⟩]) .ret))))
theorem JD:Ao Tryz.prog 13=some ⟨14,Fg,[(.tmp 4)]⟩:=by kernel_rfl
theorem BP:modes 13=⟨[true],.asis,none,false⟩:=by unfold modes; rfl
theorem Jj (x:Fm) (k:Int) (o0 o1:Ob) (h1:1≤k) (h2:k+(Tm.wtS x.atom.args+Fm.wtS x.parts:Nat)≤1099511627776) (t0:toTree [o0]=[.tree (x.atom.args.map Tm.o) []]) (t1:toTree [o1]=[.tree (x.parts.map Fm.o) []]):E 13 [.agg [.int .i64 x.op,.str x.atom.name,.ref 0,.str x.var,.ref 1],.int .i64 k] [o0,o1]=some (.int .i64 (x.mkr k).2,[.tree ((Tm.mkS x.atom.args k).1.map Tm.o) [],.tree ((Fm.mkS x.parts (Tm.mkS x.atom.args k).2).1.map Fm.o) []]):=by
 have e0:=Tm.mkS_end x.atom.args k
 have e1:=Fm.mkS_end x.parts (Tm.mkS x.atom.args k).2
 rw [Fm.mkr]
 dsimp only
 have c0:=Sd x.atom k o0 (by omega) (by omega) t0
 rw [Tm.mkr] at c0
 dsimp only at c0
 have c1:=HZ x.parts (Tm.mkS x.atom.args k).2 [o1] (by omega) (by omega) t1
 rcases PH t0 with ⟨a0,b0,rfl⟩ | rfl <;>
 rcases PH t1 with ⟨a1,b1,rfl⟩ | rfl <;>
  (
  refine Ak JD BP (of_decide_eq_true rfl) ?_
  simp (disch:=omega) only [Fg,go_sem,Ab,c0,Hw,c1,Cm])
def Fh:SC:=(.seq (.reg [⟨some 2,none,.boxv 36 5 (.t 0)⟩,⟨some 4,none,.mv (.c (.int .i64 0))⟩]) (.seq (.reg [⟨some 5,none,.faddr 1 (.t 2)⟩,⟨some 6,none,.load true 2 (.t 5)⟩,⟨some 7,none,.mv (.t 1)⟩,⟨some 8,none,.call 52 [(.t 6),(.t 7)]⟩,⟨some 1,none,.mv (.t 8)⟩]) (.seq (.seq (.reg [⟨some 9,none,.mv (.t 1)⟩,⟨some 10,none,.bin .lss false (.t 9) (.c (.int .i64 0))⟩]) (.cond (.t 10) (.seq (.reg [⟨some 4,none,.mv (.c (.int .i64 (-(0+1))))⟩]) .ret) .skip)) (.seq (.reg [⟨some 11,none,.faddr 4 (.t 2)⟩,⟨some 12,none,.load false 1 (.t 11)⟩,⟨some 13,none,.mv (.t 1)⟩,⟨some 14,none,.call 53 [(.t 12),(.t 13)]⟩,⟨some 1,none,.mv (.t 14)⟩]) (.seq (.seq (.reg [⟨some 15,none,.mv (.t 1)⟩,⟨some 16,none,.bin .lss false (.t 15) (.c (.int .i64 0))⟩]) (.cond (.t 16) (.seq (.reg [⟨some 4,none,.mv (.c (.int .i64 (-(0+1))))⟩]) .ret) .skip)) (.seq (.reg [⟨some 17,none,.mv (.t 1)⟩,⟨some 4,none,.mv (.t 17)⟩]) .ret))))))
theorem JE:Ao Tryz.prog 15=some ⟨18,Fh,[(.tmp 4)]⟩:=by kernel_rfl
theorem BQ:modes 15=⟨[],.asis,none,false⟩:=by unfold modes; rfl
theorem Od (x:Fm) (k:Int) (h1:1≤k) (h2:k+(Tm.wtS x.atom.args+Fm.wtS x.parts:Nat)≤1099511627776):E 15 [.agg [.int .i64 x.op,.str x.atom.name,.arr ((Tm.mkS x.atom.args k).1.map Tm.d),.str x.var,.arr ((Fm.mkS x.parts (Tm.mkS x.atom.args k).2).1.map Fm.d)],.int .i64 k] []=some (.int .i64 (x.mkr k).2,[]):=by
 have e0:=Tm.mkS_end x.atom.args k
 have e1:=Fm.mkS_end x.parts (Tm.mkS x.atom.args k).2
 rw [Fm.mkr]
 dsimp only
 have p0:(Fm.mk (x.op) (Tm.mk (x.atom.name) ((Tm.mkS x.atom.args k).1)) (x.var) ((Fm.mkS x.parts (Tm.mkS x.atom.args k).2).1)).op=x.op:=rfl
 have p1:(Fm.mk (x.op) (Tm.mk (x.atom.name) ((Tm.mkS x.atom.args k).1)) (x.var) ((Fm.mkS x.parts (Tm.mkS x.atom.args k).2).1)).atom=(Tm.mk (x.atom.name) ((Tm.mkS x.atom.args k).1)):=rfl
 have p2:(Tm.mk (x.atom.name) ((Tm.mkS x.atom.args k).1)).name=x.atom.name:=rfl
 have p3:(Tm.mk (x.atom.name) ((Tm.mkS x.atom.args k).1)).args=(Tm.mkS x.atom.args k).1:=rfl
 have p4:(Fm.mk (x.op) (Tm.mk (x.atom.name) ((Tm.mkS x.atom.args k).1)) (x.var) ((Fm.mkS x.parts (Tm.mkS x.atom.args k).2).1)).var=x.var:=rfl
 have p5:(Fm.mk (x.op) (Tm.mk (x.atom.name) ((Tm.mkS x.atom.args k).1)) (x.var) ((Fm.mkS x.parts (Tm.mkS x.atom.args k).2).1)).parts=(Fm.mkS x.parts (Tm.mkS x.atom.args k).2).1:=rfl
 have c0:=Se x.atom k (by omega) (by omega)
 rw [Tm.mkr] at c0
 dsimp only at c0
 have c1:=Nv x.parts (Tm.mkS x.atom.args k).2 (by omega) (by omega)
 refine Ak JE BQ (of_decide_eq_true rfl) ?_
 simp (disch:=omega) only [Fh,go_sem,Ab,c0,Hy,c1,CU,p0,p1,p2,p3,p4,p5]
def GD:SC:=(.seq (.reg [⟨some 4,none,.mv (.c (.int .i64 0))⟩]) (.seq (.reg [⟨some 6,none,.mv (.t 1)⟩,⟨some 7,none,.mv (.t 0)⟩,⟨some 8,none,.len false (.t 7)⟩,⟨some 9,none,.bin .sub false (.t 6) (.t 8)⟩,⟨some 1,none,.mv (.t 9)⟩]) (.seq (.seq (.reg [⟨some 10,none,.mv (.t 1)⟩,⟨some 11,none,.bin .lss false (.t 10) (.c (.int .i64 0))⟩]) (.cond (.t 11) (.seq (.reg [⟨some 4,none,.mv (.c (.int .i64 (-(0+1))))⟩]) .ret) .skip)) (.seq (.seq (.reg [⟨some 5,none,.mv (.c (.int .i64 0))⟩]) (.block 0 (.loop [1,1,0,0,0,1,0,0,0,0,0,0,0,0,0,0,0,0,0,0,0,0,0,0,0,0,0,0] (.seq (.seq (.reg [⟨some 12,none,.mv (.t 5)⟩,⟨some 13,none,.mv (.t 0)⟩,⟨some 14,none,.len false (.t 13)⟩,⟨some 15,none,.bin .lss false (.t 12) (.t 14)⟩]) (.cond (.t 15) .skip (.exit 0))) (.seq (.block 1 (.seq (.reg [⟨some 18,none,.mv (.t 1)⟩,⟨some 19,none,.mv (.t 0)⟩,⟨some 20,none,.mv (.t 5)⟩,⟨some 21,none,.iaddr 1 (.t 19) (.t 20)⟩,⟨some 22,none,.load false 1 (.t 21)⟩,⟨some 23,none,.len true (.t 22)⟩,⟨some 24,none,.bin .sub false (.t 18) (.t 23)⟩,⟨some 1,none,.mv (.t 24)⟩]) (.seq (.reg [⟨some 25,none,.mv (.t 1)⟩,⟨some 26,none,.bin .lss false (.t 25) (.c (.int .i64 0))⟩]) (.cond (.t 26) (.seq (.reg [⟨some 4,none,.mv (.c (.int .i64 (-(0+1))))⟩]) .ret) .skip)))) (.reg [⟨some 16,none,.mv (.t 5)⟩,⟨some 17,none,.bin .add false (.t 16) (.c (.int .i64 1))⟩,⟨some 5,none,.mv (.t 17)⟩])))))) (.seq (.reg [⟨some 27,none,.mv (.t 1)⟩,⟨some 4,none,.mv (.t 27)⟩]) .ret)))))
theorem Lg:Ao Tryz.prog 77=some ⟨28,GD,[(.tmp 4)]⟩:=by kernel_rfl
theorem DQ:modes 77=⟨[],.asis,none,false⟩:=by unfold modes; rfl
abbrev LJ (xs:List ByteArray):Prop:=D.fit (.arr (xs.map (fun s=>[D.str s])))→∀ left:Int,0≤left→left≤1048576→E 77 [.arr (xs.map (fun s=>[D.str s])),.int .i64 left] []=some (.int .i64 (szR left ((xs.length+Gf xs):Nat)),[])
theorem QS (xs:List ByteArray):LJ xs:=by
 intro hfit left h0 h1
 simp only [D.fit,zJ] at hfit
 have q0:=AC left (xs.length+Gf xs)
 refine Ak Lg DQ (of_decide_eq_true rfl) ?_
 simp (disch:=omega) only [GD,go_sem,Ab]
 repeat' (refine By (fun hq=>?_) (fun hq=>?_) <;> (first | replace hq:=Ap.1 hq | replace hq:=Bv.1 hq) <;> (try simp (disch:=omega) only [go_sem,Ab]))
 ·omega
 refine go_loop (α:=Int × Int) (fun a=>⟨slots 28 0 [(0,.arr (xs.map (fun s=>[D.str s]))),(1,.int .i64 a.2),(5,.int .i64 a.1)],[]⟩) (fun a=>∃ k:Nat,a.1=k∧k≤xs.length∧0≤a.2∧a.2≤1048576∧szR a.2 (Gf (xs.drop k))=szR left (xs.length+Gf xs:Nat)) (fun a=>xs.length-a.1.toNat) (0,left-xs.length) ⟨0,rfl,zI _,by omega,by omega,?_⟩ (by simp (disch:=omega) only [go_sem,Ab]) ?_
 ·have q1:=AC (left-xs.length) (Gf xs)
  rw [zH]
  dsimp only
  omega
 ·rintro ⟨i,l⟩ ⟨k,hi,hk,hl0,hl1,hs⟩
  dsimp only at hi hl0 hl1 hs
  rcases zE k xs.length with hlt | hge
  ·have hg:=get_at (fun s=>[D.str s]) hlt
   have hd:Gf (xs.drop k)=xs[k].size+Gf (xs.drop (k+1)):=by rw [zB hlt,Gf]
   rw [hd] at hs
   have hfk:=D.G2 hfit.2 _ (zD hlt)
   simp only [D.fits,D.fit,and_true] at hfk
   have q2:=AC l (xs[k].size+Gf (xs.drop (k+1)))
   have q3:=AC (l-xs[k].size) (Gf (xs.drop (k+1)))
   have hn:i.toNat=k:=by omega
   simp (disch:=omega) only [go_sem,Ab,hn,hg]
   repeat' (refine By (fun hq=>?_) (fun hq=>?_) <;> (first | replace hq:=Ap.1 hq | replace hq:=Bv.1 hq) <;> (try simp (disch:=omega) only [go_sem,Ab]))
   ·omega
   ·refine ⟨(i+1,l-xs[k].size),⟨k+1,by dsimp only; omega,hlt,by dsimp only; omega,by dsimp only; omega,by dsimp only; omega⟩,by dsimp only; omega,?_⟩
    simp only [and_self]
  ·have hd:xs.drop k=[]:=zF hge
   rw [hd] at hs
   have q1:=AC l (Gf [])
   simp only [Gf] at hs q1
   simp (disch:=omega) only [go_sem,Ab]
   omega
def Jk:SC:=(.seq (.reg [⟨some 2,none,.boxv 24 2 (.t 0)⟩,⟨some 4,none,.mv (.c (.int .i64 0))⟩]) (.seq (.reg [⟨some 5,none,.mv (.t 1)⟩,⟨some 6,none,.faddr 0 (.t 2)⟩,⟨some 7,none,.load false 1 (.t 6)⟩,⟨some 8,none,.len true (.t 7)⟩,⟨some 9,none,.bin .sub false (.t 5) (.t 8)⟩,⟨some 1,none,.mv (.t 9)⟩]) (.seq (.seq (.reg [⟨some 10,none,.mv (.t 1)⟩,⟨some 11,none,.bin .lss false (.t 10) (.c (.int .i64 0))⟩]) (.cond (.t 11) (.seq (.reg [⟨some 4,none,.mv (.c (.int .i64 (-(0+1))))⟩]) .ret) .skip)) (.seq (.reg [⟨some 12,none,.faddr 1 (.t 2)⟩,⟨some 13,none,.load false 1 (.t 12)⟩,⟨some 14,none,.mv (.t 1)⟩,⟨some 15,none,.call 76 [(.t 13),(.t 14)]⟩,⟨some 1,none,.mv (.t 15)⟩]) (.seq (.seq (.reg [⟨some 16,none,.mv (.t 1)⟩,⟨some 17,none,.bin .lss false (.t 16) (.c (.int .i64 0))⟩]) (.cond (.t 17) (.seq (.reg [⟨some 4,none,.mv (.c (.int .i64 (-(0+1))))⟩]) .ret) .skip)) (.seq (.reg [⟨some 18,none,.mv (.t 1)⟩,⟨some 4,none,.mv (.t 18)⟩]) .ret))))))
theorem Oe:Ao Tryz.prog 25=some ⟨19,Jk,[(.tmp 4)]⟩:=by kernel_rfl
theorem DX:modes 25=⟨[],.asis,none,false⟩:=by unfold modes; rfl
def Ic:SC:=(.seq (.reg [⟨some 4,none,.mv (.c (.int .i64 0))⟩]) (.seq (.reg [⟨some 6,none,.mv (.t 1)⟩,⟨some 7,none,.mv (.t 0)⟩,⟨some 8,none,.len false (.t 7)⟩,⟨some 9,none,.bin .sub false (.t 6) (.t 8)⟩,⟨some 1,none,.mv (.t 9)⟩]) (.seq (.seq (.reg [⟨some 10,none,.mv (.t 1)⟩,⟨some 11,none,.bin .lss false (.t 10) (.c (.int .i64 0))⟩]) (.cond (.t 11) (.seq (.reg [⟨some 4,none,.mv (.c (.int .i64 (-(0+1))))⟩]) .ret) .skip)) (.seq (.seq (.reg [⟨some 5,none,.mv (.c (.int .i64 0))⟩]) (.block 0 (.loop [1,1,0,0,0,1,0,0,0,0,0,0,0,0,0,0,0,0,0,0,0,0,0,0,0,0,0] (.seq (.seq (.reg [⟨some 12,none,.mv (.t 5)⟩,⟨some 13,none,.mv (.t 0)⟩,⟨some 14,none,.len false (.t 13)⟩,⟨some 15,none,.bin .lss false (.t 12) (.t 14)⟩]) (.cond (.t 15) .skip (.exit 0))) (.seq (.block 1 (.seq (.reg [⟨some 18,none,.mv (.t 0)⟩,⟨some 19,none,.mv (.t 5)⟩,⟨some 20,none,.iaddr 2 (.t 18) (.t 19)⟩,⟨some 21,none,.load true 2 (.t 20)⟩,⟨some 22,none,.mv (.t 1)⟩,⟨some 23,none,.call 25 [(.t 21),(.t 22)]⟩,⟨some 1,none,.mv (.t 23)⟩]) (.seq (.reg [⟨some 24,none,.mv (.t 1)⟩,⟨some 25,none,.bin .lss false (.t 24) (.c (.int .i64 0))⟩]) (.cond (.t 25) (.seq (.reg [⟨some 4,none,.mv (.c (.int .i64 (-(0+1))))⟩]) .ret) .skip)))) (.reg [⟨some 16,none,.mv (.t 5)⟩,⟨some 17,none,.bin .add false (.t 16) (.c (.int .i64 1))⟩,⟨some 5,none,.mv (.t 17)⟩])))))) (.seq (.reg [⟨some 26,none,.mv (.t 1)⟩,⟨some 4,none,.mv (.t 26)⟩]) .ret)))))
theorem Nw:Ao Tryz.prog 76=some ⟨27,Ic,[(.tmp 4)]⟩:=by kernel_rfl
theorem Fi:modes 76=⟨[],.asis,none,false⟩:=by unfold modes; rfl
abbrev Ko (x:Tm):Prop:=D.fits x.d→∀ left:Int,0≤left→left≤1048576→E 25 [x.sv,.int .i64 left] []=some (.int .i64 (szR left x.bulk),[])
abbrev OX (xs:List Tm):Prop:=D.fit (.arr (xs.map Tm.d))→∀ left:Int,0≤left→left≤1048576→E 76 [.arr (xs.map Tm.d),.int .i64 left] []=some (.int .i64 (szR left (xs.length+Tm.sumB xs:Nat)),[])
theorem PI (xs:List Tm) (h:∀ x∈xs,Ko x):OX xs:=by
 intro hfit left h0 h1
 simp only [D.fit,zJ] at hfit
 have q0:=AC left (xs.length+Tm.sumB xs)
 refine Ak Nw Fi (of_decide_eq_true rfl) ?_
 simp (disch:=omega) only [Ic,go_sem,Ab]
 repeat' (refine By (fun hq=>?_) (fun hq=>?_) <;> (first | replace hq:=Ap.1 hq | replace hq:=Bv.1 hq) <;> (try simp (disch:=omega) only [go_sem,Ab]))
 ·omega
 refine go_loop (α:=Int × Int) (fun a=>⟨slots 27 0 [(0,.arr (xs.map Tm.d)),(1,.int .i64 a.2),(5,.int .i64 a.1)],[]⟩) (fun a=>∃ k:Nat,a.1=k∧k≤xs.length∧0≤a.2∧a.2≤1048576∧szR a.2 (Tm.sumB (xs.drop k))=szR left (xs.length+Tm.sumB xs:Nat)) (fun a=>xs.length-a.1.toNat) (0,left-xs.length) ⟨0,rfl,zI _,by omega,by omega,?_⟩ (by simp (disch:=omega) only [go_sem,Ab]) ?_
 ·have q1:=AC (left-xs.length) (Tm.sumB xs)
  rw [zH]
  dsimp only
  omega
 ·rintro ⟨i,l⟩ ⟨k,hi,hk,hl0,hl1,hs⟩
  dsimp only at hi hl0 hl1 hs
  rcases zE k xs.length with hlt | hge
  ·have hg:=get_at Tm.d hlt
   rw [Tm.d_eq] at hg
   have hd:Tm.sumB (xs.drop k)=xs[k].bulk+Tm.sumB (xs.drop (k+1)):=by rw [zB hlt,Tm.sumB]
   rw [hd] at hs
   have hc:=h xs[k] (zD hlt) (D.G2 hfit.2 _ (zD hlt)) l hl0 hl1
   have q1:=AC l xs[k].bulk
   have q2:=AC l (xs[k].bulk+Tm.sumB (xs.drop (k+1)))
   have q3:=AC (l-xs[k].bulk) (Tm.sumB (xs.drop (k+1)))
   have hn:i.toNat=k:=by omega
   simp (disch:=omega) only [go_sem,Ab,hn,hg,hc,DX]
   repeat' (refine By (fun hq=>?_) (fun hq=>?_) <;> (first | replace hq:=Ap.1 hq | replace hq:=Bv.1 hq) <;> (try simp (disch:=omega) only [go_sem,Ab]))
   ·omega
   ·refine ⟨(i+1,l-xs[k].bulk),⟨k+1,by dsimp only; omega,hlt,by dsimp only; omega,by dsimp only; omega,by dsimp only; omega⟩,by dsimp only; omega,?_⟩
    have e:szR l xs[k].bulk=l-xs[k].bulk:=by omega
    simp only [e,and_self]
  ·have hd:xs.drop k=[]:=zF hge
   rw [hd] at hs
   have q1:=AC l (Tm.sumB [])
   simp only [Tm.sumB] at hs q1
   simp (disch:=omega) only [go_sem,Ab]
   omega
theorem QT (x:Tm) (h_args:OX x.args):Ko x:=by
 intro hfit left h0 h1
 rw [Tm.d_eq] at hfit
 simp only [D.fits,D.fit] at hfit
 replace h_args:=h_args (by simp only [D.fit,zJ]; simp only [zJ] at hfit; simp only [hfit,and_self])
 have q:=AC left x.bulk
 have qb:=Tm.bulk_eq x
 have q0:=AC (left-(x.name.size:Int)) ((x.args.length+Tm.sumB x.args))
 refine Ak Oe DX (of_decide_eq_true rfl) ?_
 simp (disch:=omega) only [Jk,go_sem,Ab,h_args,Fi]
 repeat' (refine By (fun hq=>?_) (fun hq=>?_) <;> (first | replace hq:=Ap.1 hq | replace hq:=Bv.1 hq) <;> (try simp (disch:=omega) only [go_sem,Ab,h_args,Fi]))
 all_goals omega
theorem QU (x:Tm):Ko x:=QT x (PI x.args fun y hy=>QU y)
termination_by SizeOf.sizeOf x
decreasing_by exact Tm.lt_of_mem hy
def GE:SC:=(.seq (.reg [⟨some 2,none,.boxv 27 5 (.t 0)⟩,⟨some 4,none,.mv (.c (.int .i64 0))⟩]) (.seq (.reg [⟨some 5,none,.faddr 1 (.t 2)⟩,⟨some 6,none,.load true 2 (.t 5)⟩,⟨some 7,none,.mv (.t 1)⟩,⟨some 8,none,.call 25 [(.t 6),(.t 7)]⟩,⟨some 1,none,.mv (.t 8)⟩]) (.seq (.seq (.reg [⟨some 9,none,.mv (.t 1)⟩,⟨some 10,none,.bin .lss false (.t 9) (.c (.int .i64 0))⟩]) (.cond (.t 10) (.seq (.reg [⟨some 4,none,.mv (.c (.int .i64 (-(0+1))))⟩]) .ret) .skip)) (.seq (.reg [⟨some 11,none,.mv (.t 1)⟩,⟨some 12,none,.faddr 3 (.t 2)⟩,⟨some 13,none,.load false 1 (.t 12)⟩,⟨some 14,none,.len true (.t 13)⟩,⟨some 15,none,.bin .sub false (.t 11) (.t 14)⟩,⟨some 1,none,.mv (.t 15)⟩]) (.seq (.seq (.reg [⟨some 16,none,.mv (.t 1)⟩,⟨some 17,none,.bin .lss false (.t 16) (.c (.int .i64 0))⟩]) (.cond (.t 17) (.seq (.reg [⟨some 4,none,.mv (.c (.int .i64 (-(0+1))))⟩]) .ret) .skip)) (.seq (.reg [⟨some 18,none,.faddr 4 (.t 2)⟩,⟨some 19,none,.load false 1 (.t 18)⟩,⟨some 20,none,.mv (.t 1)⟩,⟨some 21,none,.call 26 [(.t 19),(.t 20)]⟩,⟨some 1,none,.mv (.t 21)⟩]) (.seq (.seq (.reg [⟨some 22,none,.mv (.t 1)⟩,⟨some 23,none,.bin .lss false (.t 22) (.c (.int .i64 0))⟩]) (.cond (.t 23) (.seq (.reg [⟨some 4,none,.mv (.c (.int .i64 (-(0+1))))⟩]) .ret) .skip)) (.seq (.reg [⟨some 24,none,.mv (.t 1)⟩,⟨some 4,none,.mv (.t 24)⟩]) .ret))))))))
theorem Lh:Ao Tryz.prog 5=some ⟨25,GE,[(.tmp 4)]⟩:=by kernel_rfl
theorem AT:modes 5=⟨[],.asis,none,false⟩:=by unfold modes; rfl
def FH:SC:=(.seq (.reg [⟨some 4,none,.mv (.c (.int .i64 0))⟩]) (.seq (.reg [⟨some 6,none,.mv (.t 1)⟩,⟨some 7,none,.mv (.t 0)⟩,⟨some 8,none,.len false (.t 7)⟩,⟨some 9,none,.bin .sub false (.t 6) (.t 8)⟩,⟨some 1,none,.mv (.t 9)⟩]) (.seq (.seq (.reg [⟨some 10,none,.mv (.t 1)⟩,⟨some 11,none,.bin .lss false (.t 10) (.c (.int .i64 0))⟩]) (.cond (.t 11) (.seq (.reg [⟨some 4,none,.mv (.c (.int .i64 (-(0+1))))⟩]) .ret) .skip)) (.seq (.seq (.reg [⟨some 5,none,.mv (.c (.int .i64 0))⟩]) (.block 0 (.loop [1,1,0,0,0,1,0,0,0,0,0,0,0,0,0,0,0,0,0,0,0,0,0,0,0,0,0] (.seq (.seq (.reg [⟨some 12,none,.mv (.t 5)⟩,⟨some 13,none,.mv (.t 0)⟩,⟨some 14,none,.len false (.t 13)⟩,⟨some 15,none,.bin .lss false (.t 12) (.t 14)⟩]) (.cond (.t 15) .skip (.exit 0))) (.seq (.block 1 (.seq (.reg [⟨some 18,none,.mv (.t 0)⟩,⟨some 19,none,.mv (.t 5)⟩,⟨some 20,none,.iaddr 5 (.t 18) (.t 19)⟩,⟨some 21,none,.load true 5 (.t 20)⟩,⟨some 22,none,.mv (.t 1)⟩,⟨some 23,none,.call 5 [(.t 21),(.t 22)]⟩,⟨some 1,none,.mv (.t 23)⟩]) (.seq (.reg [⟨some 24,none,.mv (.t 1)⟩,⟨some 25,none,.bin .lss false (.t 24) (.c (.int .i64 0))⟩]) (.cond (.t 25) (.seq (.reg [⟨some 4,none,.mv (.c (.int .i64 (-(0+1))))⟩]) .ret) .skip)))) (.reg [⟨some 16,none,.mv (.t 5)⟩,⟨some 17,none,.bin .add false (.t 16) (.c (.int .i64 1))⟩,⟨some 5,none,.mv (.t 17)⟩])))))) (.seq (.reg [⟨some 26,none,.mv (.t 1)⟩,⟨some 4,none,.mv (.t 26)⟩]) .ret)))))
theorem Kp:Ao Tryz.prog 26=some ⟨27,FH,[(.tmp 4)]⟩:=by kernel_rfl
theorem D7:modes 26=⟨[],.asis,none,false⟩:=by unfold modes; rfl
abbrev FI (x:Fm):Prop:=D.fits x.d→∀ left:Int,0≤left→left≤1048576→E 5 [x.sv,.int .i64 left] []=some (.int .i64 (szR left x.bulk),[])
abbrev Kq (xs:List Fm):Prop:=D.fit (.arr (xs.map Fm.d))→∀ left:Int,0≤left→left≤1048576→E 26 [.arr (xs.map Fm.d),.int .i64 left] []=some (.int .i64 (szR left (xs.length+Fm.sumB xs:Nat)),[])
theorem LV (xs:List Fm) (h:∀ x∈xs,FI x):Kq xs:=by
 intro hfit left h0 h1
 simp only [D.fit,zJ] at hfit
 have q0:=AC left (xs.length+Fm.sumB xs)
 refine Ak Kp D7 (of_decide_eq_true rfl) ?_
 simp (disch:=omega) only [FH,go_sem,Ab]
 repeat' (refine By (fun hq=>?_) (fun hq=>?_) <;> (first | replace hq:=Ap.1 hq | replace hq:=Bv.1 hq) <;> (try simp (disch:=omega) only [go_sem,Ab]))
 ·omega
 refine go_loop (α:=Int × Int) (fun a=>⟨slots 27 0 [(0,.arr (xs.map Fm.d)),(1,.int .i64 a.2),(5,.int .i64 a.1)],[]⟩) (fun a=>∃ k:Nat,a.1=k∧k≤xs.length∧0≤a.2∧a.2≤1048576∧szR a.2 (Fm.sumB (xs.drop k))=szR left (xs.length+Fm.sumB xs:Nat)) (fun a=>xs.length-a.1.toNat) (0,left-xs.length) ⟨0,rfl,zI _,by omega,by omega,?_⟩ (by simp (disch:=omega) only [go_sem,Ab]) ?_
 ·have q1:=AC (left-xs.length) (Fm.sumB xs)
  rw [zH]
  dsimp only
  omega
 ·rintro ⟨i,l⟩ ⟨k,hi,hk,hl0,hl1,hs⟩
  dsimp only at hi hl0 hl1 hs
  rcases zE k xs.length with hlt | hge
  ·have hg:=get_at Fm.d hlt
   rw [Fm.d_eq] at hg
   have hd:Fm.sumB (xs.drop k)=xs[k].bulk+Fm.sumB (xs.drop (k+1)):=by rw [zB hlt,Fm.sumB]
   rw [hd] at hs
   have hc:=h xs[k] (zD hlt) (D.G2 hfit.2 _ (zD hlt)) l hl0 hl1
   have q1:=AC l xs[k].bulk
   have q2:=AC l (xs[k].bulk+Fm.sumB (xs.drop (k+1)))
   have q3:=AC (l-xs[k].bulk) (Fm.sumB (xs.drop (k+1)))
   have hn:i.toNat=k:=by omega
   simp (disch:=omega) only [go_sem,Ab,hn,hg,hc,AT]
   repeat' (refine By (fun hq=>?_) (fun hq=>?_) <;> (first | replace hq:=Ap.1 hq | replace hq:=Bv.1 hq) <;> (try simp (disch:=omega) only [go_sem,Ab]))
   ·omega
   ·refine ⟨(i+1,l-xs[k].bulk),⟨k+1,by dsimp only; omega,hlt,by dsimp only; omega,by dsimp only; omega,by dsimp only; omega⟩,by dsimp only; omega,?_⟩
    have e:szR l xs[k].bulk=l-xs[k].bulk:=by omega
    simp only [e,and_self]
  ·have hd:xs.drop k=[]:=zF hge
   rw [hd] at hs
   have q1:=AC l (Fm.sumB [])
   simp only [Fm.sumB] at hs q1
   simp (disch:=omega) only [go_sem,Ab]
   omega
theorem Nx (x:Fm) (h_atom:Ko x.atom) (h_parts:Kq x.parts):FI x:=by
 intro hfit left h0 h1
 rw [Fm.d_eq] at hfit
 simp only [D.fits,D.fit] at hfit
 replace h_atom:=h_atom (by rw [Tm.d_eq]; simp only [D.fits,D.fit,hfit,and_self])
 replace h_parts:=h_parts (by simp only [D.fit,zJ]; simp only [zJ] at hfit; simp only [hfit,and_self])
 have q:=AC left x.bulk
 have qb:=Fm.bulk_eq x
 have q0:=AC left (x.atom.bulk)
 have q41:=AC ((szR left (x.atom.bulk:Nat))-(x.var.size:Int)) ((x.parts.length+Fm.sumB x.parts))
 refine Ak Lh AT (of_decide_eq_true rfl) ?_
 simp (disch:=omega) only [GE,go_sem,Ab,h_atom,DX,h_parts,D7]
 repeat' (refine By (fun hq=>?_) (fun hq=>?_) <;> (first | replace hq:=Ap.1 hq | replace hq:=Bv.1 hq) <;> (try simp (disch:=omega) only [go_sem,Ab,h_atom,DX,h_parts,D7]))
 all_goals omega
theorem Id (x:Fm):FI x:=Nx x (QU x.atom) (LV x.parts fun y hy=>Id y)
termination_by SizeOf.sizeOf x
decreasing_by exact Fm.lt_of_mem hy
def Er:SC:=(.seq (.reg [⟨some 2,none,.boxv 66 7 (.t 0)⟩,⟨some 4,none,.mv (.c (.int .i64 0))⟩]) (.seq (.reg [⟨some 5,none,.mv (.t 1)⟩,⟨some 6,none,.faddr 0 (.t 2)⟩,⟨some 7,none,.load false 1 (.t 6)⟩,⟨some 8,none,.len true (.t 7)⟩,⟨some 9,none,.bin .sub false (.t 5) (.t 8)⟩,⟨some 1,none,.mv (.t 9)⟩]) (.seq (.seq (.reg [⟨some 10,none,.mv (.t 1)⟩,⟨some 11,none,.bin .lss false (.t 10) (.c (.int .i64 0))⟩]) (.cond (.t 11) (.seq (.reg [⟨some 4,none,.mv (.c (.int .i64 (-(0+1))))⟩]) .ret) .skip)) (.seq (.reg [⟨some 12,none,.faddr 1 (.t 2)⟩,⟨some 13,none,.load false 1 (.t 12)⟩,⟨some 14,none,.mv (.t 1)⟩,⟨some 15,none,.call 77 [(.t 13),(.t 14)]⟩,⟨some 1,none,.mv (.t 15)⟩]) (.seq (.seq (.reg [⟨some 16,none,.mv (.t 1)⟩,⟨some 17,none,.bin .lss false (.t 16) (.c (.int .i64 0))⟩]) (.cond (.t 17) (.seq (.reg [⟨some 4,none,.mv (.c (.int .i64 (-(0+1))))⟩]) .ret) .skip)) (.seq (.reg [⟨some 18,none,.faddr 2 (.t 2)⟩,⟨some 19,none,.load true 5 (.t 18)⟩,⟨some 20,none,.mv (.t 1)⟩,⟨some 21,none,.call 5 [(.t 19),(.t 20)]⟩,⟨some 1,none,.mv (.t 21)⟩]) (.seq (.seq (.reg [⟨some 22,none,.mv (.t 1)⟩,⟨some 23,none,.bin .lss false (.t 22) (.c (.int .i64 0))⟩]) (.cond (.t 23) (.seq (.reg [⟨some 4,none,.mv (.c (.int .i64 (-(0+1))))⟩]) .ret) .skip)) (.seq (.reg [⟨some 24,none,.mv (.t 1)⟩,⟨some 4,none,.mv (.t 24)⟩]) .ret))))))))
theorem IO:Ao Tryz.prog 27=some ⟨25,Er,[(.tmp 4)]⟩:=by kernel_rfl
theorem Es:modes 27=⟨[],.asis,none,false⟩:=by unfold modes; rfl
def Ee:SC:=(.seq (.reg [⟨some 4,none,.mv (.c (.int .i64 0))⟩]) (.seq (.reg [⟨some 6,none,.mv (.t 1)⟩,⟨some 7,none,.mv (.t 0)⟩,⟨some 8,none,.len false (.t 7)⟩,⟨some 9,none,.bin .sub false (.t 6) (.t 8)⟩,⟨some 1,none,.mv (.t 9)⟩]) (.seq (.seq (.reg [⟨some 10,none,.mv (.t 1)⟩,⟨some 11,none,.bin .lss false (.t 10) (.c (.int .i64 0))⟩]) (.cond (.t 11) (.seq (.reg [⟨some 4,none,.mv (.c (.int .i64 (-(0+1))))⟩]) .ret) .skip)) (.seq (.seq (.reg [⟨some 5,none,.mv (.c (.int .i64 0))⟩]) (.block 0 (.loop [1,1,0,0,0,1,0,0,0,0,0,0,0,0,0,0,0,0,0,0,0,0,0,0,0,0,0] (.seq (.seq (.reg [⟨some 12,none,.mv (.t 5)⟩,⟨some 13,none,.mv (.t 0)⟩,⟨some 14,none,.len false (.t 13)⟩,⟨some 15,none,.bin .lss false (.t 12) (.t 14)⟩]) (.cond (.t 15) .skip (.exit 0))) (.seq (.block 1 (.seq (.reg [⟨some 18,none,.mv (.t 0)⟩,⟨some 19,none,.mv (.t 5)⟩,⟨some 20,none,.iaddr 7 (.t 18) (.t 19)⟩,⟨some 21,none,.load true 7 (.t 20)⟩,⟨some 22,none,.mv (.t 1)⟩,⟨some 23,none,.call 27 [(.t 21),(.t 22)]⟩,⟨some 1,none,.mv (.t 23)⟩]) (.seq (.reg [⟨some 24,none,.mv (.t 1)⟩,⟨some 25,none,.bin .lss false (.t 24) (.c (.int .i64 0))⟩]) (.cond (.t 25) (.seq (.reg [⟨some 4,none,.mv (.c (.int .i64 (-(0+1))))⟩]) .ret) .skip)))) (.reg [⟨some 16,none,.mv (.t 5)⟩,⟨some 17,none,.bin .add false (.t 16) (.c (.int .i64 1))⟩,⟨some 5,none,.mv (.t 17)⟩])))))) (.seq (.reg [⟨some 26,none,.mv (.t 1)⟩,⟨some 4,none,.mv (.t 26)⟩]) .ret)))))
theorem Ie:Ao Tryz.prog 6=some ⟨27,Ee,[(.tmp 4)]⟩:=by kernel_rfl
theorem Bp:modes 6=⟨[],.asis,none,false⟩:=by unfold modes; rfl
abbrev Fj (x:Df):Prop:=D.fits x.d→∀ left:Int,0≤left→left≤1048576→E 27 [x.sv,.int .i64 left] []=some (.int .i64 (szR left x.bulk),[])
abbrev Hz (xs:List Df):Prop:=D.fit (.arr (xs.map Df.d))→∀ left:Int,0≤left→left≤1048576→E 6 [.arr (xs.map Df.d),.int .i64 left] []=some (.int .i64 (szR left (xs.length+Df.sumB xs:Nat)),[])
theorem JF (xs:List Df) (h:∀ x∈xs,Fj x):Hz xs:=by
 intro hfit left h0 h1
 simp only [D.fit,zJ] at hfit
 have q0:=AC left (xs.length+Df.sumB xs)
 refine Ak Ie Bp (of_decide_eq_true rfl) ?_
 simp (disch:=omega) only [Ee,go_sem,Ab]
 repeat' (refine By (fun hq=>?_) (fun hq=>?_) <;> (first | replace hq:=Ap.1 hq | replace hq:=Bv.1 hq) <;> (try simp (disch:=omega) only [go_sem,Ab]))
 ·omega
 refine go_loop (α:=Int × Int) (fun a=>⟨slots 27 0 [(0,.arr (xs.map Df.d)),(1,.int .i64 a.2),(5,.int .i64 a.1)],[]⟩) (fun a=>∃ k:Nat,a.1=k∧k≤xs.length∧0≤a.2∧a.2≤1048576∧szR a.2 (Df.sumB (xs.drop k))=szR left (xs.length+Df.sumB xs:Nat)) (fun a=>xs.length-a.1.toNat) (0,left-xs.length) ⟨0,rfl,zI _,by omega,by omega,?_⟩ (by simp (disch:=omega) only [go_sem,Ab]) ?_
 ·have q1:=AC (left-xs.length) (Df.sumB xs)
  rw [zH]
  dsimp only
  omega
 ·rintro ⟨i,l⟩ ⟨k,hi,hk,hl0,hl1,hs⟩
  dsimp only at hi hl0 hl1 hs
  rcases zE k xs.length with hlt | hge
  ·have hg:=get_at Df.d hlt
   rw [Df.d_eq] at hg
   have hd:Df.sumB (xs.drop k)=xs[k].bulk+Df.sumB (xs.drop (k+1)):=by rw [zB hlt,Df.sumB]
   rw [hd] at hs
   have hc:=h xs[k] (zD hlt) (D.G2 hfit.2 _ (zD hlt)) l hl0 hl1
   have q1:=AC l xs[k].bulk
   have q2:=AC l (xs[k].bulk+Df.sumB (xs.drop (k+1)))
   have q3:=AC (l-xs[k].bulk) (Df.sumB (xs.drop (k+1)))
   have hn:i.toNat=k:=by omega
   simp (disch:=omega) only [go_sem,Ab,hn,hg,hc,Es]
   repeat' (refine By (fun hq=>?_) (fun hq=>?_) <;> (first | replace hq:=Ap.1 hq | replace hq:=Bv.1 hq) <;> (try simp (disch:=omega) only [go_sem,Ab]))
   ·omega
   ·refine ⟨(i+1,l-xs[k].bulk),⟨k+1,by dsimp only; omega,hlt,by dsimp only; omega,by dsimp only; omega,by dsimp only; omega⟩,by dsimp only; omega,?_⟩
    have e:szR l xs[k].bulk=l-xs[k].bulk:=by omega
    simp only [e,and_self]
  ·have hd:xs.drop k=[]:=zF hge
   rw [hd] at hs
   have q1:=AC l (Df.sumB [])
   simp only [Df.sumB] at hs q1
   simp (disch:=omega) only [go_sem,Ab]
   omega
theorem Kr (x:Df) (h_vars:LJ x.vars) (h_form:FI x.form):Fj x:=by
 intro hfit left h0 h1
 rw [Df.d_eq] at hfit
 simp only [D.fits,D.fit] at hfit
 replace h_vars:=h_vars (by simp only [D.fit,zJ]; simp only [zJ] at hfit; simp only [hfit,and_self])
 replace h_form:=h_form (by rw [Fm.d_eq]; simp only [D.fits,D.fit,hfit,and_self])
 have q:=AC left x.bulk
 have qb:=Df.bulk_eq x
 have q0:=AC (left-(x.name.size:Int)) ((x.vars.length+Gf x.vars))
 have q83:=AC (szR (left-(x.name.size:Int)) ((x.vars.length+Gf x.vars):Nat)) (x.form.bulk)
 refine Ak IO Es (of_decide_eq_true rfl) ?_
 simp (disch:=omega) only [Er,go_sem,Ab,h_vars,DQ,h_form,AT]
 repeat' (refine By (fun hq=>?_) (fun hq=>?_) <;> (first | replace hq:=Ap.1 hq | replace hq:=Bv.1 hq) <;> (try simp (disch:=omega) only [go_sem,Ab,h_vars,DQ,h_form,AT]))
 all_goals omega
theorem Ny (x:Df):Fj x:=Kr x (QS x.vars) (Id x.form)
theorem LW (xs:List Df):Hz xs:=JF xs fun x _=>Ny x
def GF:SC:=(.seq (.reg [⟨some 2,none,.mv (.c .nil)⟩]) (.seq (.reg [⟨some 5,none,.mv (.t 0)⟩,⟨some 6,none,.len false (.t 5)⟩,⟨(some 7),none,(.mkslice 9 1 16 [(.str ⟨#[]⟩)] (.t 6))⟩,⟨some 3,none,.mv (.t 7)⟩]) (.seq (.seq (.reg [⟨some 4,none,.mv (.c (.int .i64 0))⟩]) (.block 0 (.loop [1,0,0,1,1,0,0,0,0,0,0,0,0,0,0,0,0,0,0,0,0,0] (.seq (.seq (.reg [⟨some 8,none,.mv (.t 4)⟩,⟨some 9,none,.mv (.t 0)⟩,⟨some 10,none,.len false (.t 9)⟩,⟨some 11,none,.bin .lss false (.t 8) (.t 10)⟩]) (.cond (.t 11) .skip (.exit 0))) (.seq (.block 1 (.reg [⟨some 14,none,.mv (.t 3)⟩,⟨some 15,none,.mv (.t 4)⟩,⟨some 16,none,.mv (.t 0)⟩,⟨some 17,none,.mv (.t 4)⟩,⟨some 18,none,.iaddr 1 (.t 16) (.t 17)⟩,⟨some 19,none,.load false 1 (.t 18)⟩,⟨some 20,none,.iaddr 1 (.t 14) (.t 15)⟩,⟨none,none,(.store 1 (.t 20) (.t 19))⟩])) (.reg [⟨some 12,none,.mv (.t 4)⟩,⟨some 13,none,.bin .add false (.t 12) (.c (.int .i64 1))⟩,⟨some 4,none,.mv (.t 13)⟩])))))) (.seq (.reg [⟨some 21,none,.mv (.t 3)⟩,⟨some 2,none,.mv (.t 21)⟩]) .ret))))
theorem Li:Ao Tryz.prog 87=some ⟨22,GF,[(.tmp 2)]⟩:=by kernel_rfl
theorem GG:modes 87=⟨[],.asis,none,false⟩:=by unfold modes; rfl
abbrev LK (xs:List ByteArray):Prop:=xs.length+Gf xs≤1048576→E 87 [.arr (xs.map (fun s=>[D.str s]))] []=some (.ref 0,[.row 9 1 (xs.map (fun s=>[OT.str s]))])
theorem QV (xs:List ByteArray):LK xs:=by
 intro hb
 refine Ak Li GG (of_decide_eq_true rfl) ?_
 simp (disch:=omega) only [GF,go_sem,Ab]
 refine go_loop (α:=Int) (fun i=>⟨slots 22 0 [(0,.arr (xs.map (fun s=>[D.str s]))),(3,.ref 0),(4,.int .i64 i)],[.row 9 1 (En (fun s=>[OT.str s]) [.str ⟨#[]⟩] xs i.toNat)]⟩) (fun i=>∃ k:Nat,i=k∧k≤xs.length) (fun i=>xs.length-i.toNat) 0 ⟨0,rfl,zI _⟩ (by simp (disch:=omega) only [go_sem,Ab,EY,zP]) ?_
 ·rintro i ⟨k,rfl,hk⟩
  obtain ⟨i,hi⟩:∃ i:Int,i=(k:Int):=⟨_,rfl⟩
  rw [←hi]
  have hn:i.toNat=k:=by omega
  have hn1:(i+1).toNat=k+1:=by omega
  rcases zE k xs.length with hlt | hge
  ·have hg:=get_at (fun s=>[D.str s]) hlt
   have hz:=G5 (fun s=>[OT.str s]) [.str ⟨#[]⟩] hlt
   have hs:=G6 (fun s=>[OT.str s]) [.str ⟨#[]⟩] hlt
   simp (disch:=omega) only [go_sem,Ab,hn,hg,hz,G3]
   refine ⟨i+1,⟨k+1,by omega,hlt⟩,by omega,?_⟩
   simp (disch:=omega) only [go_sem,Ab,hn1,hs]
  ·obtain rfl:k=xs.length:=by omega
   simp (disch:=omega) only [go_sem,Ab,hn,G4]
def Jl:SC:=(.seq (.reg [⟨some 1,none,.boxv 24 2 (.t 0)⟩,⟨(some 2),none,(.alloc 33 [(.str ⟨#[]⟩),.nil])⟩]) (.seq (.reg [⟨(some 3),none,(.alloc 33 [(.str ⟨#[]⟩),.nil])⟩]) (.seq (.reg [⟨some 4,none,.faddr 0 (.t 1)⟩,⟨some 5,none,.load false 1 (.t 4)⟩,⟨some 6,none,.faddr 0 (.t 3)⟩,⟨none,none,(.store 1 (.t 6) (.t 5))⟩]) (.seq (.reg [⟨some 7,none,.faddr 1 (.t 1)⟩,⟨some 8,none,.load false 1 (.t 7)⟩,⟨some 9,none,.call 86 [(.t 8)]⟩,⟨some 10,none,.faddr 1 (.t 3)⟩,⟨none,none,(.store 1 (.t 10) (.t 9))⟩]) (.seq (.reg [⟨some 11,none,.load true 2 (.t 3)⟩,⟨none,none,(.store 2 (.t 2) (.t 11))⟩]) .ret)))))
theorem Of:Ao Tryz.prog 33=some ⟨12,Jl,[(.cell 2 true 2)]⟩:=by kernel_rfl
theorem Ga:modes 33=⟨[],.asis,none,false⟩:=by unfold modes; rfl
def If:SC:=(.seq (.reg [⟨some 2,none,.mv (.c .nil)⟩]) (.seq (.reg [⟨some 5,none,.mv (.t 0)⟩,⟨some 6,none,.len false (.t 5)⟩,⟨(some 7),none,(.mkslice 33 2 40 [(.str ⟨#[]⟩),.nil] (.t 6))⟩,⟨some 3,none,.mv (.t 7)⟩]) (.seq (.seq (.reg [⟨some 4,none,.mv (.c (.int .i64 0))⟩]) (.block 0 (.loop [1,0,0,1,1,0,0,0,0,0,0,0,0,0,0,0,0,0,0,0,0,0,0] (.seq (.seq (.reg [⟨some 8,none,.mv (.t 4)⟩,⟨some 9,none,.mv (.t 0)⟩,⟨some 10,none,.len false (.t 9)⟩,⟨some 11,none,.bin .lss false (.t 8) (.t 10)⟩]) (.cond (.t 11) .skip (.exit 0))) (.seq (.block 1 (.reg [⟨some 14,none,.mv (.t 3)⟩,⟨some 15,none,.mv (.t 4)⟩,⟨some 16,none,.mv (.t 0)⟩,⟨some 17,none,.mv (.t 4)⟩,⟨some 18,none,.iaddr 2 (.t 16) (.t 17)⟩,⟨some 19,none,.load true 2 (.t 18)⟩,⟨some 20,none,.call 33 [(.t 19)]⟩,⟨some 21,none,.iaddr 2 (.t 14) (.t 15)⟩,⟨none,none,(.store 2 (.t 21) (.t 20))⟩])) (.reg [⟨some 12,none,.mv (.t 4)⟩,⟨some 13,none,.bin .add false (.t 12) (.c (.int .i64 1))⟩,⟨some 4,none,.mv (.t 13)⟩])))))) (.seq (.reg [⟨some 22,none,.mv (.t 3)⟩,⟨some 2,none,.mv (.t 22)⟩]) .ret))))
theorem Nz:Ao Tryz.prog 86=some ⟨23,If,[(.tmp 2)]⟩:=by kernel_rfl
theorem Ig:modes 86=⟨[],.asis,none,false⟩:=by unfold modes; rfl
abbrev Ks (x:Tm):Prop:=x.bulk≤1048576→E 33 [x.sv] []=some (x.osv,x.obs)
abbrev OY (xs:List Tm):Prop:=xs.length+Tm.sumB xs≤1048576→E 86 [.arr (xs.map Tm.d)] []=some (.ref 0,[.row 33 2 (xs.map Tm.o)])
theorem PJ (xs:List Tm) (h:∀ x∈xs,Ks x):OY xs:=by
 intro hb
 refine Ak Nz Ig (of_decide_eq_true rfl) ?_
 simp (disch:=omega) only [If,go_sem,Ab]
 refine go_loop (α:=Int) (fun i=>⟨slots 23 0 [(0,.arr (xs.map Tm.d)),(3,.ref 0),(4,.int .i64 i)],[.row 33 2 (En Tm.o [.str ⟨#[]⟩,.ow []] xs i.toNat)]⟩) (fun i=>∃ k:Nat,i=k∧k≤xs.length) (fun i=>xs.length-i.toNat) 0 ⟨0,rfl,zI _⟩ (by simp (disch:=omega) only [go_sem,Ab,EY,zP]) ?_
 ·rintro i ⟨k,rfl,hk⟩
  obtain ⟨i,hi⟩:∃ i:Int,i=(k:Int):=⟨_,rfl⟩
  rw [←hi]
  have hn:i.toNat=k:=by omega
  have hn1:(i+1).toNat=k+1:=by omega
  rcases zE k xs.length with hlt | hge
  ·have hg:=get_at Tm.d hlt
   rw [Tm.d_eq] at hg
   have hz:=G5 Tm.o [.str ⟨#[]⟩,.ow []] hlt
   have hle:=Tm.bulk_le xs k hlt
   have hc:=h xs[k] (zD hlt) (by omega)
   have hs:=G6 Tm.o [.str ⟨#[]⟩,.ow []] hlt
   rw [Tm.o_eq] at hs
   simp (disch:=omega) only [go_sem,Ab,hn,hg,hc,hz,G3,Ga,Tm.osv,Tm.obs]
   refine ⟨i+1,⟨k+1,by omega,hlt⟩,by omega,?_⟩
   simp (disch:=omega) only [go_sem,Ab,hn1,hs]
  ·obtain rfl:k=xs.length:=by omega
   simp (disch:=omega) only [go_sem,Ab,hn,G4]
theorem QW (x:Tm) (h_args:OY x.args):Ks x:=by
 intro hb
 have qb:=Tm.bulk_eq x
 replace h_args:=h_args (by omega)
 refine Ak Of Ga (of_decide_eq_true rfl) ?_
 simp (disch:=omega) only [Jl,go_sem,Ab,h_args,Ig]
theorem QX (x:Tm):Ks x:=QW x (PJ x.args fun y hy=>QX y)
termination_by SizeOf.sizeOf x
decreasing_by exact Tm.lt_of_mem hy
def GH:SC:=(.seq (.reg [⟨some 1,none,.boxv 27 5 (.t 0)⟩,⟨(some 2),none,(.alloc 36 [(.int .i64 0),(.str ⟨#[]⟩),.nil,(.str ⟨#[]⟩),.nil])⟩]) (.seq (.reg [⟨(some 3),none,(.alloc 36 [(.int .i64 0),(.str ⟨#[]⟩),.nil,(.str ⟨#[]⟩),.nil])⟩]) (.seq (.reg [⟨some 4,none,.faddr 0 (.t 1)⟩,⟨some 5,none,.load false 1 (.t 4)⟩,⟨some 6,none,.faddr 0 (.t 3)⟩,⟨none,none,(.store 1 (.t 6) (.t 5))⟩]) (.seq (.reg [⟨some 7,none,.faddr 1 (.t 1)⟩,⟨some 8,none,.load true 2 (.t 7)⟩,⟨some 9,none,.call 33 [(.t 8)]⟩,⟨some 10,none,.faddr 1 (.t 3)⟩,⟨none,none,(.store 2 (.t 10) (.t 9))⟩]) (.seq (.reg [⟨some 11,none,.faddr 3 (.t 1)⟩,⟨some 12,none,.load false 1 (.t 11)⟩,⟨some 13,none,.faddr 3 (.t 3)⟩,⟨none,none,(.store 1 (.t 13) (.t 12))⟩]) (.seq (.reg [⟨some 14,none,.faddr 4 (.t 1)⟩,⟨some 15,none,.load false 1 (.t 14)⟩,⟨some 16,none,.call 34 [(.t 15)]⟩,⟨some 17,none,.faddr 4 (.t 3)⟩,⟨none,none,(.store 1 (.t 17) (.t 16))⟩]) (.seq (.reg [⟨some 18,none,.load true 5 (.t 3)⟩,⟨none,none,(.store 5 (.t 2) (.t 18))⟩]) .ret)))))))
theorem Lj:Ao Tryz.prog 8=some ⟨19,GH,[(.cell 2 true 5)]⟩:=by kernel_rfl
theorem B9:modes 8=⟨[],.asis,none,false⟩:=by unfold modes; rfl
def FJ:SC:=(.seq (.reg [⟨some 2,none,.mv (.c .nil)⟩]) (.seq (.reg [⟨some 5,none,.mv (.t 0)⟩,⟨some 6,none,.len false (.t 5)⟩,⟨(some 7),none,(.mkslice 36 5 88 [(.int .i64 0),(.str ⟨#[]⟩),.nil,(.str ⟨#[]⟩),.nil] (.t 6))⟩,⟨some 3,none,.mv (.t 7)⟩]) (.seq (.seq (.reg [⟨some 4,none,.mv (.c (.int .i64 0))⟩]) (.block 0 (.loop [1,0,0,1,1,0,0,0,0,0,0,0,0,0,0,0,0,0,0,0,0,0,0] (.seq (.seq (.reg [⟨some 8,none,.mv (.t 4)⟩,⟨some 9,none,.mv (.t 0)⟩,⟨some 10,none,.len false (.t 9)⟩,⟨some 11,none,.bin .lss false (.t 8) (.t 10)⟩]) (.cond (.t 11) .skip (.exit 0))) (.seq (.block 1 (.reg [⟨some 14,none,.mv (.t 3)⟩,⟨some 15,none,.mv (.t 4)⟩,⟨some 16,none,.mv (.t 0)⟩,⟨some 17,none,.mv (.t 4)⟩,⟨some 18,none,.iaddr 5 (.t 16) (.t 17)⟩,⟨some 19,none,.load true 5 (.t 18)⟩,⟨some 20,none,.call 8 [(.t 19)]⟩,⟨some 21,none,.iaddr 5 (.t 14) (.t 15)⟩,⟨none,none,(.store 5 (.t 21) (.t 20))⟩])) (.reg [⟨some 12,none,.mv (.t 4)⟩,⟨some 13,none,.bin .add false (.t 12) (.c (.int .i64 1))⟩,⟨some 4,none,.mv (.t 13)⟩])))))) (.seq (.reg [⟨some 22,none,.mv (.t 3)⟩,⟨some 2,none,.mv (.t 22)⟩]) .ret))))
theorem Kt:Ao Tryz.prog 34=some ⟨23,FJ,[(.tmp 2)]⟩:=by kernel_rfl
theorem FK:modes 34=⟨[],.asis,none,false⟩:=by unfold modes; rfl
abbrev FL (x:Fm):Prop:=x.bulk≤1048576→E 8 [x.sv] []=some (x.osv,x.obs)
abbrev Ku (xs:List Fm):Prop:=xs.length+Fm.sumB xs≤1048576→E 34 [.arr (xs.map Fm.d)] []=some (.ref 0,[.row 36 5 (xs.map Fm.o)])
theorem LX (xs:List Fm) (h:∀ x∈xs,FL x):Ku xs:=by
 intro hb
 refine Ak Kt FK (of_decide_eq_true rfl) ?_
 simp (disch:=omega) only [FJ,go_sem,Ab]
 refine go_loop (α:=Int) (fun i=>⟨slots 23 0 [(0,.arr (xs.map Fm.d)),(3,.ref 0),(4,.int .i64 i)],[.row 36 5 (En Fm.o [.int 0,.str ⟨#[]⟩,.ow [],.str ⟨#[]⟩,.ow []] xs i.toNat)]⟩) (fun i=>∃ k:Nat,i=k∧k≤xs.length) (fun i=>xs.length-i.toNat) 0 ⟨0,rfl,zI _⟩ (by simp (disch:=omega) only [go_sem,Ab,EY,zP]) ?_
 ·rintro i ⟨k,rfl,hk⟩
  obtain ⟨i,hi⟩:∃ i:Int,i=(k:Int):=⟨_,rfl⟩
  rw [←hi]
  have hn:i.toNat=k:=by omega
  have hn1:(i+1).toNat=k+1:=by omega
  rcases zE k xs.length with hlt | hge
  ·have hg:=get_at Fm.d hlt
   rw [Fm.d_eq] at hg
   have hz:=G5 Fm.o [.int 0,.str ⟨#[]⟩,.ow [],.str ⟨#[]⟩,.ow []] hlt
   have hle:=Fm.bulk_le xs k hlt
   have hc:=h xs[k] (zD hlt) (by omega)
   have hs:=G6 Fm.o [.int 0,.str ⟨#[]⟩,.ow [],.str ⟨#[]⟩,.ow []] hlt
   rw [Fm.o_eq] at hs
   simp (disch:=omega) only [go_sem,Ab,hn,hg,hc,hz,G3,B9,Fm.osv,Fm.obs]
   refine ⟨i+1,⟨k+1,by omega,hlt⟩,by omega,?_⟩
   simp (disch:=omega) only [go_sem,Ab,hn1,hs]
  ·obtain rfl:k=xs.length:=by omega
   simp (disch:=omega) only [go_sem,Ab,hn,G4]
theorem N0 (x:Fm) (h_atom:Ks x.atom) (h_parts:Ku x.parts):FL x:=by
 intro hb
 have qb:=Fm.bulk_eq x
 replace h_atom:=h_atom (by omega)
 replace h_parts:=h_parts (by omega)
 refine Ak Lj B9 (of_decide_eq_true rfl) ?_
 simp (disch:=omega) only [GH,go_sem,Ab,h_atom,Ga,h_parts,FK]
theorem Ih (x:Fm):FL x:=N0 x (QX x.atom) (LX x.parts fun y hy=>Ih y)
termination_by SizeOf.sizeOf x
decreasing_by exact Fm.lt_of_mem hy
def Et:SC:=(.seq (.reg [⟨some 1,none,.boxv 66 7 (.t 0)⟩,⟨(some 2),none,(.alloc 70 [(.str ⟨#[]⟩),.nil,(.int .i64 0),(.str ⟨#[]⟩),.nil,(.str ⟨#[]⟩),.nil])⟩]) (.seq (.reg [⟨(some 3),none,(.alloc 70 [(.str ⟨#[]⟩),.nil,(.int .i64 0),(.str ⟨#[]⟩),.nil,(.str ⟨#[]⟩),.nil])⟩]) (.seq (.reg [⟨some 4,none,.faddr 0 (.t 1)⟩,⟨some 5,none,.load false 1 (.t 4)⟩,⟨some 6,none,.faddr 0 (.t 3)⟩,⟨none,none,(.store 1 (.t 6) (.t 5))⟩]) (.seq (.reg [⟨some 7,none,.faddr 1 (.t 1)⟩,⟨some 8,none,.load false 1 (.t 7)⟩,⟨some 9,none,.call 87 [(.t 8)]⟩,⟨some 10,none,.faddr 1 (.t 3)⟩,⟨none,none,(.store 1 (.t 10) (.t 9))⟩]) (.seq (.reg [⟨some 11,none,.faddr 2 (.t 1)⟩,⟨some 12,none,.load true 5 (.t 11)⟩,⟨some 13,none,.call 8 [(.t 12)]⟩,⟨some 14,none,.faddr 2 (.t 3)⟩,⟨none,none,(.store 5 (.t 14) (.t 13))⟩]) (.seq (.reg [⟨some 15,none,.load true 7 (.t 3)⟩,⟨none,none,(.store 7 (.t 2) (.t 15))⟩]) .ret))))))
theorem IP:Ao Tryz.prog 35=some ⟨16,Et,[(.cell 2 true 7)]⟩:=by kernel_rfl
theorem Eu:modes 35=⟨[],.asis,none,false⟩:=by unfold modes; rfl
def Ef:SC:=(.seq (.reg [⟨some 2,none,.mv (.c .nil)⟩]) (.seq (.reg [⟨some 5,none,.mv (.t 0)⟩,⟨some 6,none,.len false (.t 5)⟩,⟨(some 7),none,(.mkslice 70 7 128 [(.str ⟨#[]⟩),.nil,(.int .i64 0),(.str ⟨#[]⟩),.nil,(.str ⟨#[]⟩),.nil] (.t 6))⟩,⟨some 3,none,.mv (.t 7)⟩]) (.seq (.seq (.reg [⟨some 4,none,.mv (.c (.int .i64 0))⟩]) (.block 0 (.loop [1,0,0,1,1,0,0,0,0,0,0,0,0,0,0,0,0,0,0,0,0,0,0] (.seq (.seq (.reg [⟨some 8,none,.mv (.t 4)⟩,⟨some 9,none,.mv (.t 0)⟩,⟨some 10,none,.len false (.t 9)⟩,⟨some 11,none,.bin .lss false (.t 8) (.t 10)⟩]) (.cond (.t 11) .skip (.exit 0))) (.seq (.block 1 (.reg [⟨some 14,none,.mv (.t 3)⟩,⟨some 15,none,.mv (.t 4)⟩,⟨some 16,none,.mv (.t 0)⟩,⟨some 17,none,.mv (.t 4)⟩,⟨some 18,none,.iaddr 7 (.t 16) (.t 17)⟩,⟨some 19,none,.load true 7 (.t 18)⟩,⟨some 20,none,.call 35 [(.t 19)]⟩,⟨some 21,none,.iaddr 7 (.t 14) (.t 15)⟩,⟨none,none,(.store 7 (.t 21) (.t 20))⟩])) (.reg [⟨some 12,none,.mv (.t 4)⟩,⟨some 13,none,.bin .add false (.t 12) (.c (.int .i64 1))⟩,⟨some 4,none,.mv (.t 13)⟩])))))) (.seq (.reg [⟨some 22,none,.mv (.t 3)⟩,⟨some 2,none,.mv (.t 22)⟩]) .ret))))
theorem Ii:Ao Tryz.prog 9=some ⟨23,Ef,[(.tmp 2)]⟩:=by kernel_rfl
theorem BG:modes 9=⟨[],.asis,none,false⟩:=by unfold modes; rfl
abbrev Fk (x:Df):Prop:=x.bulk≤1048576→E 35 [x.sv] []=some (x.osv,x.obs)
abbrev H0 (xs:List Df):Prop:=xs.length+Df.sumB xs≤1048576→E 9 [.arr (xs.map Df.d)] []=some (.ref 0,[.row 70 7 (xs.map Df.o)])
theorem JG (xs:List Df) (h:∀ x∈xs,Fk x):H0 xs:=by
 intro hb
 refine Ak Ii BG (of_decide_eq_true rfl) ?_
 simp (disch:=omega) only [Ef,go_sem,Ab]
 refine go_loop (α:=Int) (fun i=>⟨slots 23 0 [(0,.arr (xs.map Df.d)),(3,.ref 0),(4,.int .i64 i)],[.row 70 7 (En Df.o [.str ⟨#[]⟩,.ow [],.int 0,.str ⟨#[]⟩,.ow [],.str ⟨#[]⟩,.ow []] xs i.toNat)]⟩) (fun i=>∃ k:Nat,i=k∧k≤xs.length) (fun i=>xs.length-i.toNat) 0 ⟨0,rfl,zI _⟩ (by simp (disch:=omega) only [go_sem,Ab,EY,zP]) ?_
 ·rintro i ⟨k,rfl,hk⟩
  obtain ⟨i,hi⟩:∃ i:Int,i=(k:Int):=⟨_,rfl⟩
  rw [←hi]
  have hn:i.toNat=k:=by omega
  have hn1:(i+1).toNat=k+1:=by omega
  rcases zE k xs.length with hlt | hge
  ·have hg:=get_at Df.d hlt
   rw [Df.d_eq] at hg
   have hz:=G5 Df.o [.str ⟨#[]⟩,.ow [],.int 0,.str ⟨#[]⟩,.ow [],.str ⟨#[]⟩,.ow []] hlt
   have hle:=Df.bulk_le xs k hlt
   have hc:=h xs[k] (zD hlt) (by omega)
   have hs:=G6 Df.o [.str ⟨#[]⟩,.ow [],.int 0,.str ⟨#[]⟩,.ow [],.str ⟨#[]⟩,.ow []] hlt
   rw [Df.o_eq] at hs
   simp (disch:=omega) only [go_sem,Ab,hn,hg,hc,hz,G3,Eu,Df.osv,Df.obs]
   refine ⟨i+1,⟨k+1,by omega,hlt⟩,by omega,?_⟩
   simp (disch:=omega) only [go_sem,Ab,hn1,hs]
  ·obtain rfl:k=xs.length:=by omega
   simp (disch:=omega) only [go_sem,Ab,hn,G4]
theorem Kv (x:Df) (h_vars:LK x.vars) (h_form:FL x.form):Fk x:=by
 intro hb
 have qb:=Df.bulk_eq x
 replace h_vars:=h_vars (by omega)
 replace h_form:=h_form (by omega)
 refine Ak IP Eu (of_decide_eq_true rfl) ?_
 simp (disch:=omega) only [Et,go_sem,Ab,h_vars,GG,h_form,B9]
theorem N1 (x:Df):Fk x:=Kv x (QV x.vars) (Ih x.form)
theorem LY (xs:List Df):H0 xs:=JG xs fun x _=>N1 x
def GI:SC:=(.seq (.reg [⟨some 4,none,.mv (.c (.bool false))⟩]) (.seq (.seq (.reg [⟨some 6,none,.mv (.t 0)⟩,⟨some 7,none,.len false (.t 6)⟩,⟨some 8,none,.mv (.t 1)⟩,⟨some 9,none,.len false (.t 8)⟩,⟨some 10,none,.bin .neq false (.t 7) (.t 9)⟩]) (.cond (.t 10) (.seq (.reg [⟨some 4,none,.mv (.c (.bool false))⟩]) .ret) .skip)) (.seq (.seq (.reg [⟨some 5,none,.mv (.c (.int .i64 0))⟩]) (.block 0 (.loop [1,1,0,0,0,1,0,0,0,0,0,0,0,0,0,0,0,0,0,0,0,0,0,0,0,0] (.seq (.seq (.reg [⟨some 11,none,.mv (.t 5)⟩,⟨some 12,none,.mv (.t 0)⟩,⟨some 13,none,.len false (.t 12)⟩,⟨some 14,none,.bin .lss false (.t 11) (.t 13)⟩]) (.cond (.t 14) .skip (.exit 0))) (.seq (.block 1 (.seq (.dreg [[],[],[0,1],[2,0,1],[],[],[4,5],[6,4,5],[3,2,0,1,7,6,4,5]] [⟨some 17,none,.mv (.t 0)⟩,⟨some 18,none,.mv (.t 5)⟩,⟨some 19,none,.iaddr 1 (.t 17) (.t 18)⟩,⟨some 20,none,.load false 1 (.t 19)⟩,⟨some 21,none,.mv (.t 1)⟩,⟨some 22,none,.mv (.t 5)⟩,⟨some 23,none,.iaddr 1 (.t 21) (.t 22)⟩,⟨some 24,none,.load false 1 (.t 23)⟩,⟨some 25,none,.bin .neq false (.t 20) (.t 24)⟩]) (.cond (.t 25) (.seq (.reg [⟨some 4,none,.mv (.c (.bool false))⟩]) .ret) .skip))) (.reg [⟨some 15,none,.mv (.t 5)⟩,⟨some 16,none,.bin .add false (.t 15) (.c (.int .i64 1))⟩,⟨some 5,none,.mv (.t 16)⟩])))))) (.seq (.reg [⟨some 4,none,.mv (.c (.bool true))⟩]) .ret))))
theorem Lk:Ao Tryz.prog 101=some ⟨26,GI,[(.tmp 4)]⟩:=by kernel_rfl
theorem GJ:modes 101=⟨[],.asis,none,false⟩:=by unfold modes; rfl
abbrev LL (xs:List ByteArray):Prop:=xs.length+Gf xs≤1048576→E 101 [.arr (xs.map (fun s=>[D.str s])),.arr (xs.map (fun s=>[D.str s]))] []=some (.bool true,[])
theorem QY (xs:List ByteArray):LL xs:=by
 intro hb
 refine Ak Lk GJ (of_decide_eq_true rfl) ?_
 simp (disch:=omega) only [GI,go_sem,Ab]
 refine go_loop (α:=Int) (fun i=>⟨slots 26 0 [(0,.arr (xs.map (fun s=>[D.str s]))),(1,.arr (xs.map (fun s=>[D.str s]))),(5,.int .i64 i)],[]⟩) (fun i=>∃ k:Nat,i=k∧k≤xs.length) (fun i=>xs.length-i.toNat) 0 ⟨0,rfl,zI _⟩ (by simp (disch:=omega) only [go_sem,Ab]) ?_
 ·rintro i ⟨k,rfl,hk⟩
  obtain ⟨i,hi⟩:∃ i:Int,i=(k:Int):=⟨_,rfl⟩
  rw [←hi]
  have hn:i.toNat=k:=by omega
  rcases zE k xs.length with hlt | hge
  ·have hg:=get_at (fun s=>[D.str s]) hlt
   simp (disch:=omega) only [go_sem,Ab,hn,hg,Da]
   refine ⟨i+1,⟨k+1,by omega,hlt⟩,by omega,?_⟩
   trivial
  ·obtain rfl:k=xs.length:=by omega
   simp (disch:=omega) only [go_sem,Ab,hn]
def Jm:SC:=(.seq (.reg [⟨some 2,none,.boxv 33 2 (.t 0)⟩,⟨some 3,none,.boxv 33 2 (.t 1)⟩,⟨some 4,none,.mv (.c (.bool false))⟩]) (.seq (.seq (.reg [⟨some 5,none,.faddr 0 (.t 2)⟩,⟨some 6,none,.load false 1 (.t 5)⟩,⟨some 7,none,.faddr 0 (.t 3)⟩,⟨some 8,none,.load false 1 (.t 7)⟩,⟨some 9,none,.bin .neq false (.t 6) (.t 8)⟩]) (.cond (.t 9) (.seq (.reg [⟨some 4,none,.mv (.c (.bool false))⟩]) .ret) .skip)) (.seq (.seq (.reg [⟨some 10,none,.faddr 1 (.t 2)⟩,⟨some 11,none,.load false 1 (.t 10)⟩,⟨some 12,none,.faddr 1 (.t 3)⟩,⟨some 13,none,.load false 1 (.t 12)⟩,⟨some 14,none,.call 100 [(.t 11),(.t 13)]⟩,⟨some 15,none,.un .not (.t 14)⟩]) (.cond (.t 15) (.seq (.reg [⟨some 4,none,.mv (.c (.bool false))⟩]) .ret) .skip)) (.seq (.reg [⟨some 4,none,.mv (.c (.bool true))⟩]) .ret))))
theorem Og:Ao Tryz.prog 44=some ⟨16,Jm,[(.tmp 4)]⟩:=by kernel_rfl
theorem Gb:modes 44=⟨[],.asis,none,false⟩:=by unfold modes; rfl
def Ij:SC:=(.seq (.reg [⟨some 4,none,.mv (.c (.bool false))⟩]) (.seq (.seq (.reg [⟨some 6,none,.mv (.t 0)⟩,⟨some 7,none,.len false (.t 6)⟩,⟨some 8,none,.mv (.t 1)⟩,⟨some 9,none,.len false (.t 8)⟩,⟨some 10,none,.bin .neq false (.t 7) (.t 9)⟩]) (.cond (.t 10) (.seq (.reg [⟨some 4,none,.mv (.c (.bool false))⟩]) .ret) .skip)) (.seq (.seq (.reg [⟨some 5,none,.mv (.c (.int .i64 0))⟩]) (.block 0 (.loop [1,1,0,0,0,1,0,0,0,0,0,0,0,0,0,0,0,0,0,0,0,0,0,0,0,0,0] (.seq (.seq (.reg [⟨some 11,none,.mv (.t 5)⟩,⟨some 12,none,.mv (.t 0)⟩,⟨some 13,none,.len false (.t 12)⟩,⟨some 14,none,.bin .lss false (.t 11) (.t 13)⟩]) (.cond (.t 14) .skip (.exit 0))) (.seq (.block 1 (.seq (.dreg [[],[],[0,1],[2,0,1],[],[],[4,5],[6,4,5],[3,2,0,1,7,6,4,5],[8,3,2,0,1,7,6,4,5]] [⟨some 17,none,.mv (.t 0)⟩,⟨some 18,none,.mv (.t 5)⟩,⟨some 19,none,.iaddr 2 (.t 17) (.t 18)⟩,⟨some 20,none,.load true 2 (.t 19)⟩,⟨some 21,none,.mv (.t 1)⟩,⟨some 22,none,.mv (.t 5)⟩,⟨some 23,none,.iaddr 2 (.t 21) (.t 22)⟩,⟨some 24,none,.load true 2 (.t 23)⟩,⟨some 25,none,.call 44 [(.t 20),(.t 24)]⟩,⟨some 26,none,.un .not (.t 25)⟩]) (.cond (.t 26) (.seq (.reg [⟨some 4,none,.mv (.c (.bool false))⟩]) .ret) .skip))) (.reg [⟨some 15,none,.mv (.t 5)⟩,⟨some 16,none,.bin .add false (.t 15) (.c (.int .i64 1))⟩,⟨some 5,none,.mv (.t 16)⟩])))))) (.seq (.reg [⟨some 4,none,.mv (.c (.bool true))⟩]) .ret))))
theorem N2:Ao Tryz.prog 100=some ⟨27,Ij,[(.tmp 4)]⟩:=by kernel_rfl
theorem Ik:modes 100=⟨[],.asis,none,false⟩:=by unfold modes; rfl
abbrev Kw (x:Tm):Prop:=x.bulk≤1048576→E 44 [x.sv,x.sv] []=some (.bool true,[])
abbrev OZ (xs:List Tm):Prop:=xs.length+Tm.sumB xs≤1048576→E 100 [.arr (xs.map Tm.d),.arr (xs.map Tm.d)] []=some (.bool true,[])
theorem PK (xs:List Tm) (h:∀ x∈xs,Kw x):OZ xs:=by
 intro hb
 refine Ak N2 Ik (of_decide_eq_true rfl) ?_
 simp (disch:=omega) only [Ij,go_sem,Ab]
 refine go_loop (α:=Int) (fun i=>⟨slots 27 0 [(0,.arr (xs.map Tm.d)),(1,.arr (xs.map Tm.d)),(5,.int .i64 i)],[]⟩) (fun i=>∃ k:Nat,i=k∧k≤xs.length) (fun i=>xs.length-i.toNat) 0 ⟨0,rfl,zI _⟩ (by simp (disch:=omega) only [go_sem,Ab]) ?_
 ·rintro i ⟨k,rfl,hk⟩
  obtain ⟨i,hi⟩:∃ i:Int,i=(k:Int):=⟨_,rfl⟩
  rw [←hi]
  have hn:i.toNat=k:=by omega
  rcases zE k xs.length with hlt | hge
  ·have hg:=get_at Tm.d hlt
   rw [Tm.d_eq] at hg
   have hle:=Tm.bulk_le xs k hlt
   have hc:=h xs[k] (zD hlt) (by omega)
   simp (disch:=omega) only [go_sem,Ab,hn,hg,hc,Gb]
   refine ⟨i+1,⟨k+1,by omega,hlt⟩,by omega,?_⟩
   trivial
  ·obtain rfl:k=xs.length:=by omega
   simp (disch:=omega) only [go_sem,Ab,hn]
theorem QZ (x:Tm) (h_args:OZ x.args):Kw x:=by
 intro hb
 have qb:=Tm.bulk_eq x
 replace h_args:=h_args (by omega)
 refine Ak Og Gb (of_decide_eq_true rfl) ?_
 simp (disch:=omega) only [Jm,go_sem,Ab,h_args,Ik,Da]
theorem Ra (x:Tm):Kw x:=QZ x (PK x.args fun y hy=>Ra y)
termination_by SizeOf.sizeOf x
decreasing_by exact Tm.lt_of_mem hy
def GK:SC:=(.seq (.reg [⟨some 2,none,.boxv 36 5 (.t 0)⟩,⟨some 3,none,.boxv 36 5 (.t 1)⟩,⟨some 4,none,.mv (.c (.bool false))⟩]) (.seq (.seq (.reg [⟨some 5,none,.faddr 0 (.t 2)⟩,⟨some 6,none,.load false 1 (.t 5)⟩,⟨some 7,none,.faddr 0 (.t 3)⟩,⟨some 8,none,.load false 1 (.t 7)⟩,⟨some 9,none,.bin .neq false (.t 6) (.t 8)⟩]) (.cond (.t 9) (.seq (.reg [⟨some 4,none,.mv (.c (.bool false))⟩]) .ret) .skip)) (.seq (.seq (.reg [⟨some 10,none,.faddr 1 (.t 2)⟩,⟨some 11,none,.load true 2 (.t 10)⟩,⟨some 12,none,.faddr 1 (.t 3)⟩,⟨some 13,none,.load true 2 (.t 12)⟩,⟨some 14,none,.call 44 [(.t 11),(.t 13)]⟩,⟨some 15,none,.un .not (.t 14)⟩]) (.cond (.t 15) (.seq (.reg [⟨some 4,none,.mv (.c (.bool false))⟩]) .ret) .skip)) (.seq (.seq (.reg [⟨some 16,none,.faddr 3 (.t 2)⟩,⟨some 17,none,.load false 1 (.t 16)⟩,⟨some 18,none,.faddr 3 (.t 3)⟩,⟨some 19,none,.load false 1 (.t 18)⟩,⟨some 20,none,.bin .neq false (.t 17) (.t 19)⟩]) (.cond (.t 20) (.seq (.reg [⟨some 4,none,.mv (.c (.bool false))⟩]) .ret) .skip)) (.seq (.seq (.reg [⟨some 21,none,.faddr 4 (.t 2)⟩,⟨some 22,none,.load false 1 (.t 21)⟩,⟨some 23,none,.faddr 4 (.t 3)⟩,⟨some 24,none,.load false 1 (.t 23)⟩,⟨some 25,none,.call 45 [(.t 22),(.t 24)]⟩,⟨some 26,none,.un .not (.t 25)⟩]) (.cond (.t 26) (.seq (.reg [⟨some 4,none,.mv (.c (.bool false))⟩]) .ret) .skip)) (.seq (.reg [⟨some 4,none,.mv (.c (.bool true))⟩]) .ret))))))
theorem Ll:Ao Tryz.prog 11=some ⟨27,GK,[(.tmp 4)]⟩:=by kernel_rfl
theorem BA:modes 11=⟨[],.asis,none,false⟩:=by unfold modes; rfl
def FN:SC:=(.seq (.reg [⟨some 4,none,.mv (.c (.bool false))⟩]) (.seq (.seq (.reg [⟨some 6,none,.mv (.t 0)⟩,⟨some 7,none,.len false (.t 6)⟩,⟨some 8,none,.mv (.t 1)⟩,⟨some 9,none,.len false (.t 8)⟩,⟨some 10,none,.bin .neq false (.t 7) (.t 9)⟩]) (.cond (.t 10) (.seq (.reg [⟨some 4,none,.mv (.c (.bool false))⟩]) .ret) .skip)) (.seq (.seq (.reg [⟨some 5,none,.mv (.c (.int .i64 0))⟩]) (.block 0 (.loop [1,1,0,0,0,1,0,0,0,0,0,0,0,0,0,0,0,0,0,0,0,0,0,0,0,0,0] (.seq (.seq (.reg [⟨some 11,none,.mv (.t 5)⟩,⟨some 12,none,.mv (.t 0)⟩,⟨some 13,none,.len false (.t 12)⟩,⟨some 14,none,.bin .lss false (.t 11) (.t 13)⟩]) (.cond (.t 14) .skip (.exit 0))) (.seq (.block 1 (.seq (.dreg [[],[],[0,1],[2,0,1],[],[],[4,5],[6,4,5],[3,2,0,1,7,6,4,5],[8,3,2,0,1,7,6,4,5]] [⟨some 17,none,.mv (.t 0)⟩,⟨some 18,none,.mv (.t 5)⟩,⟨some 19,none,.iaddr 5 (.t 17) (.t 18)⟩,⟨some 20,none,.load true 5 (.t 19)⟩,⟨some 21,none,.mv (.t 1)⟩,⟨some 22,none,.mv (.t 5)⟩,⟨some 23,none,.iaddr 5 (.t 21) (.t 22)⟩,⟨some 24,none,.load true 5 (.t 23)⟩,⟨some 25,none,.call 11 [(.t 20),(.t 24)]⟩,⟨some 26,none,.un .not (.t 25)⟩]) (.cond (.t 26) (.seq (.reg [⟨some 4,none,.mv (.c (.bool false))⟩]) .ret) .skip))) (.reg [⟨some 15,none,.mv (.t 5)⟩,⟨some 16,none,.bin .add false (.t 15) (.c (.int .i64 1))⟩,⟨some 5,none,.mv (.t 16)⟩])))))) (.seq (.reg [⟨some 4,none,.mv (.c (.bool true))⟩]) .ret))))
theorem Kx:Ao Tryz.prog 45=some ⟨27,FN,[(.tmp 4)]⟩:=by kernel_rfl
theorem FO:modes 45=⟨[],.asis,none,false⟩:=by unfold modes; rfl
abbrev FP (x:Fm):Prop:=x.bulk≤1048576→E 11 [x.sv,x.sv] []=some (.bool true,[])
abbrev Ky (xs:List Fm):Prop:=xs.length+Fm.sumB xs≤1048576→E 45 [.arr (xs.map Fm.d),.arr (xs.map Fm.d)] []=some (.bool true,[])
theorem LZ (xs:List Fm) (h:∀ x∈xs,FP x):Ky xs:=by
 intro hb
 refine Ak Kx FO (of_decide_eq_true rfl) ?_
 simp (disch:=omega) only [FN,go_sem,Ab]
 refine go_loop (α:=Int) (fun i=>⟨slots 27 0 [(0,.arr (xs.map Fm.d)),(1,.arr (xs.map Fm.d)),(5,.int .i64 i)],[]⟩) (fun i=>∃ k:Nat,i=k∧k≤xs.length) (fun i=>xs.length-i.toNat) 0 ⟨0,rfl,zI _⟩ (by simp (disch:=omega) only [go_sem,Ab]) ?_
 ·rintro i ⟨k,rfl,hk⟩
  obtain ⟨i,hi⟩:∃ i:Int,i=(k:Int):=⟨_,rfl⟩
  rw [←hi]
  have hn:i.toNat=k:=by omega
  rcases zE k xs.length with hlt | hge
  ·have hg:=get_at Fm.d hlt
   rw [Fm.d_eq] at hg
   have hle:=Fm.bulk_le xs k hlt
   have hc:=h xs[k] (zD hlt) (by omega)
   simp (disch:=omega) only [go_sem,Ab,hn,hg,hc,BA]
   refine ⟨i+1,⟨k+1,by omega,hlt⟩,by omega,?_⟩
   trivial
  ·obtain rfl:k=xs.length:=by omega
   simp (disch:=omega) only [go_sem,Ab,hn]
theorem N3 (x:Fm) (h_atom:Kw x.atom) (h_parts:Ky x.parts):FP x:=by
 intro hb
 have qb:=Fm.bulk_eq x
 replace h_atom:=h_atom (by omega)
 replace h_parts:=h_parts (by omega)
 refine Ak Ll BA (of_decide_eq_true rfl) ?_
 simp (disch:=omega) only [GK,go_sem,Ab,h_atom,Gb,h_parts,FO,Da]
theorem FQ (x:Fm):FP x:=N3 x (Ra x.atom) (LZ x.parts fun y hy=>FQ y)
termination_by SizeOf.sizeOf x
decreasing_by exact Fm.lt_of_mem hy
def Ev:SC:=(.seq (.reg [⟨some 2,none,.boxv 70 7 (.t 0)⟩,⟨some 3,none,.boxv 70 7 (.t 1)⟩,⟨some 4,none,.mv (.c (.bool false))⟩]) (.seq (.seq (.reg [⟨some 5,none,.faddr 0 (.t 2)⟩,⟨some 6,none,.load false 1 (.t 5)⟩,⟨some 7,none,.faddr 0 (.t 3)⟩,⟨some 8,none,.load false 1 (.t 7)⟩,⟨some 9,none,.bin .neq false (.t 6) (.t 8)⟩]) (.cond (.t 9) (.seq (.reg [⟨some 4,none,.mv (.c (.bool false))⟩]) .ret) .skip)) (.seq (.seq (.reg [⟨some 10,none,.faddr 1 (.t 2)⟩,⟨some 11,none,.load false 1 (.t 10)⟩,⟨some 12,none,.faddr 1 (.t 3)⟩,⟨some 13,none,.load false 1 (.t 12)⟩,⟨some 14,none,.call 101 [(.t 11),(.t 13)]⟩,⟨some 15,none,.un .not (.t 14)⟩]) (.cond (.t 15) (.seq (.reg [⟨some 4,none,.mv (.c (.bool false))⟩]) .ret) .skip)) (.seq (.seq (.reg [⟨some 16,none,.faddr 2 (.t 2)⟩,⟨some 17,none,.load true 5 (.t 16)⟩,⟨some 18,none,.faddr 2 (.t 3)⟩,⟨some 19,none,.load true 5 (.t 18)⟩,⟨some 20,none,.call 11 [(.t 17),(.t 19)]⟩,⟨some 21,none,.un .not (.t 20)⟩]) (.cond (.t 21) (.seq (.reg [⟨some 4,none,.mv (.c (.bool false))⟩]) .ret) .skip)) (.seq (.reg [⟨some 4,none,.mv (.c (.bool true))⟩]) .ret)))))
theorem IQ:Ao Tryz.prog 46=some ⟨22,Ev,[(.tmp 4)]⟩:=by kernel_rfl
theorem Ew:modes 46=⟨[],.asis,none,false⟩:=by unfold modes; rfl
def Eg:SC:=(.seq (.reg [⟨some 4,none,.mv (.c (.bool false))⟩]) (.seq (.seq (.reg [⟨some 6,none,.mv (.t 0)⟩,⟨some 7,none,.len false (.t 6)⟩,⟨some 8,none,.mv (.t 1)⟩,⟨some 9,none,.len false (.t 8)⟩,⟨some 10,none,.bin .neq false (.t 7) (.t 9)⟩]) (.cond (.t 10) (.seq (.reg [⟨some 4,none,.mv (.c (.bool false))⟩]) .ret) .skip)) (.seq (.seq (.reg [⟨some 5,none,.mv (.c (.int .i64 0))⟩]) (.block 0 (.loop [1,1,0,0,0,1,0,0,0,0,0,0,0,0,0,0,0,0,0,0,0,0,0,0,0,0,0] (.seq (.seq (.reg [⟨some 11,none,.mv (.t 5)⟩,⟨some 12,none,.mv (.t 0)⟩,⟨some 13,none,.len false (.t 12)⟩,⟨some 14,none,.bin .lss false (.t 11) (.t 13)⟩]) (.cond (.t 14) .skip (.exit 0))) (.seq (.block 1 (.seq (.dreg [[],[],[0,1],[2,0,1],[],[],[4,5],[6,4,5],[3,2,0,1,7,6,4,5],[8,3,2,0,1,7,6,4,5]] [⟨some 17,none,.mv (.t 0)⟩,⟨some 18,none,.mv (.t 5)⟩,⟨some 19,none,.iaddr 7 (.t 17) (.t 18)⟩,⟨some 20,none,.load true 7 (.t 19)⟩,⟨some 21,none,.mv (.t 1)⟩,⟨some 22,none,.mv (.t 5)⟩,⟨some 23,none,.iaddr 7 (.t 21) (.t 22)⟩,⟨some 24,none,.load true 7 (.t 23)⟩,⟨some 25,none,.call 46 [(.t 20),(.t 24)]⟩,⟨some 26,none,.un .not (.t 25)⟩]) (.cond (.t 26) (.seq (.reg [⟨some 4,none,.mv (.c (.bool false))⟩]) .ret) .skip))) (.reg [⟨some 15,none,.mv (.t 5)⟩,⟨some 16,none,.bin .add false (.t 15) (.c (.int .i64 1))⟩,⟨some 5,none,.mv (.t 16)⟩])))))) (.seq (.reg [⟨some 4,none,.mv (.c (.bool true))⟩]) .ret))))
theorem Il:Ao Tryz.prog 12=some ⟨27,Eg,[(.tmp 4)]⟩:=by kernel_rfl
theorem BH:modes 12=⟨[],.asis,none,false⟩:=by unfold modes; rfl
abbrev Fl (x:Df):Prop:=x.bulk≤1048576→E 46 [x.sv,x.sv] []=some (.bool true,[])
abbrev H1 (xs:List Df):Prop:=xs.length+Df.sumB xs≤1048576→E 12 [.arr (xs.map Df.d),.arr (xs.map Df.d)] []=some (.bool true,[])
theorem JH (xs:List Df) (h:∀ x∈xs,Fl x):H1 xs:=by
 intro hb
 refine Ak Il BH (of_decide_eq_true rfl) ?_
 simp (disch:=omega) only [Eg,go_sem,Ab]
 refine go_loop (α:=Int) (fun i=>⟨slots 27 0 [(0,.arr (xs.map Df.d)),(1,.arr (xs.map Df.d)),(5,.int .i64 i)],[]⟩) (fun i=>∃ k:Nat,i=k∧k≤xs.length) (fun i=>xs.length-i.toNat) 0 ⟨0,rfl,zI _⟩ (by simp (disch:=omega) only [go_sem,Ab]) ?_
 ·rintro i ⟨k,rfl,hk⟩
  obtain ⟨i,hi⟩:∃ i:Int,i=(k:Int):=⟨_,rfl⟩
  rw [←hi]
  have hn:i.toNat=k:=by omega
  rcases zE k xs.length with hlt | hge
  ·have hg:=get_at Df.d hlt
   rw [Df.d_eq] at hg
   have hle:=Df.bulk_le xs k hlt
   have hc:=h xs[k] (zD hlt) (by omega)
   simp (disch:=omega) only [go_sem,Ab,hn,hg,hc,Ew]
   refine ⟨i+1,⟨k+1,by omega,hlt⟩,by omega,?_⟩
   trivial
  ·obtain rfl:k=xs.length:=by omega
   simp (disch:=omega) only [go_sem,Ab,hn]
theorem Kz (x:Df) (h_vars:LL x.vars) (h_form:FP x.form):Fl x:=by
 intro hb
 have qb:=Df.bulk_eq x
 replace h_vars:=h_vars (by omega)
 replace h_form:=h_form (by omega)
 refine Ak IQ Ew (of_decide_eq_true rfl) ?_
 simp (disch:=omega) only [Ev,go_sem,Ab,h_vars,GJ,h_form,BA,Da]
theorem N4 (x:Df):Fl x:=Kz x (QY x.vars) (FQ x.form)
theorem Ma (xs:List Df):H1 xs:=JH xs fun x _=>N4 x
noncomputable def Yh (s u:Sb):Bool:=(Yg s u).ok
def Hk:SC:=(.seq (.reg [⟨some 3,none,.boxv 124 1 (.t 0)⟩,⟨some 5,none,.boxv 33 2 (.t 2)⟩,⟨some 6,none,.alloc 124 [.nil]⟩]) (.seq (.seq (.reg [⟨some 9,none,.faddr 0 (.t 5)⟩,⟨some 10,none,.load false 1 (.t 9)⟩,⟨some 11,none,.mv (.t 1)⟩,⟨some 12,none,.bin .eql false (.t 10) (.t 11)⟩]) (.cond (.t 12) (.seq (.reg [⟨some 13,none,.load true 1 (.t 3)⟩,⟨none,none,(.store 1 (.t 6) (.t 13))⟩]) .ret) .skip)) (.seq (.reg [⟨some 7,none,.mv (.c (.int .i64 0))⟩]) (.seq (.block 0 (.loop [0,1,0,1,0,1,1,1,0,0,0,0,0,0,0,0,0,0,0,0,0,0,0,0,0,0,0,0,0,0,0,0,0,0,0,0,0,0,0,0,0,0,0,0,0,0,0,0,0,0,0] (.seq (.seq (.reg [⟨some 14,none,.mv (.t 7)⟩,⟨some 15,none,.faddr 0 (.t 3)⟩,⟨some 16,none,.load false 1 (.t 15)⟩,⟨some 17,none,.len false (.t 16)⟩,⟨some 18,none,.bin .lss false (.t 14) (.t 17)⟩,⟨some 19,none,.mv (.t 18)⟩,⟨(some 20),(some (19,true)),(.faddr 0 (.t 3))⟩,⟨(some 21),(some (19,true)),(.load false 1 (.t 20))⟩,⟨(some 22),(some (19,true)),(.mv (.t 7))⟩,⟨(some 23),(some (19,true)),(.iaddr 3 (.t 21) (.t 22))⟩,⟨(some 24),(some (19,true)),(.faddr 0 (.t 23))⟩,⟨(some 25),(some (19,true)),(.load false 1 (.t 24))⟩,⟨(some 26),(some (19,true)),(.mv (.t 1))⟩,⟨(some 27),(some (19,true)),(.bin .lss false (.t 25) (.t 26))⟩,⟨some 28,none,.pick (.t 19) (.t 27) (.c (.bool false))⟩]) (.cond (.t 28) .skip (.exit 0))) (.block 1 (.reg [⟨some 29,none,.mv (.t 7)⟩,⟨some 30,none,.bin .add false (.t 29) (.c (.int .i64 1))⟩,⟨some 7,none,.mv (.t 30)⟩]))))) (.seq (.reg [⟨(some 31),none,(.mkrow 168 3 [(.str ⟨#[]⟩),(.str ⟨#[]⟩),.nil] 0 [])⟩,⟨some 32,none,.faddr 0 (.t 3)⟩,⟨some 33,none,.load false 1 (.t 32)⟩,⟨some 34,none,.mv (.t 7)⟩,⟨some 35,none,.slice false 3 (.t 33) none (some (.t 34))⟩,⟨(some 36),none,(.append 168 3 56 [(.str ⟨#[]⟩),(.str ⟨#[]⟩),.nil] (.t 31) (.t 35))⟩,⟨some 8,none,.mv (.t 36)⟩]) (.seq (.reg [⟨some 37,none,.mv (.t 8)⟩,⟨some 38,none,.mv (.t 1)⟩,⟨some 39,none,.load true 2 (.t 5)⟩,⟨some 40,none,.call 81 [(.t 39)]⟩,⟨(some 41),none,(.build [(.str ⟨#[]⟩),(.str ⟨#[]⟩),.nil] [(0,(1,(.t 38))),(1,(2,(.t 40)))])⟩,⟨(some 42),none,(.mkrow 168 3 [(.str ⟨#[]⟩),(.str ⟨#[]⟩),.nil] 1 [(0,(.t 41))])⟩,⟨(some 43),none,(.append 168 3 56 [(.str ⟨#[]⟩),(.str ⟨#[]⟩),.nil] (.t 37) (.t 42))⟩,⟨some 8,none,.mv (.t 43)⟩]) (.seq (.reg [⟨some 44,none,.mv (.t 8)⟩,⟨some 45,none,.faddr 0 (.t 3)⟩,⟨some 46,none,.load false 1 (.t 45)⟩,⟨some 47,none,.mv (.t 7)⟩,⟨some 48,none,.slice false 3 (.t 46) (some (.t 47)) none⟩,⟨(some 49),none,(.append 168 3 56 [(.str ⟨#[]⟩),(.str ⟨#[]⟩),.nil] (.t 44) (.t 48))⟩,⟨some 50,none,.build [.nil] [(0,(1,(.t 49)))]⟩,⟨none,none,(.store 1 (.t 6) (.t 50))⟩]) .ret)))))))
theorem K0:Ao Tryz.prog 82=some ⟨51,Hk,[(.cell 6 true 1)]⟩:=by kernel_rfl
theorem E8:modes 82=⟨[],.frz,none,false⟩:=by unfold modes; rfl
noncomputable def Sb.put (x:Sb) (b:Bd):Sb:=bif dec (b.term.name=b.var) then x else ⟨DC x.binds b⟩
theorem Bd.Wy (xs:List Bd) (k:Nat):((xs.map Bd.d).take k).map (fun x=>x.map D.ot)=(xs.take k).map fun b=>b.d.map D.ot:=by
 rw [←List.map_take,List.map_map]; rfl
theorem Bd.Wz (xs:List Bd) (k:Nat):((xs.map Bd.d).drop k).map (fun x=>x.map D.ot)=(xs.drop k).map fun b=>b.d.map D.ot:=by
 rw [←List.map_drop,List.map_map]; rfl
theorem Bd.al3 (xs:List Bd):((xs.map fun b=>b.d.map D.ot).all fun l=>l.length == 3)=true:=by
 rw [List.all_map,zW]
 intro x _
 show ((x.d.map D.ot).length == 3)=true
 rw [Bd.d_eq]; rfl
theorem Bd.Yq (xs:List Bd):((xs.map Bd.d).all fun l=>l.length == 3)=true:=by
 rw [List.all_map,zW]
 intro x _
 show (x.d.length == 3)=true
 rw [Bd.d_eq]; rfl
theorem Bd.dfu:∀ xs:List Bd,OT.A7 (xs.map fun b=>b.d.map D.ot)=true
 | []=>rfl
 | x :: xs=>by rw [zA,Bd.d_eq]; simp [OT.A7,OT.BL,OT.full,D.ot,Bd.dfu xs]
theorem Bd.der:∀ xs:List Bd,OT.erss (xs.map fun b=>b.d.map D.ot)=xs.map Bd.d
 | []=>rfl
 | x :: xs=>by rw [zA,zA,Bd.d_eq]; simp [OT.erss,OT.ers,OT.er,D.ot,Bd.der xs]
theorem TF {xs:List Bd} {n:ByteArray} {k:Nat} (h:k+B5 (xs.drop k) n=B5 xs n) (hk:k<xs.length):(strLt xs[k].var n=true∧k+1+B5 (xs.drop (k+1)) n=B5 xs n)∨(strLt xs[k].var n=false∧k=B5 xs n):=by
 rw [zB hk,B5] at h
 cases hq:strLt xs[k].var n with
 | true=>rw [hq] at h; simp only [cond_true,if_true] at h; exact .inl ⟨rfl,by omega⟩
 | false=>rw [hq] at h; simp only [cond_false,yC,if_false] at h; exact .inr ⟨rfl,by omega⟩
theorem W0 (x:Sb) (n:ByteArray) (t:Tm) (hl:x.binds.length≤1048576) (ht:t.nodes≤1099511627776):E 82 [x.sv,.str n,t.sv] []=some ((x.put ⟨n,t⟩).sv,[]):=by
 have ho:=Kk t ht
 have e1:=Bd.Wy x.binds (B5 x.binds n)
 have e2:=Bd.Wz x.binds (B5 x.binds n)
 have e3:=Bd.al3 (x.binds.take (B5 x.binds n))
 have e4:=Bd.al3 (x.binds.drop (B5 x.binds n))
 have e5:=Bd.Yq x.binds
 have l1:=SK n x.binds
 have e6:(x.binds.map Bd.d).take x.binds.length=x.binds.map Bd.d:=List.take_of_length_le (by simp)
 have e7:(x.binds.take (B5 x.binds n)).length=B5 x.binds n:=by rw [yR]; omega
 have e8:(x.binds.drop (B5 x.binds n)).length=x.binds.length-B5 x.binds n:=List.length_drop
 have hin:=QR ⟨n,t⟩ x.binds
 have hx2:(x.binds.take (B5 x.binds n)).map (fun b=>b.d.map D.ot)++[[OT.str n,.str t.name,.sh (t.args.map Tm.d)]]++(x.binds.drop (B5 x.binds n)).map (fun b=>b.d.map D.ot)=(DC x.binds ⟨n,t⟩).map fun b=>b.d.map D.ot:=by
  rw [hin]
  simp only [yA,zA,List.append_assoc,List.cons_append,yL]
  rw [Bd.d_eq]; rfl
 have hfu:=Bd.dfu (DC x.binds ⟨n,t⟩)
 have her:=Bd.der (DC x.binds ⟨n,t⟩)
 have hsv:(Sb.mk (DC x.binds ⟨n,t⟩)).sv=.agg [.arr ((DC x.binds ⟨n,t⟩).map Bd.d)]:=rfl
 unfold Sb.put
 cases hq:dec (t.name=n) with
 | true =>
  simp only [hq,cond_true]
  refine Ak K0 E8 (of_decide_eq_true rfl) ?_
  simp (disch:=omega) only [Hk,go_sem,Ab,hq]
  try rfl
 | false =>
  simp only [hq,cond_false]
  rw [hsv]
  refine Ak K0 E8 (of_decide_eq_true rfl) ?_
  simp (disch:=omega) only [Hk,go_sem,Ab,hq]
  refine go_loop (α:=Int) (fun a=>⟨slots 51 0 [(1,.str n),(3,.ptr 0 0),(5,.ptr 1 0),(6,.ptr 2 0),(7,.int .i64 a)],[.box 124 [.arr (x.binds.map Bd.d)],.box 33 [.str t.name,.arr (t.args.map Tm.d)],.box 124 [.nil]]⟩) (fun a=>∃ k:Nat,a=k∧k≤(x.binds).length∧k+B5 (x.binds.drop k) n=B5 x.binds n) (fun a=>(x.binds).length-(a).toNat) 0 ⟨0,rfl,zI _,by rw [zH,Nat.zero_add]⟩ (by simp (disch:=omega) only [go_sem,Ab]) ?_
  rintro i ⟨k,hi,hk,hR⟩
  have hni:i.toNat=k:=by omega
  have hni1:(i+1).toNat=k+1:=by omega
  rcases zE k (x.binds).length with hlt | hge
  ·have hg:=get_at Bd.d hlt
   rw [Bd.d_eq] at hg
   rcases TF hR hlt with ⟨q,hR'⟩ | ⟨q,hk'⟩
   ·simp (disch:=omega) only [go_sem,Ab,hni,hg,q]
    exact ⟨i+1,⟨k+1,by omega,hlt,hR'⟩,by omega,by first | trivial | rfl⟩
   ·subst hk'
    simp (disch:=omega) only [go_sem,Ab,hni,hg,q,ho,e1,e2,e3,e4,e5,e6,e7,e8,hx2,hfu,her,List.length_append,zP,BN]
  ·obtain rfl:k=x.binds.length:=by omega
   have hk':x.binds.length=B5 x.binds n:=by rw [←hR,zF (zY _)]; simp [B5]
   rw [hk'] at hni
   simp (disch:=omega) only [go_sem,Ab,hni,ho,e1,e2,e3,e4,e5,e6,e7,e8,hx2,hfu,her,List.length_append,zP,BN]
theorem Sb.Rb {s:Sb} {n:ByteArray} {t:Tm} (h:s.look n=some t):(⟨n,t⟩:Bd)∈s.binds:=by
 cases hh:Hi s.binds n with
 | false=>rw [Sb.PG hh] at h; cases h
 | true =>
  have hlt:=Mm hh
  rw [Sb.Nt hh hlt] at h
  obtain rfl:=zM h
  have e:=SM hh hlt
  have h1:=zD hlt
  have h2:∀ c:Bd,c.var=n→(⟨n,c.term⟩:Bd)=c:=fun c e=>by rw [←e]
  rw [h2 _ e]; exact h1
theorem Sb.EJ {s:Sb} (hs:Ns s.binds) {n:ByteArray}:s.look n=none ↔ ∀ b∈s.binds,b.var≠n:=by
 cases hh:Hi s.binds n with
 | false =>
  rw [Sb.PG hh]
  refine ⟨fun _ b hb e=>?_,fun _=>rfl⟩
  rw [UV hs] at hh
  exact List.any_eq_false.1 hh b hb (A6 e)
 | true =>
  have hlt:=Mm hh
  rw [Sb.Nt hh hlt]
  exact ⟨fun h=>(by cases h),fun h=>absurd (SM hh hlt) (h _ (zD hlt))⟩
theorem Sb.LM {s:Sb} (hs:Ns s.binds) {b:Bd} (h:b∈s.binds):s.look b.var=some b.term:=by
 cases hq:s.look b.var with
 | none=>exact absurd rfl ((Sb.EJ hs).1 hq b h)
 | some t =>
  have h2:=Sb.Rb hq
  obtain ⟨i,hi,e1⟩:=z8 h
  obtain ⟨j,hj,e2⟩:=z8 h2
  have hij:i=j:=(List.getElem_inj (h₀:=by simpa using hi) (h₁:=by simpa using hj) (Nu hs)).1 (by simp only [yJ,e1,e2])
  subst hij
  rw [e1] at e2
  rw [e2]
def Sb.idem (s:Sb):Prop:=∀ w t,s.look w=some t→∀ v∈t.vs,s.look v=none
noncomputable def UW (x y:Tm):Bd:=bif BI x.name&&!(BI y.name&&strLt x.name y.name) then ⟨x.name,y⟩ else ⟨y.name,x⟩
noncomputable def Yi (b:Bd):Bool:=!dec (b.var∈b.term.vs)&&(Sb.mk [b]).ok
noncomputable def XH:Nat→Sb→List (Tm × Tm)→Option (Option Sb)
 | 0,_,_=>none
 | n+1,s,l=>match l with
  | []=>some (some s)
  | p :: l=>bif XE s p.1&&XE s p.2 then
    (bif dec (IL s p.1=IL s p.2) then XH n s l
    else bif BI (IL s p.1).name || BI (IL s p.2).name then
     (bif Yi (UW (IL s p.1) (IL s p.2))&&Yh s ⟨[UW (IL s p.1) (IL s p.2)]⟩ then XH n (Yg s ⟨[UW (IL s p.1) (IL s p.2)]⟩) l else some none)
    else bif dec ((IL s p.1).name=(IL s p.2).name)&&dec ((IL s p.1).args.length=(IL s p.2).args.length) then XH n s ((IL s p.1).args.zip (IL s p.2).args++l)
    else some none)
   else some none
def Yj:List (Tm × Tm)→Nat
 | []=>0
 | p :: l=>p.1.nodes+Yj l
structure uInv (s:Sb) (l:List (Tm × Tm)):Prop where
 ok:s.ok=true
 idem:s.idem
 ex:∀ p∈l,p.1.expr=true∧p.2.expr=true
 pq:∃ P Q,l=P++Q∧(∀ p∈P,p.1.ap s.look=p.1)∧Yj P≤30∧Q.length≤1+30*s.binds.length
theorem K1 {b c:Bd} {xs:List Bd}:c∈DC xs b ↔ c=b∨c∈xs:=by rw [(GA b xs).mem_iff,zQ]
theorem SN {xs:List Bd} (hs:Ns xs) {b:Bd} (hn:∀ c∈xs,c.var≠b.var):Ns (DC xs b):=by
 have h1:xs.Pairwise fun x y=>Ld x y=true:=by
  rw [zX]
  intro i j hi hj hij
  unfold Ld
  rw [FA (hs i j hij hj)]; rfl
 have h2:=LH b xs h1
 have h3:((DC xs b).map Bd.var).Nodup:=by
  rw [((GA b xs).map Bd.var).nodup_iff,zA,List.nodup_cons]
  exact ⟨fun h=>by
   obtain ⟨c,hc,e⟩:=List.mem_map.1 h
   exact hn c hc e,Nu hs⟩
 intro j k hjk hk
 have a1:=zX.1 h2 j k (by omega) hk hjk
 unfold Ld at a1
 have a2:strLt (DC xs b)[k].var (DC xs b)[j].var=false:=by simpa using a1
 cases a3:strLt (DC xs b)[j].var (DC xs b)[k].var with
 | true=>rfl
 | false =>
  have e:=HW a3 a2
  unfold List.Nodup at h3
  have h4:=zX.1 h3 j k (by rw [zJ]; omega) (by rw [zJ]; exact hk) hjk
  simp only [yJ] at h4
  exact absurd e h4
theorem UX {s:Sb} (hs:Ns s.binds) {n:ByteArray} {t:Tm} (hn:s.look n=none):(Sb.mk (DC s.binds ⟨n,t⟩)).look=NT s.look n t:=by
 have hk:=(Sb.EJ hs).1 hn
 have hu:Ns (DC s.binds ⟨n,t⟩):=SN hs hk
 funext q
 unfold NT
 by_cases hq:q=n
 ·subst hq
  rw [A6 rfl,cond_true]
  exact Sb.LM (s:=⟨DC s.binds ⟨q,t⟩⟩) (b:=⟨q,t⟩) hu (K1.2 (.inl rfl))
 ·rw [An hq,cond_false]
  cases h:s.look q with
  | none =>
   rw [Sb.EJ (s:=⟨DC s.binds ⟨n,t⟩⟩) hu]
   intro b hb
   rcases K1.1 hb with rfl | hb
   ·exact fun e=>hq e.symm
   ·exact (Sb.EJ hs).1 h b hb
  | some u=>exact Sb.LM (s:=⟨DC s.binds ⟨n,t⟩⟩) (b:=⟨q,u⟩) hu (K1.2 (.inr (Sb.Rb h)))
theorem Fm.Rc (n:Int):∀ xs:List Fm,Fm.U3 n xs=xs.any (Fm.has n)
 | []=>by rw [Fm.U3]; rfl
 | x :: xs=>by rw [Fm.U3,Fm.Rc n xs]; rfl
theorem Fm.has_eq (n:Int) (x:Fm):x.has n=(dec (n=x.op) || x.parts.any (Fm.has n)):=by
 obtain ⟨op,a,v,ps⟩:=x
 rw [Fm.has,Fm.Rc]; rfl
theorem Fm.W4 (ns:List Int) (x:Fm):x.hasS ns=((ns.any fun n=>dec (x.op=n)) || x.parts.any (Fm.hasS ns)):=by
 have hd:∀ n,dec (n=x.op)=dec (x.op=n):=fun n=>by
  by_cases h:n=x.op
  ·rw [A6 h,A6 h.symm]
  ·rw [An h,An (fun e=>h e.symm)]
 apply Bool.eq_iff_iff.2
 unfold Fm.hasS
 simp only [z4,yS]
 constructor
 ·rintro ⟨n,hn,h⟩
  rw [Fm.has_eq,z4,yS] at h
  rcases h with h | ⟨y,hy,h⟩
  ·exact .inl ⟨n,hn,by rw [←hd]; exact h⟩
  ·exact .inr ⟨y,hy,n,hn,h⟩
 ·rintro (⟨n,hn,h⟩ | ⟨y,hy,n,hn,h⟩)
  ·exact ⟨n,hn,by rw [Fm.has_eq,hd,h]; rfl⟩
  ·refine ⟨n,hn,?_⟩
   rw [Fm.has_eq,z4,yS]
   exact .inr ⟨y,hy,h⟩
noncomputable def uSb (vs:List ByteArray) (ts:List Tm):Nat→Sb
 | 0=>⟨[]⟩
 | k+1=>(uSb vs ts k).put ⟨vs.getD k ⟨#[]⟩,ts.getD k Tm.zero⟩
def varsUp (vs:List ByteArray):Prop:=(∀ v∈vs,BI v=true)∧∀ i j (hi:i<j) (hj:j<vs.length),strLt (vs[i]'(by omega)) vs[j]=true
theorem varsUp.at {vs:List ByteArray} (h:varsUp vs) {k:Nat} (hk:k<vs.length):BI (vs.getD k ⟨#[]⟩)=true:=by
 rw [zS,zN hk]
 exact h.1 _ (zD hk)
theorem varsUp.ne {vs:List ByteArray} (h:varsUp vs) {j k:Nat} (hj:j<k) (hk:k<vs.length):vs.getD j ⟨#[]⟩≠vs.getD k ⟨#[]⟩:=by
 rw [zS,zS,zN (by omega),zN hk]
 intro e
 have h1:=h.2 j k hj hk
 have e:vs[j]=vs[k]:=e
 rw [e] at h1
 have h2:=FA h1
 rw [h1] at h2; cases h2
theorem Pa {vs:List ByteArray} {ts:List Tm} {n:ByteArray}:∀ k,(∀ j,j<k→vs.getD j ⟨#[]⟩≠n)→G1 vs ts k n=none
 | 0,_=>rfl
 | k+1,h=>by
  rw [G1]
  unfold NT
  rw [An (fun e=>h k (by omega) e.symm),cond_false]
  exact Pa k fun j hj=>h j (by omega)
theorem Mn {vs:List ByteArray} {ts:List Tm} (hv:varsUp vs) {m:Nat} (ha:∀ a∈ts,a.nodes≤m) (h1:1≤m):∀ k,k≤vs.length→TB m (G1 vs ts k)
 | 0,_=>TB.none m
 | k+1,h=>by
  rw [G1]
  refine TB.put (Mn hv ha h1 k (by omega)) (hv.at (by omega)) ?_
  rw [zS]
  rcases zE k ts.length with h2 | h2
  ·rw [zN h2]; exact ha _ (zD h2)
  ·rw [yI h2]
   show Tm.zero.nodes≤m
   rw [Tm.nodes_eq]
   show 1+Tm.nodeS []≤m
   rw [Tm.nodeS]; omega
structure SbU (vs:List ByteArray) (ts:List Tm) (k:Nat) (s:Sb):Prop where
 up:Ns s.binds
 len:s.binds.length≤k
 mem:∀ b∈s.binds,∃ j,j<k∧b.var=vs.getD j ⟨#[]⟩∧b.term=ts.getD j Tm.zero
 look:∀ n,(s.look n).getD (.mk n [])=(G1 vs ts k n).getD (.mk n [])
theorem UY {vs:List ByteArray} {ts:List Tm} (hv:varsUp vs) (hl:vs.length≤ts.length) (ha:∀ a∈ts,a.names=true):∀ k,k≤vs.length→SbU vs ts k (uSb vs ts k)
 | 0,_=>⟨fun j k _ hk=>absurd hk (by simp [uSb]),by simp [uSb],fun b hb=>by simp [uSb] at hb,fun n=>by
  have:(uSb vs ts 0).look n=none:=(Sb.EJ (s:=uSb vs ts 0) (fun j k _ hk=>absurd hk (by simp [uSb]))).2 fun b hb=>by simp [uSb] at hb
  rw [this]; rfl⟩
 | k+1,hk=>by
  have ih:=UY hv hl ha k (by omega)
  have hka:k<ts.length:=by omega
  obtain ⟨v,hv0⟩:∃ v,v=vs.getD k ⟨#[]⟩:=⟨_,rfl⟩
  obtain ⟨a,ha0⟩:∃ a,a=ts.getD k Tm.zero:=⟨_,rfl⟩
  have hvv:BI v=true:=by rw [hv0]; exact hv.at (by omega)
  have han:a.names=true:=by
   rw [ha0,zS,zN hka]
   exact ha _ (zD hka)
  have hfresh:∀ b∈(uSb vs ts k).binds,b.var≠v:=fun b hb e=>by
   obtain ⟨j,hj,h1,_⟩:=ih.mem b hb
   exact hv.ne hj (by omega) (by rw [←h1,e,hv0])
  have hnone:(uSb vs ts k).look v=none:=(Sb.EJ ih.up).2 hfresh
  have henone:G1 vs ts k v=none:=Pa k fun j hj=>by rw [hv0]; exact hv.ne hj (by omega)
  show SbU vs ts (k+1) ((uSb vs ts k).put ⟨vs.getD k ⟨#[]⟩,ts.getD k Tm.zero⟩)
  rw [←hv0,← ha0]
  unfold Sb.put
  by_cases ht:a.name=v
  ·rw [A6 (show (Bd.mk v a).term.name=(Bd.mk v a).var from ht),cond_true]
   refine ⟨ih.up,by have:=ih.len; omega,fun b hb=>?_,fun n=>?_⟩
   ·obtain ⟨j,hj,h⟩:=ih.mem b hb
    exact ⟨j,by omega,h⟩
   ·rw [G1,← hv0,← ha0]
    unfold NT
    by_cases hn:n=v
    ·rw [A6 hn,cond_true,hn,hnone]
     have h0:a.args=[]:=Tm.Lb han (by rw [ht]; exact hvv)
     obtain ⟨nm,xs⟩:=a
     have h0:xs=[]:=h0
     have ht:nm=v:=ht
     rw [h0,ht]; rfl
    ·rw [An hn,cond_false]
     exact ih.look n
  ·rw [An (show ¬ (Bd.mk v a).term.name=(Bd.mk v a).var from ht),cond_false]
   refine ⟨SN ih.up hfresh,?_,fun b hb=>?_,fun n=>?_⟩
   ·show (DC (uSb vs ts k).binds ⟨v,a⟩).length≤k+1
    rw [(GA _ _).length_eq]
    have:=ih.len
    simp only [zL]; omega
   ·rcases K1.1 hb with rfl | hb
    ·exact ⟨k,by omega,hv0,ha0⟩
    ·obtain ⟨j,hj,h⟩:=ih.mem b hb
     exact ⟨j,by omega,h⟩
   ·rw [UX ih.up hnone,G1,← hv0,← ha0]
    unfold NT
    by_cases hn:n=v
    ·rw [A6 hn,cond_true]; rfl
    ·rw [An hn,cond_false]
     exact ih.look n
theorem Tm.SO {f g:ByteArray→Option Tm} (h:∀ n,(f n).getD (.mk n [])=(g n).getD (.mk n [])) (x:Tm):x.ap f=x.ap g:=by
 have ih:∀ y∈x.args,y.ap f=y.ap g:=fun y hy=>Tm.SO h y
 rw [Tm.Ni,Tm.Ni,Tm.IB,Tm.IB,h,yN ih]
termination_by SizeOf.sizeOf x
decreasing_by exact Tm.lt_of_mem hy
theorem Fm.Pb (e:TEnv):∀ xs:List Fm,Fm.QA e xs=xs.map (Fm.inst e)
 | []=>by rw [Fm.QA]; rfl
 | x :: xs=>by rw [Fm.QA,Fm.Pb e xs]; rfl
theorem Fm.Mo (e:TEnv) (x:Fm):x.inst e=bif dec (x.op=3) then .mk 3 (x.atom.rv e) ⟨#[]⟩ [] else .mk x.op x.atom x.var (x.parts.map (Fm.inst e)):=by
 obtain ⟨op,a,v,ps⟩:=x
 rw [Fm.inst,Fm.Pb]; rfl
theorem Fm.Pc (d:Df):∀ xs:List Fm,Fm.QB d xs=xs.map (Fm.unfV d)
 | []=>by rw [Fm.QB]; rfl
 | x :: xs=>by rw [Fm.QB,Fm.Pc d xs]; rfl
theorem Fm.Pd (d:Df):∀ xs:List Fm,Fm.QC d xs=xs.all (Fm.unfB d)
 | []=>by rw [Fm.QC]; rfl
 | x :: xs=>by rw [Fm.QC,Fm.Pd d xs]; rfl
theorem Fm.K2 (d:Df) (x:Fm):x.unfV d=bif dec (x.op=3)&&dec (x.atom.name=d.name) then (bif dec (x.atom.args.length=d.vars.length) then d.form.inst (G1 d.vars x.atom.args d.vars.length) else Fm.zero) else .mk x.op x.atom x.var (x.parts.map (Fm.unfV d)):=by
 obtain ⟨op,a,v,ps⟩:=x
 rw [Fm.unfV,Fm.Pc]; rfl
theorem Fm.PL (d:Df) (x:Fm):x.unfB d=bif dec (x.op=3)&&dec (x.atom.name=d.name) then dec (x.atom.args.length=d.vars.length) else x.parts.all (Fm.unfB d):=by
 obtain ⟨op,a,v,ps⟩:=x
 rw [Fm.unfB,Fm.Pd]; rfl
end Go.Proofs.YtmhjhclgihoaeaaGreat
