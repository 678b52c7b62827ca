/-
Texts of this proof,one behind the other. No conditions.
-/
import Derived.Test.YtemjhgboialjpaaGreatKLow
import Derived.Test.YtemjhgboialjpaaGreatKe
import Derived.Test.YtemjhgboialjpaaGreatKd
open Nat renaming reduceAdd→jA,reduceSub→jB,reduceLT→jC,reduceLeDiff→jD,reduceEqDiff→jE
open Int renaming reduceToNat→jF,toNat_natCast→jG,natCast_add→jH,natCast_one→jI,natCast_zero→jJ
open List renaming length_map→jK,length_cons→jL,length_nil→jM,replicate_succ→jN,replicate_zero→jO,cons_append→jP,nil_append→jQ
set_option linter.unusedSimpArgs false
set_option linter.unusedVariables false
set_option linter.unusedSectionVars false
namespace Go.Proofs.YtemjhgboialjpaaGreat
open Go.RowKit
attribute [local go_sem] pG iO aA.ok aA.next LOp.ok LOp.next bK.ok bK.out aN.ev bL aCN lJ kF rB V.fits V.leafy V.cells V.cell V.undef dI bZ bO Sh.size Hp.set Hp.del oD iF qO eX aA.dok aA.dres LOp.dok LOp.dout aDw aAX iV cJ yI Hp.turn veq gW hZ List.take_succ_cons List.take_zero List.take_nil List.drop_succ_cons List.drop_zero List.drop_nil List.set_cons_succ List.set_cons_zero List.getD_cons_succ List.getD_cons_zero jL jM List.map_cons List.map_nil List.all_cons List.all_nil List.mem_cons List.not_mem_nil jN jO jP jQ List.append_nil List.isEmpty_cons List.isEmpty_nil fL gL vV Option.getD_some Option.isSome_some Option.isSome_none Nat.add_eq Nat.zero_add Nat.add_zero true_and and_true and_self true_implies implies_true false_implies forall_const forall_eq forall_eq_or_imp ne_eq not_false_eq_true not_true_eq_false Bool.not_true Bool.not_false decide_true decide_false Bool.and_true Bool.true_and Bool.and_false Bool.false_and true_or or_true false_or or_false eq_self Bool.false_eq_true aKd aGV lP aB dX eS gK qQ nX qP iG jU eD jG Int.toNat_zero List.take_length
structure Tm where
 e:Int
 r:Int
 deriving DecidableEq,Inhabited
def Tm.v(t:Tm):V:= .agg [.int .i64 t.e, .int .i64 t.r]
theorem Tm.names_v(L:Nat→Prop)(t:Tm):t.v.names L:=by simp[Tm.v,V.names,bP]
def Tm.le(a b:Tm):Bool:=decide (a.e≤b.e)&&decide (a.r≤b.r)
def Tm.ok(t:Tm):Bool:=decide (0≤t.e)&&decide (t.e≤1048576)&&(decide (0≤t.r)&&decide (t.r≤1048576))
def Tm.less(a b:Tm):Bool:=decide (a.e<b.e)||(decide (a.e=b.e)&&decide (a.r<b.r))
theorem pP(n m:Int)(h:Hp):aW Tryz.prog 140 [.int .i64 n, .int .i64 m] h (.bool (decide (0≤n)&&decide (n≤m))):=by
 refine aR (fun L=>trivial) fun h' nx hh=>aD L.stamp_within_low fun hd=>?_
 simp only[jL,jM,jA,jB,jN,jO,jP,jQ,V.undef]
 by_cases h0:0≤n
 all_goals
  refine bC (bD ?_)
  refine aU 1 rfl (by simp only[L.stamp_within_r0,go_sem,reduceIte,jA,jB,jC,jD,reduceCtorEq,jE,jF];try omega) ?_
  simp only[L.stamp_within_r0,go_sem,reduceIte,jA,jB,jC,jD,reduceCtorEq,jE,jF]
  refine aJ (bC (bD ?_))
  refine aU 8 rfl (by simp only[L.stamp_within_r1,h0,go_sem,reduceIte,jA,jB,jC,jD,reduceCtorEq,jE,jF];try omega) ?_
  simp only[L.stamp_within_r1,h0,go_sem,reduceIte,jA,jB,jC,jD,reduceCtorEq,jE,jF]
  exact aJ (bJ ⟨h',Hp.le_refl _,rfl,rfl⟩)
theorem aFD(a b:Tm)(h:Hp):aW Tryz.prog 158 [a.v,b.v] h (.bool (a.le b)):=by
 refine aR (fun L=>trivial) fun h' nx hh=>aD L.stamp_AtMost_low fun hd=>?_
 simp only[jL,jM,jA,jB,jN,jO,jP,jQ,V.undef]
 by_cases h0:a.e≤b.e
 all_goals
  refine bC (bD ?_)
  refine aU 3 rfl (by simp only[L.stamp_AtMost_r0,Tm.v,go_sem,reduceIte,jA,jB,jC,jD,reduceCtorEq,jE,jF];try omega) ?_
  simp only[L.stamp_AtMost_r0,Tm.v,go_sem,reduceIte,jA,jB,jC,jD,reduceCtorEq,jE,jF]
  refine aJ (bC (bD ?_))
  refine aU 13 rfl (by simp only[L.stamp_AtMost_r1,Tm.v,h0,go_sem,reduceIte,jA,jB,jC,jD,reduceCtorEq,jE,jF];try omega) ?_
  simp only[L.stamp_AtMost_r1,Tm.v,h0,go_sem,reduceIte,jA,jB,jC,jD,reduceCtorEq,jE,jF]
  refine aJ (bJ ⟨h',aK hd (aK hd (Hp.le_refl _) (by omega) _) (by omega) _,?_,rfl⟩)
  simp[Tm.le,h0,lP]
theorem aDi(a b:Tm)(h:Hp):aW Tryz.prog 151 [a.v,b.v] h (.bool (a.le b)):=by
 refine aR (fun L=>trivial) fun h' nx hh=>aD L.corollaryref20_AtMost_low fun hd=>?_
 simp only[jL,jM,jA,jB,jN,jO,jP,jQ,V.undef]
 by_cases h0:b.e<a.e
 all_goals
  refine bC (bD ?_)
  refine aU 3 rfl (by simp only[L.corollaryref20_AtMost_r0,Tm.v,go_sem,reduceIte,jA,jB,jC,jD,reduceCtorEq,jE,jF];try omega) ?_
  simp only[L.corollaryref20_AtMost_r0,Tm.v,go_sem,reduceIte,jA,jB,jC,jD,reduceCtorEq,jE,jF]
  refine aJ (bC (bD ?_))
  refine aU 15 rfl (by simp only[L.corollaryref20_AtMost_r1,Tm.v,h0,go_sem,reduceIte,jA,jB,jC,jD,reduceCtorEq,jE,jF];try omega) ?_
  simp only[L.corollaryref20_AtMost_r1,Tm.v,h0,go_sem,reduceIte,jA,jB,jC,jD,reduceCtorEq,jE,jF]
  refine aJ (bJ ⟨h',aK hd (aK hd (Hp.le_refl _) (by omega) _) (by omega) _,?_,rfl⟩)
  simp[Tm.le,h0,lP]
  try (rw[Bool.eq_iff_iff];simp)
  try omega
theorem sJ(t:Tm)(h:Hp):aW Tryz.prog 73 [t.v] h (.bool t.ok):=by
 refine aR (fun L=>trivial) fun h' nx hh=>aD L.stamp_Right_low fun hd=>?_
 simp only[jL,jM,jA,jB,jN,jO,jP,jQ,V.undef]
 refine bC (bD ?_)
 refine aU 2 rfl (by simp only[L.stamp_Right_r0,Tm.v,go_sem,reduceIte,jA,jB,jC,jD,reduceCtorEq,jE,jF];try omega) ?_
 simp only[L.stamp_Right_r0,Tm.v,go_sem,reduceIte,jA,jB,jC,jD,reduceCtorEq,jE,jF]
 refine aJ (bC (bD ?_))
 refine aU 2 rfl (by simp only[L.stamp_Right_r1,Tm.v,go_sem,reduceIte,jA,jB,jC,jD,reduceCtorEq,jE,jF];try omega) ?_
 simp only[L.stamp_Right_r1,Tm.v,go_sem,reduceIte,jA,jB,jC,jD,reduceCtorEq,jE,jF]
 refine aM (pP _ _ _) rfl (aO _) ?_
 simp only[ go_sem,reduceIte,jA,jB,jC,jD,reduceCtorEq,jE,jF]
 generalize h0:(decide (0≤t.e)&&decide (t.e≤1048576))=c
 cases c
 ·refine aU 3 rfl (by simp only[L.stamp_Right_r1,go_sem,reduceIte,jA,jB,jC,jD,reduceCtorEq,jE,jF];try omega) ?_
  simp only[L.stamp_Right_r1,go_sem,reduceIte,jA,jB,jC,jD,reduceCtorEq,jE,jF]
  refine sS rfl (fun h=>by cases h) (fun _=>?_)
  refine aU 2 rfl (by simp only[L.stamp_Right_r1,go_sem,reduceIte,jA,jB,jC,jD,reduceCtorEq,jE,jF];try omega) ?_
  simp only[L.stamp_Right_r1,go_sem,reduceIte,jA,jB,jC,jD,reduceCtorEq,jE,jF]
  refine aJ (bJ (aF h' (aK hd (Hp.le_refl _) (by omega) _) ⟨?_,rfl⟩))
  simp[Tm.ok,h0]
 refine aU 3 rfl (by simp only[L.stamp_Right_r1,go_sem,reduceIte,jA,jB,jC,jD,reduceCtorEq,jE,jF];try omega) ?_
 simp only[L.stamp_Right_r1,go_sem,reduceIte,jA,jB,jC,jD,reduceCtorEq,jE,jF]
 refine sS rfl (fun _=>?_) (fun h=>absurd rfl h)
 refine aM (pP _ _ _) rfl (aO _) ?_
 simp only[ go_sem,reduceIte,jA,jB,jC,jD,reduceCtorEq,jE,jF]
 refine aU 2 rfl (by simp only[L.stamp_Right_r1,go_sem,reduceIte,jA,jB,jC,jD,reduceCtorEq,jE,jF];try omega) ?_
 simp only[L.stamp_Right_r1,go_sem,reduceIte,jA,jB,jC,jD,reduceCtorEq,jE,jF]
 refine aJ (bJ (aF h' (aK hd (Hp.le_refl _) (by omega) _) ⟨?_,rfl⟩))
 simp[Tm.ok,h0]
theorem sI(t:Tm)(h:Hp):aW Tryz.prog 103 [t.v] h t.v:=by
 refine aR (fun L=>t.names_v L) fun h' nx hh=>aD L.corollarylaw20_Time_low fun hd=>?_
 simp only[jL,jM,jA,jB,jN,jO,jP,jQ,V.undef]
 refine bC (bD ?_)
 refine aU 2 rfl (by simp only[L.corollarylaw20_Time_r0,Tm.v,go_sem,reduceIte,jA,jB,jC,jD,reduceCtorEq,jE,jF];try omega) ?_
 simp only[L.corollarylaw20_Time_r0,Tm.v,go_sem,reduceIte,jA,jB,jC,jD,reduceCtorEq,jE,jF]
 refine aJ (bC (bD ?_))
 refine aU 2 rfl (by simp only[L.corollarylaw20_Time_r1,Tm.v,go_sem,reduceIte,jA,jB,jC,jD,reduceCtorEq,jE,jF];try omega) ?_
 simp only[L.corollarylaw20_Time_r1,Tm.v,go_sem,reduceIte,jA,jB,jC,jD,reduceCtorEq,jE,jF]
 refine aJ (bJ (pV (by simp only[go_sem,reduceIte,jA,jB,jC,jD,reduceCtorEq,jE,jF]) h' (aK hd (aK hd (aK hd (Hp.le_refl _) (by omega) _) (by omega) _) (by omega) _) ⟨?_,rfl⟩))
 simp only[Tm.v,go_sem,reduceIte,jA,jB,jC,jD,reduceCtorEq,jE,jF]
abbrev tms(own:Own)(l:List Tm):V:= .sl (.agg 2) own (l.map Tm.v)
theorem aFf{α:Type} [Inhabited α](f:α→V)(l:List α)(k:Nat)(h:k<l.length):(l.map f).getD k (.tup [])=f l[k]:=by
 rw[List.getD_eq_getElem?_getD,List.getElem?_eq_getElem (by simpa using h)]
 simp
theorem mP(t:Tm)(h:Hp):aW Tryz.prog 78 [t.v] h (.bool t.ok):=by
 refine aR (fun L=>trivial) fun h' nx hh=>aD L.corollaryref20_Right_low fun hd=>?_
 simp only[jL,jM,jA,jB,jN,jO,jP,jQ,V.undef]
 by_cases h0:0≤t.e<;>by_cases h1:0≤t.r<;>by_cases h2:t.e≤1048576
 all_goals
  refine bC (bD ?_)
  refine aU 2 rfl (by simp only[L.corollaryref20_Right_r0,Tm.v,go_sem,reduceIte,jA,jB,jC,jD,reduceCtorEq,jE,jF];try omega) ?_
  simp only[L.corollaryref20_Right_r0,Tm.v,go_sem,reduceIte,jA,jB,jC,jD,reduceCtorEq,jE,jF]
  refine aJ (bC (bD ?_))
  refine aU 19 rfl (by simp only[L.corollaryref20_Right_r1,Tm.v,h0,h1,h2,go_sem,reduceIte,jA,jB,jC,jD,reduceCtorEq,jE,jF];try omega) ?_
  simp only[L.corollaryref20_Right_r1,Tm.v,h0,h1,h2,go_sem,reduceIte,jA,jB,jC,jD,reduceCtorEq,jE,jF]
  refine aJ (bJ (aF h' (aK hd (Hp.le_refl _) (by omega) _) ⟨?_,rfl⟩))
  simp[Tm.ok,h0,h1,h2]
theorem zX(a b:Tm)(h:Hp):aW Tryz.prog 152 [a.v,b.v] h (.bool (a.less b)):=by
 refine aR (fun L=>trivial) fun h' nx hh=>aD L.corollaryref20_Less_low fun hd=>?_
 simp only[jL,jM,jA,jB,jN,jO,jP,jQ,V.undef]
 by_cases h0:a.e<b.e
 ·refine bC (bD ?_)
  refine aU 3 rfl (by simp only[L.corollaryref20_Less_r0,Tm.v,go_sem,reduceIte,jA,jB,jC,jD,reduceCtorEq,jE,jF];try omega) ?_
  simp only[L.corollaryref20_Less_r0,Tm.v,go_sem,reduceIte,jA,jB,jC,jD,reduceCtorEq,jE,jF]
  refine aJ (bC (bD ?_))
  refine aU 20 rfl (by simp only[L.corollaryref20_Less_r1,Tm.v,h0,go_sem,reduceIte,jA,jB,jC,jD,reduceCtorEq,jE,jF];try omega) ?_
  simp only[L.corollaryref20_Less_r1,Tm.v,h0,go_sem,reduceIte,jA,jB,jC,jD,reduceCtorEq,jE,jF]
  refine aJ (bJ (aF h' (aK hd (aK hd (Hp.le_refl _) (by omega) _) (by omega) _) ⟨?_,rfl⟩))
  simp[Tm.less,h0]
 by_cases h1:a.e=b.e
 ·refine bC (bD ?_)
  refine aU 3 rfl (by simp only[L.corollaryref20_Less_r0,Tm.v,go_sem,reduceIte,jA,jB,jC,jD,reduceCtorEq,jE,jF];try omega) ?_
  simp only[L.corollaryref20_Less_r0,Tm.v,go_sem,reduceIte,jA,jB,jC,jD,reduceCtorEq,jE,jF]
  refine aJ (bC (bD ?_))
  have hb:(a.e==b.e)=true:=by simp[h1]
  refine aU 20 rfl (by simp only[L.corollaryref20_Less_r1,Tm.v,h0,hb,go_sem,reduceIte,jA,jB,jC,jD,reduceCtorEq,jE,jF];try omega) ?_
  simp only[L.corollaryref20_Less_r1,Tm.v,h0,hb,go_sem,reduceIte,jA,jB,jC,jD,reduceCtorEq,jE,jF]
  refine aJ (bJ (aF h' (aK hd (aK hd (Hp.le_refl _) (by omega) _) (by omega) _) ⟨?_,rfl⟩))
  simp[Tm.less,h0,h1]
 refine bC (bD ?_)
 refine aU 3 rfl (by simp only[L.corollaryref20_Less_r0,Tm.v,go_sem,reduceIte,jA,jB,jC,jD,reduceCtorEq,jE,jF];try omega) ?_
 simp only[L.corollaryref20_Less_r0,Tm.v,go_sem,reduceIte,jA,jB,jC,jD,reduceCtorEq,jE,jF]
 refine aJ (bC (bD ?_))
 have hb:(a.e==b.e)=false:=by simp[h1]
 refine aU 20 rfl (by simp only[L.corollaryref20_Less_r1,Tm.v,h0,hb,go_sem,reduceIte,jA,jB,jC,jD,reduceCtorEq,jE,jF];try omega) ?_
 simp only[L.corollaryref20_Less_r1,Tm.v,h0,hb,go_sem,reduceIte,jA,jB,jC,jD,reduceCtorEq,jE,jF]
 refine aJ (bJ (aF h' (aK hd (aK hd (Hp.le_refl _) (by omega) _) (by omega) _) ⟨?_,rfl⟩))
 simp[Tm.less,h0,h1]
def aFc(p:Tm→Bool)(l:List Tm):Int:=match l.findIdx? p with
 |some i=>i
 |none=>-1
theorem aAw(p:Tm→Bool)(own:Own)(l:List Tm)(g:Nat)(caps:List V)(h:Hp)(hp:∀x:Tm,aW Tryz.prog g ([x.v]++caps) h (.bool (p x)))(hl:l.length≤1000000):
 aW Tryz.prog 196 [tms own l, .fn (.func g) [] caps] h (.int .i64 (aFc p l)):=by
 refine aR (fun L=>trivial) fun h' nx hh=>aD L.slices_IndexFunc_stamp_Time_stamp_Time_low fun hd=>?_
 simp only[jL,jM,jA,jB,jN,jO,jP,jQ,V.undef]
 refine bC (bD ?_)
 refine aU 1 rfl (by simp only[L.slices_IndexFunc_stamp_Time_stamp_Time_r0,go_sem,reduceIte,jA,jB,jC,jD,reduceCtorEq,jE,jF];try omega) ?_
 simp only[L.slices_IndexFunc_stamp_Time_stamp_Time_r0,go_sem,reduceIte,jA,jB,jC,jD,reduceCtorEq,jE,jF]
 refine aJ (bC (bC (bD ?_)))
 refine aU 3 rfl (by simp only[L.slices_IndexFunc_stamp_Time_stamp_Time_r1,tms,jK,go_sem,reduceIte,jA,jB,jC,jD,reduceCtorEq,jE,jF];try omega) ?_
 simp only[L.slices_IndexFunc_stamp_Time_stamp_Time_r1,tms,jK,go_sem,reduceIte,jA,jB,jC,jD,reduceCtorEq,jE,jF]
 refine aJ (cR (lW (fun k:Nat=>k≤l.length∧∀x∈l.take k,p x=false) (fun k=>⟨aB 19 0 [(0,tms own l),(1, .fn (.func g) [] caps),(7, .int .i64 l.length),(8, .int .i64 k)],h',nx⟩) (fun k=>l.length-k) 0 ⟨Nat.zero_le _,by simp⟩ ?_ ?_))
 ·refine iY (by simp only[WkL,aB,jH,jI,jJ,Tm.v,tms,go_sem,reduceIte,jA,jB,jC,jD,reduceCtorEq,jE,jF]) ?_ ?_
  ·exact Hp.le_refl _
  omega
 rintro k ⟨hk,hno⟩
 simp only[aB,go_sem,reduceIte,jA,jB,jC,jD,reduceCtorEq,jE,jF]
 refine bC (bD ?_)
 refine aU 1 rfl (by simp only[L.slices_IndexFunc_stamp_Time_stamp_Time_r2,go_sem,reduceIte,jA,jB,jC,jD,reduceCtorEq,jE,jF];try omega) ?_
 simp only[L.slices_IndexFunc_stamp_Time_stamp_Time_r2,go_sem,reduceIte,jA,jB,jC,jD,reduceCtorEq,jE,jF]
 refine aJ (bC (bU _ rfl (fun hc=>?_) (fun hc=>?_)))
 ·have hlt:k<l.length:=by simpa using hc
  have hg:=aFf Tm.v l k hlt
  refine dN (aJ (bC (cR (bC (bD ?_)))))
  refine aU 2 rfl (by simp only[L.slices_IndexFunc_stamp_Time_stamp_Time_r3,go_sem,reduceIte,jA,jB,jC,jD,reduceCtorEq,jE,jF];try omega) ?_
  simp only[L.slices_IndexFunc_stamp_Time_stamp_Time_r3,go_sem,reduceIte,jA,jB,jC,jD,reduceCtorEq,jE,jF]
  refine aJ (bC (bD ?_))
  refine aU 5 rfl (by simp only[L.slices_IndexFunc_stamp_Time_stamp_Time_r4,tms,jK,jG,hg,Tm.v,go_sem,reduceIte,jA,jB,jC,jD,reduceCtorEq,jE,jF];try omega) ?_
  simp only[L.slices_IndexFunc_stamp_Time_stamp_Time_r4,tms,jK,jG,hg,Tm.v,go_sem,reduceIte,jA,jB,jC,jD,reduceCtorEq,jE,jF]
  refine oP rfl (hp l[k]) (by simp only[Tm.v,go_sem,reduceIte,jA,jB,jC,jD,reduceCtorEq,jE,jF]) (by assumption) ?_
  simp only[go_sem,reduceIte,jA,jB,jC,jD,reduceCtorEq,jE,jF]
  refine aJ (bU _ rfl (fun hc=>?_) (fun hc=>?_))
  ·refine bC (bD ?_)
   refine aU 2 rfl (by simp only[L.slices_IndexFunc_stamp_Time_stamp_Time_r5,go_sem,reduceIte,jA,jB,jC,jD,reduceCtorEq,jE,jF];try omega) ?_
   simp only[L.slices_IndexFunc_stamp_Time_stamp_Time_r5,go_sem,reduceIte,jA,jB,jC,jD,reduceCtorEq,jE,jF]
   refine aJ ?_
   refine bJ ?_
   repeat (first|refine fT ?_|refine dT ?_|refine eE ?_)
   refine aF h' (Hp.le_refl _) ⟨?_,rfl⟩
   simp only[go_sem,reduceIte,jA,jB,jC,jD,reduceCtorEq,jE,jF]
   have:l.findIdx? p=some k:=by
    rw[List.findIdx?_eq_some_iff_getElem]
    refine⟨hlt,hc,fun j hj=>?_⟩
    have:=hno l[j] (List.mem_take_iff_getElem.2 ⟨j,by omega,rfl⟩)
    simp[this]
   simp only[aFc,this]
  refine dN (bN (aJ (bD ?_)))
  refine aU 2 rfl (by simp only[L.slices_IndexFunc_stamp_Time_stamp_Time_r6,go_sem,reduceIte,jA,jB,jC,jD,reduceCtorEq,jE,jF];try omega) ?_
  simp only[L.slices_IndexFunc_stamp_Time_stamp_Time_r6,go_sem,reduceIte,jA,jB,jC,jD,reduceCtorEq,jE,jF]
  refine eZ (k+1) ⟨by omega,?_⟩ (by omega) ?_
  ·intro x hx
   rw[List.take_succ_eq_append_getElem hlt,List.mem_append,List.mem_singleton] at hx
   rcases hx with hx|rfl
   ·exact hno x hx
   exact hc
  rw[aV (by omega) (by omega)]
  refine iY (by simp only[WkL,aB,jH,jI,jJ,Tm.v,tms,go_sem,reduceIte,jA,jB,jC,jD,reduceCtorEq,jE,jF]) ?_ ?_
  ·exact Hp.le_refl _
  omega
 have hge:k=l.length:=by have:¬k<l.length:=by simpa using hc
                         omega
 refine eT ?_
 repeat (first|refine dK ?_|refine cX ?_|refine aZ (by decide) ?_)
 refine cF ?_
 refine aJ (bC (bD ?_))
 refine aU 1 rfl (by simp only[L.slices_IndexFunc_stamp_Time_stamp_Time_r7,go_sem,reduceIte,jA,jB,jC,jD,reduceCtorEq,jE,jF];try omega) ?_
 simp only[L.slices_IndexFunc_stamp_Time_stamp_Time_r7,go_sem,reduceIte,jA,jB,jC,jD,reduceCtorEq,jE,jF]
 refine aJ (bJ (aF h' (Hp.le_refl _) ⟨?_,rfl⟩))
 simp only[go_sem,reduceIte,jA,jB,jC,jD,reduceCtorEq,jE,jF]
 rw[hge,List.take_length] at hno
 have:l.findIdx? p=none:=by
  rw[List.findIdx?_eq_none_iff]
  exact fun x hx=>hno x hx
 simp only[aFc,this]
theorem aHS(p:Tm→Bool)(l:List Tm):decide (0≤aFc p l)=l.any p:=by
 unfold aFc
 cases hf:l.findIdx? p with
 |none=>
  rw[List.findIdx?_eq_none_iff] at hf
  have:l.any p=false:=by
   rw[List.any_eq_false]
   intro x hx
   simp[hf x hx]
  simp[this]
 |some i=>
  rw[List.findIdx?_eq_some_iff_getElem] at hf
  obtain⟨h1,h2,_⟩:=hf
  have:l.any p=true:=List.any_eq_true.2 ⟨l[i],List.getElem_mem _,h2⟩
  simp[this]
theorem vR(p:Tm→Bool)(own:Own)(l:List Tm)(g:Nat)(caps:List V)(h:Hp)(hp:∀x:Tm,aW Tryz.prog g ([x.v]++caps) h (.bool (p x)))(hl:l.length≤1000000):
 aW Tryz.prog 154 [tms own l, .fn (.func g) [] caps] h (.bool (l.any p)):=by
 refine aR (fun L=>trivial) fun h' nx hh=>aD L.slices_ContainsFunc_stamp_Time_stamp_Time_low fun hd=>?_
 simp only[jL,jM,jA,jB,jN,jO,jP,jQ,V.undef]
 refine bC (bD ?_)
 refine aU 1 rfl (by simp only[L.slices_ContainsFunc_stamp_Time_stamp_Time_r0,go_sem,reduceIte,jA,jB,jC,jD,reduceCtorEq,jE,jF];try omega) ?_
 simp only[L.slices_ContainsFunc_stamp_Time_stamp_Time_r0,go_sem,reduceIte,jA,jB,jC,jD,reduceCtorEq,jE,jF]
 refine aJ (bC (bD ?_))
 refine aU 2 rfl (by simp only[L.slices_ContainsFunc_stamp_Time_stamp_Time_r1,go_sem,reduceIte,jA,jB,jC,jD,reduceCtorEq,jE,jF];try omega) ?_
 simp only[L.slices_ContainsFunc_stamp_Time_stamp_Time_r1,go_sem,reduceIte,jA,jB,jC,jD,reduceCtorEq,jE,jF]
 refine aM (aAw p own l g caps h hp hl) rfl (by assumption) ?_
 simp only[go_sem,reduceIte,jA,jB,jC,jD,reduceCtorEq,jE,jF]
 refine aU 2 rfl (by simp only[L.slices_ContainsFunc_stamp_Time_stamp_Time_r1,go_sem,reduceIte,jA,jB,jC,jD,reduceCtorEq,jE,jF];try omega) ?_
 simp only[L.slices_ContainsFunc_stamp_Time_stamp_Time_r1,go_sem,reduceIte,jA,jB,jC,jD,reduceCtorEq,jE,jF]
 refine aJ (bJ (aF h' (Hp.le_refl _) ⟨?_,rfl⟩))
 simp only[go_sem,reduceIte,jA,jB,jC,jD,reduceCtorEq,jE,jF]
 rw[←aHS]
end Go.Proofs.YtemjhgboialjpaaGreat
namespace Go.Proofs.YtemjhgboialjpaaGreat
open Go.RowKit
theorem oO:aG Tryz.prog 165=some (LB.CmpInt 203):=by kernel_rfl
theorem yV:aG Tryz.prog 203=some LB.NaNInt:=by kernel_rfl
theorem wR:aG Tryz.prog 163=some LB.OrInt:=by kernel_rfl
end Go.Proofs.YtemjhgboialjpaaGreat
namespace Go.Proofs.YtemjhgboialjpaaGreat
open Go.Proofs.YtemjhgboialjpaaGreat renaming fE→uA,dU→uB,cM→uC,cN→uD,bV→uE,fF→uF,bQ→uG,cO→uH,cP→uI,bW→uJ,bX→uK,cG→uL,dP→uM,fG→uN,dG→uO,aZ→uP,gR→uQ,fS→uR,dA→uS
open Go.RowKit
attribute [local irreducible] IntKind.wrap
def Pa.v(p:Pa):V:= .agg [.bool p.n, .int .i64 p.a]
theorem Pa.names_v(L:Nat→Prop)(p:Pa):p.v.names L:=by simp[Pa.v,V.names,bP]
theorem Pa.fits_v(p:Pa):p.v.fits (.agg 2)=true:=by simp[Pa.v,V.fits,V.leafy]
def Pa.of(p:Pa)(t:Tm):Tm×Int:=
 if (!p.ok|| !t.ok)=true then (⟨0,0⟩,2)
 else if Tm.ok ⟨t.e,if p.n=true then p.a else p.a+t.r⟩=false then (⟨0,0⟩,1) else (⟨t.e,if p.n=true then p.a else p.a+t.r⟩,0)
def Pa.rof(p:Pa)(t:Tm):Tm×Int:=
 if (!p.ok|| !t.ok)=true then (⟨0,0⟩,2)
 else if 1048576<(if p.n=true then 0 else t.r)+p.a then (⟨0,0⟩,1) else (⟨t.e,(if p.n=true then 0 else t.r)+p.a⟩,0)
theorem Pa.rof_eq(p:Pa)(t:Tm):p.rof t=p.of t:=by
 unfold Pa.rof Pa.of
 split
 ·rfl
 rename_i h
 simp only[Bool.or_eq_true,Bool.not_eq_true',not_or,Bool.not_eq_false] at h
 obtain⟨h1,h2⟩:=h
 obtain⟨n,a⟩:=p
 obtain⟨e,r⟩:=t
 cases n<;>simp[Pa.ok,Tm.ok] at h1 h2⊢
 ·have e1:r+a=a+r:=by omega
  rw[e1]
  split<;>split<;>first|rfl|(exfalso;omega)
 split<;>split<;>first|rfl|(exfalso;omega)
def jZ(n:Int):V:=if n=0 then .nilIface else .iface 48 (.int .i64 n)
theorem aKU:jZ 0= .nilIface:=rfl
theorem lS(p:Pa)(h:Hp):aW Tryz.prog 177 [p.v] h (.bool p.ok):=by
 refine aR (fun L=>trivial) fun h' nx hh=>aD L.stamp_RightPath_low fun hd=>?_
 simp only[jL,jM,jA,jB,jN,jO,jP,jQ,V.undef]
 (repeat' (first|(with_reducible first|refine stp ?_|refine uP (by decide) ?_|refine uQ (fun _=>?_) (fun _=>?_))|((first|(with_reducible refine uA ?_;first|refine uB rfl ?_ ?_|refine aM (pP _ _ _) rfl (aO _) ?_|(first|refine uC rfl ?_|refine uD rfl ?_)|refine uE rfl ?_)|(with_reducible refine uF ?_;first|refine uG rfl ?_ ?_|(first|refine uH rfl ?_|refine uI rfl ?_)|refine uJ rfl ?_|refine uK (uL ?_)|refine uK (uM ?_))|(with_reducible refine uN ?_;refine uO rfl ?_))<;>try simp only[Pa.v,go_sem,reduceIte,jA,jB,jC,jD,reduceCtorEq,jE,jF])|(with_reducible refine uR ?_;refine uS rfl ?_)|omega))
 exact aF h' (by repeat (first|exact Hp.le_refl _|refine aK hd ?_ (by omega) _|refine aL hd ?_ (by omega))) ⟨rfl,rfl⟩
theorem iM(p:Pa)(h:Hp):aW Tryz.prog 136 [p.v] h (.bool p.ok):=by
 refine aR (fun L=>trivial) fun h' nx hh=>aD L.corollaryref20_RightPath_low fun hd=>?_
 simp only[jL,jM,jA,jB,jN,jO,jP,jQ,V.undef]
 (repeat' (first|(with_reducible first|refine stp ?_|refine uP (by decide) ?_|refine uQ (fun _=>?_) (fun _=>?_))|((first|(with_reducible refine uA ?_;first|refine uB rfl ?_ ?_|(first|refine uC rfl ?_|refine uD rfl ?_)|refine uE rfl ?_)|(with_reducible refine uF ?_;first|refine uG rfl ?_ ?_|(first|refine uH rfl ?_|refine uI rfl ?_)|refine uJ rfl ?_|refine uK (uL ?_)|refine uK (uM ?_))|(with_reducible refine uN ?_;refine uO rfl ?_))<;>try simp only[Pa.v,go_sem,reduceIte,jA,jB,jC,jD,reduceCtorEq,jE,jF])|(with_reducible refine uR ?_;refine uS rfl ?_)|omega))
 all_goals refine aF h' (by repeat (first|exact Hp.le_refl _|refine aK hd ?_ (by omega) _|refine aL hd ?_ (by omega))) ⟨?_,rfl⟩
 all_goals ((try simp_all [Pa.ok])<;>(try omega))
theorem aGa(p:Pa)(h:Hp):aW Tryz.prog 134 [p.v] h p.v:=by
 refine aR (fun L=>p.names_v L) fun h' nx hh=>aD L.corollarylaw20_Path_low fun hd=>?_
 simp only[jL,jM,jA,jB,jN,jO,jP,jQ,V.undef]
 refine aue Pa.v.eq_1 ?_
 refine pV (by simp only[go_sem,reduceIte,jA,jB,jC,jD,reduceCtorEq,jE,jF]) h' (by repeat (first|exact Hp.le_refl _|refine aK hd ?_ (by omega) _|refine aL hd ?_ (by omega))) ⟨?_,rfl⟩
 simp only[Pa.v,go_sem,reduceIte,jA,jB,jC,jD,reduceCtorEq,jE,jF]
theorem sX(L:Nat→Prop)(n:Int):(jZ n).names L:=by unfold jZ;split<;>simp[V.names]
theorem aGT(p:Pa)(t:Tm)(h1:p.ok=true)(h2:t.ok=true):IntKind.i64.wrap (p.a+t.r)=p.a+t.r∧IntKind.i64.wrap (t.r+p.a)=t.r+p.a∧IntKind.i64.wrap (0+p.a)=p.a:=by
 simp only[Pa.ok,Tm.ok,Bool.and_eq_true,decide_eq_true_eq] at h1 h2
 refine⟨aV ?_ ?_,aV ?_ ?_,?_⟩<;>try omega
 rw[aV]<;>omega
theorem aEv(p:Pa)(t:Tm)(h:Hp):aW Tryz.prog 147 [p.v,t.v] h (.tup [(p.of t).1.v,jZ (p.of t).2]):=by
 refine aR (fun L=>by simp[V.names,bP,Tm.v,sX]) fun h' nx hh=>aD L.stamp_Path_Of_low fun hd=>?_
 obtain⟨n,a⟩:=p
 obtain⟨e,r⟩:=t
 have hw:=aGT ⟨n,a⟩ ⟨e,r⟩
 simp only[jL,jM,jA,jB,jN,jO,jP,jQ,V.undef]
 (repeat' (first|(with_reducible first|refine stp ?_|refine uP (by decide) ?_|refine uQ (fun _=>?_) (fun _=>?_))|((first|(with_reducible refine uA ?_;first|refine uB rfl ?_ ?_|refine aM (lS ⟨_,_⟩ _) rfl (aO _) ?_|refine aM (sJ ⟨_,_⟩ _) rfl (aO _) ?_|(first|refine uC rfl ?_|refine uD rfl ?_)|refine uE rfl ?_)|(with_reducible refine uF ?_;first|refine uG rfl ?_ ?_|(first|refine uH rfl ?_|refine uI rfl ?_)|refine uJ rfl ?_|refine uK (uL ?_)|refine uK (uM ?_))|(with_reducible refine uN ?_;refine uO rfl ?_))<;>try simp only[Pa.v,Tm.v,go_sem,reduceIte,jA,jB,jC,jD,reduceCtorEq,jE,jF])|(with_reducible refine uR ?_;refine uS rfl ?_)|omega))
 all_goals refine cA (by simp only[go_sem,reduceIte,jA,jB,jC,jD,reduceCtorEq,jE,jF]) h' (by repeat (first|exact Hp.le_refl _|refine aK hd ?_ (by omega) _|refine aL hd ?_ (by omega))) ⟨?_,rfl⟩
 all_goals simp only[go_sem,reduceIte,jA,jB,jC,jD,reduceCtorEq,jE,jF]
 all_goals cases hp:Pa.ok ⟨n,a⟩<;>cases ht:Tm.ok ⟨e,r⟩<;>simp_all [Pa.of,jZ]
theorem aDc(p:Pa)(t:Tm)(h:Hp):aW Tryz.prog 150 [p.v,t.v] h (.tup [(p.of t).1.v, .int .i64 (p.of t).2]):=by
 rw[←Pa.rof_eq]
 refine aR (fun L=>by simp[V.names,bP,Tm.v]) fun h' nx hh=>aD L.corollaryref20_Of_low fun hd=>?_
 obtain⟨n,a⟩:=p
 obtain⟨e,r⟩:=t
 have hw:=aGT ⟨n,a⟩ ⟨e,r⟩
 simp only[jL,jM,jA,jB,jN,jO,jP,jQ,V.undef]
 (repeat' (first|(with_reducible first|refine stp ?_|refine uP (by decide) ?_|refine uQ (fun _=>?_) (fun _=>?_))|((first|(with_reducible refine uA ?_;first|refine uB rfl ?_ ?_|refine aM (iM ⟨_,_⟩ _) rfl (aO _) ?_|refine aM (mP ⟨_,_⟩ _) rfl (aO _) ?_|(first|refine uC rfl ?_|refine uD rfl ?_)|refine uE rfl ?_)|(with_reducible refine uF ?_;first|refine uG rfl ?_ ?_|(first|refine uH rfl ?_|refine uI rfl ?_)|refine uJ rfl ?_|refine uK (uL ?_)|refine uK (uM ?_))|(with_reducible refine uN ?_;refine uO rfl ?_))<;>try simp only[Pa.v,Tm.v,go_sem,reduceIte,jA,jB,jC,jD,reduceCtorEq,jE,jF])|(with_reducible refine uR ?_;refine uS rfl ?_)|omega))
 all_goals refine cA (by simp only[go_sem,reduceIte,jA,jB,jC,jD,reduceCtorEq,jE,jF]) h' (by repeat (first|exact Hp.le_refl _|refine aK hd ?_ (by omega) _|refine aL hd ?_ (by omega))) ⟨?_,rfl⟩
 all_goals simp only[go_sem,reduceIte,jA,jB,jC,jD,reduceCtorEq,jE,jF]
 all_goals cases hp:Pa.ok ⟨n,a⟩<;>cases ht:Tm.ok ⟨e,r⟩<;>simp_all [Pa.rof,jZ]
 all_goals (split<;>first|(exfalso;omega)|simp)
theorem oH(n:Int):veq (.iface true) (jZ n) .nilIface=some (decide (n=0)):=by
 unfold jZ
 split<;>simp_all [veq]
end Go.Proofs.YtemjhgboialjpaaGreat
namespace Go.Proofs.YtemjhgboialjpaaGreat
open Go.RowKit Go.Sort
structure Wy where
 f:Int
 t:Int
 p:Pa
 deriving DecidableEq,Inhabited
def num(b:Bool):Int:=if b=true then 1 else 0
def Wy.cmp(a b:Wy):Int:=orI [kH a.f b.f,kH a.t b.t,kH (num a.p.n) (num b.p.n),kH a.p.a b.p.a]
def Wy.less(a b:Wy):Bool:=decide (a.f<b.f∨(a.f=b.f∧(a.t<b.t∨(a.t=b.t∧(num a.p.n<num b.p.n∨(num a.p.n=num b.p.n∧a.p.a<b.p.a))))))
theorem zB(a b:Int):kH a b<0↔a<b:=by unfold kH;(repeat' split)<;>omega
theorem zC(a b:Int):kH a b=0↔a=b:=by unfold kH;(repeat' split)<;>omega
theorem aJY:orI []=0:=rfl
theorem aIQ(x:Int)(l:List Int):orI (x::l)=if x=0 then orI l else x:=by
 rw[orI]
theorem Wy.cmp_lt(a b:Wy):a.cmp b<0↔a.less b=true:=by
 unfold Wy.cmp Wy.less
 simp only[aIQ,aJY,decide_eq_true_eq]
 have h1:=zB a.f b.f;have k1:=zC a.f b.f
 have h2:=zB a.t b.t;have k2:=zC a.t b.t
 have h3:=zB (num a.p.n) (num b.p.n);have k3:=zC (num a.p.n) (num b.p.n)
 have h4:=zB a.p.a b.p.a;have k4:=zC a.p.a b.p.a
 (repeat' split)<;>omega
theorem Wy.lt_of(a b:Wy):ltOf Wy.cmp a b=a.less b:=by
 unfold ltOf
 rw[Bool.eq_iff_iff]
 simp[Wy.cmp_lt]
theorem Wy.ord:Ord Wy.less where
 irr x:=by simp[Wy.less]
 trans x y z h1 h2:=by simp only[Wy.less,decide_eq_true_eq] at*;omega
 tot x y h1 h2:=by
  obtain⟨f,t,n,a⟩:=x;obtain⟨f',t',n',a'⟩:=y
  simp only[Wy.less,decide_eq_false_iff_not] at*
  have e:num n=num n'∧f=f'∧t=t'∧a=a':=by omega
  have en:n=n':=by cases n<;>cases n'<;>simp[num] at e⊢
  simp[e,en]
theorem Wy.swo:SWO (ltOf Wy.cmp):=by
 refine⟨fun x=>?_,fun x y z=>?_,fun x y z=>?_⟩<;>simp only[Wy.lt_of,Wy.less,decide_eq_true_eq,decide_eq_false_iff_not]<;>omega
theorem Wy.tot(x y:Wy)(h1:ltOf Wy.cmp x y=false)(h2:ltOf Wy.cmp y x=false):x=y:=by
 rw[Wy.lt_of] at h1 h2
 exact Wy.ord.tot x y h1 h2
def bT(l:List Wy):List Wy:=cs (dD Wy.cmp l)
theorem mI(l:List Wy):bT l=jT Wy.less l:=by
 refine aHR Wy.ord (dH Wy.cmp l) ?_
 have:=fZ Wy.swo l
 exact this.imp fun{x y} h=>by rw[←Wy.lt_of];exact h
theorem mG(l:List Wy)(x:Wy):x∈bT l↔x∈l:=by
 rw[mI]
 have:=(oT Wy.ord l [] List.Pairwise.nil).2 x
 unfold jT
 simpa using this
theorem aBf(l:List Wy):Inc Wy.less (bT l):=by
 rw[mI]
 exact(oT Wy.ord l [] List.Pairwise.nil).1
theorem mH(l:List Wy):(bT l).length≤l.length:=by
 have:=aKX (dD Wy.cmp l)
 rw[(dH Wy.cmp l).length_eq] at this
 exact this
def We.wy(w:We):Wy:=⟨w.f,w.t,w.p⟩
def Wy.we(w:Wy):We:=⟨w.f.toNat,w.t.toNat,w.p⟩
def Wy.fit(P:Int)(w:Wy):Bool:=decide (0≤w.f)&&(decide (w.f<P)&&(decide (0≤w.t)&&(decide (w.t<P)&&w.p.ok)))
theorem Wy.we_wy{P:Int}{w:Wy}(h:w.fit P=true):w.we.wy=w:=by
 obtain⟨f,t,p⟩:=w
 simp only[Wy.fit,Bool.and_eq_true,decide_eq_true_eq] at h
 simp only[Wy.we,We.wy,Wy.mk.injEq,and_true]
 omega
def wC(n:Nat)(l:List We):Prop:=∀w∈l,w.f<n∧w.t<n∧w.p.ok=true
theorem aAD{P:Int}{ws:List Wy}(h:∀w∈ws,w.fit P=true):ws=(ws.map Wy.we).map We.wy∧wC P.toNat (ws.map Wy.we):=by
 constructor
 ·rw[List.map_map]
  have:ws.map (We.wy∘Wy.we)=ws.map id:=List.map_congr_left fun w hw=>Wy.we_wy (h w hw)
  rw[this,List.map_id]
 intro w hw
 obtain⟨v,hv,rfl⟩:=List.mem_map.1 hw
 have:=h v hv
 simp only[Wy.fit,Bool.and_eq_true,decide_eq_true_eq] at this
 refine⟨?_,?_,this.2.2.2.2⟩
 ·show v.f.toNat<P.toNat;omega
 show v.t.toNat<P.toNat;omega
def zE(l:List We):List (Nat×Nat):=l.filterMap fun w=>if w.p.a=0 then some (w.f,w.t) else none
theorem aIv(l:List We)(e:Nat×Nat):e∈zE l↔∃w∈l,w.p.a=0∧(w.f,w.t)=e:=by
 unfold zE
 simp only[List.mem_filterMap]
 constructor
 ·rintro⟨w,hw,h⟩
  split at h
  ·rename_i h0;injection h with h;exact⟨w,hw,h0,h⟩
  cases h
 rintro⟨w,hw,h0,rfl⟩
 exact⟨w,hw,by rw[if_pos h0]⟩
theorem aHj(a b:List We):zE (a++b)=zE a++zE b:=List.filterMap_append
theorem aKA{n:Nat}{l:List We}(h:wC n l):∀e∈zE l,e.1<n∧e.2<n:=by
 intro e he
 obtain⟨w,hw,_,rfl⟩:=(aIv l e).1 he
 exact⟨(h w hw).1,(h w hw).2.1⟩
def aBM(l:List We):Prop:=∃y,eY (fun a b=>(a,b)∈zE l) y y
def qT(l:List We):Prop:=∃w∈l,w.p.n=true∧(w.t=w.f∨eY (tI l) w.t w.f)
theorem aAc(l:List We):tE l↔¬qT l:=by
 constructor
 ·rintro h ⟨w,h1,h2,h3⟩;exact h w h1 h2 h3
 intro h w h1 h2 h3;exact h ⟨w,h1,h2,h3⟩
def eL(l:List Wy):Int:=(l.map fun w=>w.p.a).sum
open Classical in
noncomputable def cC(P:Int)(ws:List Wy):(Int×List Wy)×Int:=
 if P<0∨200<P∨∃w∈ws,w.fit P=false then ((0,[]),1)
 else if 1048576<eL (bT ws) then ((0,[]),1)
 else if aBM ((bT ws).map Wy.we)∨qT ((bT ws).map Wy.we) then ((0,[]),9)
 else ((P,bT ws),0)
structure pD(P:Int)(ws:List Wy)(n:Nat)(l:List We):Prop where
 pl:P=n
 le:n≤200
 eq:ws=l.map We.wy
 fit:wC n l
 idle:¬aBM l
 turn:tE l
 sum:eL ws≤1048576
 canon:bT ws=ws
open Classical in
noncomputable def gX(P:Int)(ws:List Wy):Bool:=decide ((cC P ws).2=0∧(cC P ws).1.2=ws)
theorem kE(P:Int)(ws:List Wy):gX P ws=true↔∃n l,pD P ws n l:=by
 unfold gX
 rw[decide_eq_true_eq]
 constructor
 ·rintro⟨h1,h2⟩
  unfold cC at h1 h2
  split at h1
  ·cases h1
  rename_i h3
  rw[if_neg h3] at h2
  split at h1
  ·cases h1
  rename_i h4
  rw[if_neg h4] at h2
  split at h1
  ·cases h1
  rename_i h5
  rw[if_neg h5] at h2
  have h2:bT ws=ws:=h2
  have hfit:∀w∈ws,w.fit P=true:=fun w hw=>by
   cases e:w.fit P with
   |true=>rfl
   |false=>exact absurd (.inr (.inr ⟨w,hw,e⟩)) h3
  have hP:0≤P∧P≤200:=by
   constructor
   ·exact Classical.byContradiction fun h=>h3 (.inl (by omega))
   exact Classical.byContradiction fun h=>h3 (.inr (.inl (by omega)))
  rw[h2] at h4 h5
  obtain⟨k1,k2⟩:=aAD hfit
  refine⟨P.toNat,ws.map Wy.we,by omega,by omega,k1,k2,fun h=>h5 (.inl h),(aAc _).2 fun h=>h5 (.inr h),by omega,h2⟩
 rintro⟨n,l,h⟩
 obtain⟨h1,h2,h3,h4,h5,h6,h7,h8⟩:=h
 have hwe:ws.map Wy.we=l:=by
  rw[h3,List.map_map]
  have:l.map (Wy.we∘We.wy)=l.map id:=List.map_congr_left fun w _=>by obtain⟨f,t,p⟩:=w;simp[We.wy,Wy.we]
  rw[this,List.map_id]
 have hno:¬(P<0∨200<P∨∃w∈ws,w.fit P=false):=by
  rintro(h|h|⟨w,hw,h⟩)
  ·omega
  ·omega
  rw[h3] at hw
  obtain⟨v,hv,rfl⟩:=List.mem_map.1 hw
  have:=h4 v hv
  have ht:(We.wy v).fit P=true:=by
   have h3:=this.1
   have h4:=this.2.1
   have h5:=this.2.2
   show(decide ((0:Int)≤v.f)&&(decide ((v.f:Int)<P)&&(decide ((0:Int)≤v.t)&&(decide ((v.t:Int)<P)&&v.p.ok))))=true
   rw[h5,decide_eq_true (by omega),decide_eq_true (by omega),decide_eq_true (by omega),decide_eq_true (by omega)]
   rfl
  rw[ht] at h
  cases h
 unfold cC
 rw[if_neg hno,h8,if_neg (by omega),hwe,if_neg (fun h=>h.elim h5 (fun h=>(aAc l).1 h6 h))]
 exact⟨rfl,rfl⟩
end Go.Proofs.YtemjhgboialjpaaGreat
namespace Go.Proofs.YtemjhgboialjpaaGreat
open Go.Proofs.YtemjhgboialjpaaGreat renaming fE→uA,dU→uB,cM→uC,cN→uD,bV→uE,fF→uF,bQ→uG,cO→uH,cP→uI,bW→uJ,bX→uK,cG→uL,dP→uM,fG→uN,dG→uO,aZ→uP,gR→uQ,fS→uR,dA→uS
open Go.RowKit Go.Sort
attribute [local irreducible] IntKind.wrap
def Wy.v(w:Wy):V:= .agg [.int .i64 w.f, .int .i64 w.t, .bool w.p.n, .int .i64 w.p.a]
theorem Wy.names_v(L:Nat→Prop)(w:Wy):w.v.names L:=by simp[Wy.v,V.names,bP]
theorem Wy.fits_v(w:Wy):w.v.fits (.agg 4)=true:=by simp[Wy.v,V.fits,V.leafy]
abbrev wys(own:Own)(l:List Wy):V:= .sl (.agg 4) own (l.map Wy.v)
abbrev pas(own:Own)(l:List Pa):V:= .sl (.agg 2) own (l.map Pa.v)
theorem kX:aG Tryz.prog 126=some (LB.ContainsFunc (.agg 4) 178):=by kernel_rfl
theorem nR:aG Tryz.prog 178=some (LB.IndexFunc (.agg 4)):=by kernel_rfl
theorem uU:aG Tryz.prog 128=some (LB.SortedFunc (.agg 4) 179 180):=by kernel_rfl
theorem aAl:aG Tryz.prog 179=some (LB.Collect (.agg 4) 212):=by kernel_rfl
theorem wS:aG Tryz.prog 212=some (LB.AppendSeq (.agg 4) (.agg [.int .i64 0, .int .i64 0, .bool false, .int .i64 0]) 32):=by kernel_rfl
theorem aBw:aG Tryz.prog 129=some (LB.Values (.agg 4) 181):=by kernel_rfl
theorem yN:aG Tryz.prog 181=some (LB.ValuesIt (.agg 4) (.agg [.int .i64 0, .int .i64 0, .bool false, .int .i64 0])):=by kernel_rfl
theorem uX:aG Tryz.prog 84=some (LB.Equal (.agg 4) (.plain (.agg 4) [.int, .int, .bool, .int])):=by kernel_rfl
theorem uY:aG Tryz.prog 185=some (LB.Clone (.agg 2) 16):=by kernel_rfl
theorem gZ:aG Tryz.prog 159=some (LB.ContainsFunc (.agg 2) 198):=by kernel_rfl
theorem fJ:aG Tryz.prog 198=some (LB.IndexFunc (.agg 2)):=by kernel_rfl
theorem xP(b:Bool)(h:Hp):aW Tryz.prog 182 [.bool b] h (.int .i64 (num b)):=by
 refine aR (fun L=>trivial) fun h' nx hh=>aD L.path_number_low fun hd=>?_
 simp only[jL,jM,jA,jB,jN,jO,jP,jQ,V.undef]
 cases b<;>(repeat' (first|(with_reducible first|refine stp ?_|refine uP (by decide) ?_|refine uQ (fun _=>?_) (fun _=>?_))|((first|(with_reducible refine uA ?_;first|refine uB rfl ?_ ?_|(first|refine uC rfl ?_|refine uD rfl ?_)|refine uE rfl ?_)|(with_reducible refine uF ?_;first|refine uG rfl ?_ ?_|(first|refine uH rfl ?_|refine uI rfl ?_)|refine uJ rfl ?_|refine uK (uL ?_)|refine uK (uM ?_))|(with_reducible refine uN ?_;refine uO rfl ?_))<;>try simp only[ go_sem,reduceIte,jA,jB,jC,jD,reduceCtorEq,jE,jF])|(with_reducible refine uR ?_;refine uS rfl ?_)|omega))<;>exact aF h' (by repeat (first|exact Hp.le_refl _|refine aK hd ?_ (by omega) _|refine aL hd ?_ (by omega))) ⟨rfl,rfl⟩
theorem aGf(a b:Wy):aW Tryz.prog 130 [a.v,b.v] Hp.none (.int .i64 (a.cmp b)):=by
 refine aR (fun L=>trivial) fun h' nx hh=>aD L.path_order_low fun hd=>?_
 simp only[jL,jM,jA,jB,jN,jO,jP,jQ,V.undef]
 (repeat' (first|(with_reducible first|refine stp ?_|refine uP (by decide) ?_|refine uQ (fun _=>?_) (fun _=>?_))|((first|(with_reducible refine uA ?_;first|refine uB rfl ?_ ?_|(first|refine uC rfl ?_|refine uD rfl ?_)|refine uE rfl ?_)|(with_reducible refine uF ?_;first|refine uG rfl ?_ ?_|refine bF (oZ oO yV _ _ _) rfl (bH _) ?_|refine bF (xP _ _) rfl (bH _) ?_|refine bF (wN wR _ [kH a.f b.f,kH a.t b.t,kH (num a.p.n) (num b.p.n),kH a.p.a b.p.a] (by simp) _) rfl (bH _) ?_|(first|refine uH rfl ?_|refine uI rfl ?_)|refine uJ rfl ?_|refine uK (uL ?_)|refine uK (uM ?_))|(with_reducible refine uN ?_;refine uO rfl ?_))<;>try simp only[Wy.v,go_sem,reduceIte,jA,jB,jC,jD,reduceCtorEq,jE,jF])|(with_reducible refine uR ?_;refine uS rfl ?_)|omega))
 exact aF h' (by repeat (first|exact Hp.le_refl _|refine aK hd ?_ (by omega) _|refine aL hd ?_ (by omega))) ⟨rfl,rfl⟩
theorem aDj(w:Wy)(P:Int)(h:Hp):aW Tryz.prog 125 [w.v, .int .i64 P] h (.bool (w.fit P)):=by
 refine aR (fun L=>trivial) fun h' nx hh=>aD L.path_within_low fun hd=>?_
 obtain⟨f,t,n,a⟩:=w
 simp only[jL,jM,jA,jB,jN,jO,jP,jQ,V.undef]
 (repeat' (first|(with_reducible first|refine stp ?_|refine uP (by decide) ?_|refine uQ (fun _=>?_) (fun _=>?_))|((first|(with_reducible refine uA ?_;first|refine uB rfl ?_ ?_|refine aM (lS ⟨_,_⟩ _) rfl (aO _) ?_|(first|refine uC rfl ?_|refine uD rfl ?_)|refine uE rfl ?_)|(with_reducible refine uF ?_;first|refine uG rfl ?_ ?_|(first|refine uH rfl ?_|refine uI rfl ?_)|refine uJ rfl ?_|refine uK (uL ?_)|refine uK (uM ?_))|(with_reducible refine uN ?_;refine uO rfl ?_))<;>try simp only[Wy.v,go_sem,reduceIte,jA,jB,jC,jD,reduceCtorEq,jE,jF])|(with_reducible refine uR ?_;refine uS rfl ?_)|omega))
 all_goals refine aF h' (by repeat (first|exact Hp.le_refl _|refine aK hd ?_ (by omega) _|refine aL hd ?_ (by omega))) ⟨?_,rfl⟩
 all_goals ((try simp_all [Wy.fit])<;>(try omega))
def We.v(w:We):V:= .agg [.int .i64 w.f, .int .i64 w.t, .bool w.p.n, .int .i64 w.p.a]
theorem We.fits_v(w:We):w.v.fits (.agg 4)=true:=by simp[We.v,V.fits,V.leafy]
theorem aFM(l:List We):(l.map We.wy).map Wy.v=l.map We.v:=by rw[List.map_map];rfl
abbrev wes(own:Own)(l:List We):V:= .sl (.agg 4) own (l.map We.v)
theorem aAB(l:List Int)(i:Nat)(h:i<l.length):(l.map (V.int .i64)).getD i (.tup [])= .int .i64 (l.getD i 0):=by
 rw[bE (V.int .i64) l i h,List.getD_eq_getElem?_getD,List.getElem?_eq_getElem h];rfl
theorem aHW(l:List Bool)(i:Nat)(h:i<l.length):(l.map V.bool).getD i (.tup [])= .bool (l.getD i false):=by
 rw[bE V.bool l i h,List.getD_eq_getElem?_getD,List.getElem?_eq_getElem h];rfl
theorem aGG(own:Own)(l:List Wy)(hl:l.length≤1000)(hb:∀w∈l,0≤w.p.a∧w.p.a≤1048576)(h:Hp):aW Tryz.prog 131 [wys own l] h (.int .i64 (eL l)):=by
 refine aR (fun L=>trivial) fun h' nx hh=>aD L.path_added_low fun hd=>?_
 simp only[jL,jM,jA,jB,jN,jO,jP,jQ,V.undef]
 refine aue trivial ?_
 have hsum:∀i,i≤l.length→0≤eL (l.take i)∧eL (l.take i)≤1048576*i:=by
  intro i hi
  induction i with
  |zero=>simp[eL]
  |succ i ih=>
   have ih:=ih (by omega)
   have:=hb l[i] (List.getElem_mem _)
   rw[List.take_succ_eq_append_getElem (by omega)]
   simp only[eL,List.map_append,List.map_cons,List.map_nil,List.sum_append,List.sum_cons,List.sum_nil] at ih⊢
   omega
 refine aP (fun i:Nat=>aB 19 0 [(3, .int .i64 (eL (l.take i))),(6,wys own l),(7, .int .i64 l.length),(8, .int .i64 i)]) (fun i hp nx1=>i≤l.length∧nx≤nx1∧Hp.same nx h' hp) (fun i=>l.length-i) 0 ⟨Nat.zero_le _,Nat.le_refl _,Hp.same.rfl'⟩ ?_ ?_
 ·simp only[WkL,aB,jH,jI,jJ,wys,eL,List.take_zero,List.map_nil,List.sum_nil,go_sem,reduceIte,jA,jB,jC,jD,reduceCtorEq,jE,jF]
 rintro i hp nx1 ⟨hi,hnx,hsm⟩
 generalize hQ:bG _ _ _ _ _=Q0
 simp only[aB,go_sem,reduceIte,jA,jB,jC,jD,reduceCtorEq,jE,jF]
 rcases Nat.lt_or_ge i l.length with hlt|hge
 ·have hc:decide ((i:Int)<(l.length:Int))=true:=decide_eq_true (by omega)
  have hg:(l.map Wy.v).getD i (.tup [])= .agg [.int .i64 l[i].f, .int .i64 l[i].t, .bool l[i].p.n, .int .i64 l[i].p.a]:=bE Wy.v l i hlt
  have hs1:=hsum i hi
  have hs2:=hsum (i+1) (by omega)
  have hb1:=hb l[i] (List.getElem_mem _)
  have hsn:eL (l.take (i+1))=eL (l.take i)+l[i].p.a:=by
   rw[List.take_succ_eq_append_getElem hlt];simp only[eL,List.map_append,List.map_cons,List.map_nil,List.sum_append,List.sum_cons,List.sum_nil];omega
  have hw:IntKind.i64.wrap ((i:Int)+1)=((i+1:Nat):Int):=by rw[aV]<;>omega
  have hw2:IntKind.i64.wrap (eL (l.take i)+l[i].p.a)=eL (l.take (i+1)):=by rw[hsn,aV]<;>omega
  refine aue (ee5 hc hg hw hw2 hlt) ?_
  rw[←hQ]
  refine aC (i+1) (by omega) ⟨hlt,by omega,(by(try dsimp only);repeat (first|exact hsm|refine aS ?_ (by omega) _|refine aT ?_ (by omega)))⟩ ?_
  simp only[WkL,aB,jH,jI,jJ,wys,go_sem,reduceIte,jA,jB,jC,jD,reduceCtorEq,jE,jF]
 have hc:decide ((i:Int)<(l.length:Int))=false:=decide_eq_false (by omega)
 refine aue hc ?_
 rw[←hQ]
 refine au ?_
 refine aF h' (hsm.le hd (Hp.le_refl _)) ⟨?_,rfl⟩
 simp only[go_sem,reduceIte,jA,jB,jC,jD,reduceCtorEq,jE,jF]
 rw[show i=l.length by omega,List.take_length]
open Classical in
noncomputable def pW(l:List We)(a b:Nat):Bool:=decide (b=a∨eY (tI l) a b)
open Classical in
theorem sL(l:List We)(a b:Nat):pW l a b=true↔(b=a∨eY (tI l) a b):=by unfold pW;exact decide_eq_true_iff
theorem aDh{l:List We}{a b:Nat}(h:¬(b=a∨eY (tI l) a b)):pW l a b=false:=by
 cases e:pW l a b with
 |false=>rfl
 |true=>exact absurd ((sL l a b).1 e) h
theorem aKS(m:Nat):decide ((0:Int)<((m+1:Nat):Int))=true:=decide_eq_true (by omega)
theorem aGv(m:Nat):(0:Int)<((m+1:Nat):Int):=by omega
abbrev gD(id:Nat)(l:List Nat):V:= .sl .leaf (.tok id) (l.map fun x:Nat=> .int .i64 (x:Int))
set_option maxHeartbeats 1000000 in
theorem aBu(own:Own)(n:Nat)(l:List We)(a b:Nat)(hfit:wC n l)(ha:a<n)(hn:n≤200)(hl:l.length≤1000)(h:Hp):aW Tryz.prog 184 [.int .i64 n,wes own l, .int .i64 a, .int .i64 b] h (.bool (pW l a b)):=by
 refine aR (fun L=>trivial) fun h' nx hh=>aD L.path_reaches_low fun hd=>?_
 simp only[jL,jM,jA,jB,jN,jO,jP,jQ,V.undef]
 refine aue trivial ?_
 refine aP (fun q:List Bool×List Nat×Nat=>aB 57 0 [(1,wes own l),(3, .int .i64 b),(9, .rs nx .leaf 0 n),(10,gD q.2.2 q.2.1)])
  (fun q hp nx1=>nx<q.2.2∧q.2.2<nx1∧hp nx=some (.arr .leaf (q.1.map V.bool))∧hp q.2.2=some .tip∧Hp.same nx h' hp∧Bfs n (tI l) a b q.1 q.2.1∧lO q.1+q.2.1.length≤n+1)
  (fun q=>lO q.1+q.2.1.length) (List.replicate n false,[a],nx+1) ⟨by dsimp only;omega,by dsimp only;omega,?_,?_,(by(try dsimp only);repeat (first|exact Hp.same.rfl'|refine aS ?_ (by omega) _|refine aT ?_ (by omega))),Bfs.first ha,?_⟩ ?_ ?_
 ·simp only[List.map_replicate,go_sem,reduceIte,jA,jB,jC,jD,reduceCtorEq,jE,jF]
 ·simp only[go_sem,reduceIte,jA,jB,jC,jD,reduceCtorEq,jE,jF]
 ·have:lO (List.replicate n false)≤n:=Nat.le_trans (List.length_filter_le _ _) (by simp)
  simp;omega
 ·simp only[WkL,aB,jH,jI,jJ,gD,go_sem,reduceIte,jA,jB,jC,jD,reduceCtorEq,jE,jF]
 rintro⟨seen,todo,id⟩ hp nx1 ⟨q1,q2,q3,q4,q5,q6,q7⟩
 generalize hQ:bG _ _ _ _ _=Q0
 dsimp only at q1 q2 q3 q4 q6 q7
 simp only[aB,go_sem,reduceIte,jA,jB,jC,jD,reduceCtorEq,jE,jF]
 cases todo with
 |nil=>
  have hc:decide ((0:Int)<((0:Nat):Int))=false:=by decide
  (repeat' (first|(with_reducible first|refine stp ?_|refine uP (by decide) ?_|refine uQ (fun _=>?_) (fun _=>?_))|((first|(with_reducible refine uA ?_;first|refine uB rfl ?_ ?_|(first|refine uC rfl ?_|refine uD rfl ?_)|refine uE rfl ?_)|(with_reducible refine uF ?_;first|refine uG rfl ?_ ?_|(first|refine uH rfl ?_|refine uI rfl ?_)|refine uJ rfl ?_|refine uK (uL ?_)|refine uK (uM ?_))|(with_reducible refine uN ?_;refine uO rfl ?_))<;>try simp only[gD,hc,jK,go_sem,reduceIte,jA,jB,jC,jD,reduceCtorEq,jE,jF])|(with_reducible refine uR ?_;refine uS rfl ?_)|omega))
  rw[←hQ]
  refine au ?_
  refine aF h' (q5.le hd (Hp.le_refl _)) ⟨?_,rfl⟩
  simp only[go_sem,reduceIte,jA,jB,jC,jD,reduceCtorEq,jE,jF]
  rw[aDh q6.no]
 |cons k rest=>
  by_cases hkb:k=b
  ·have hcb:((k:Int)==(b:Int))=true:=by simp[hkb]
   (repeat' (first|(with_reducible first|refine stp ?_|refine uP (by decide) ?_|refine uQ (fun _=>?_) (fun _=>?_))|((first|(with_reducible refine uA ?_;first|refine uB rfl ?_ ?_|(first|refine uC rfl ?_|refine uD rfl ?_)|refine uE rfl ?_)|(with_reducible refine uF ?_;first|refine uG rfl ?_ ?_|(first|refine uH rfl ?_|refine uI rfl ?_)|refine uJ rfl ?_|refine uK (uL ?_)|refine uK (uM ?_))|(with_reducible refine uN ?_;refine uO rfl ?_))<;>try simp only[gD,aKS,aGv,hcb,jK,go_sem,reduceIte,jA,jB,jC,jD,reduceCtorEq,jE,jF])|(with_reducible refine uR ?_;refine uS rfl ?_)|omega))
   rw[←hQ]
   refine au ?_
   refine aF h' (q5.le hd (Hp.le_refl _)) ⟨?_,rfl⟩
   simp only[go_sem,reduceIte,jA,jB,jC,jD,reduceCtorEq,jE,jF]
   subst hkb
   rw[(sL l a k).2 q6.yes]
  have hcb:((k:Int)==(b:Int))=false:=by simp;omega
  (repeat' (first|(with_reducible first|refine stp ?_|refine uP (by decide) ?_|refine uQ (fun _=>?_) (fun _=>?_))|((first|(with_reducible refine uA ?_;first|refine uB rfl ?_ ?_|(first|refine uC rfl ?_|refine uD rfl ?_)|refine uE rfl ?_)|(with_reducible refine uF ?_;first|refine uG rfl ?_ ?_|(first|refine uH rfl ?_|refine uI rfl ?_)|refine uJ rfl ?_|refine uK (uL ?_)|refine uK (uM ?_))|(with_reducible refine uN ?_;refine uO rfl ?_))<;>try simp only[gD,aKS,aGv,hcb,jK,go_sem,reduceIte,jA,jB,jC,jD,reduceCtorEq,jE,jF])|(with_reducible refine uR ?_;refine uS rfl ?_)|omega))
  refine aP (fun q:Nat×List Bool×List Nat×Nat=>aB 57 0 [(1,wes own l),(3, .int .i64 b),(9, .rs nx .leaf 0 n),(10,gD q.2.2.2 (k::q.2.2.1)),(27,wes own l),(28, .int .i64 l.length),(29, .int .i64 q.1)])
   (fun q hp2 nx2=>q.1≤l.length∧nx<q.2.2.2∧q.2.2.2<nx2∧hp2 nx=some (.arr .leaf (q.2.1.map V.bool))∧hp2 q.2.2.2=some .tip∧Hp.same nx h' hp2∧sD n (tI l) a b k (fun y=>∃w∈l.take q.1,w.f=k∧w.t=y) q.2.1 q.2.2.1∧lO q.2.1+q.2.2.1.length≤lO seen+rest.length)
   (fun q=>l.length-q.1) (0,seen,rest,id) ⟨Nat.zero_le _,q1,by dsimp only;omega,q3,q4,q5,(q6.start' hkb).more (fun y hy=>by simp at hy),Nat.le_refl _⟩ ?_ ?_
  ·simp only[WkL,aB,jH,jI,jJ,gD,wes,List.map_cons,go_sem,reduceIte,jA,jB,jC,jD,reduceCtorEq,jE,jF]
  rintro⟨j,seen2,rest2,id2⟩ hp2 nx2 ⟨r1,r2,r3,r4,r5,r6,r7,r8⟩
  generalize hQ2:bG _ _ _ _ _=Q2
  dsimp only at r1 r2 r3 r4 r5 r7 r8
  simp only[aB,go_sem,reduceIte,jA,jB,jC,jD,reduceCtorEq,jE,jF]
  rcases Nat.lt_or_ge j l.length with hlt|hge
  ·have hc:decide ((j:Int)<(l.length:Int))=true:=decide_eq_true (by omega)
   have hg:(l.map We.v).getD j (.tup [])= .agg [.int .i64 l[j].f, .int .i64 l[j].t, .bool l[j].p.n, .int .i64 l[j].p.a]:=bE We.v l j hlt
   have hw:IntKind.i64.wrap ((j:Int)+1)=((j+1:Nat):Int):=by rw[aV]<;>omega
   have htn:l[j].t<n:=(hfit l[j] (List.getElem_mem _)).2.1
   have hgs:=aHW seen2 l[j].t (by rw[r7.len];exact htn)
   have hsl:=r7.len
   have hl1:nx<nx2:=by omega
   have htk:l.take (j+1)=l.take j++[l[j]]:=List.take_succ_eq_append_getElem hlt
   have hcap:(rest2.length+1+1)*8≤140737488355328:=by simp only[jL] at q7;omega
   have hDD:∀y,(∃w∈l.take (j+1),w.f=k∧w.t=y)→(∃w∈l.take j,w.f=k∧w.t=y)∨(l[j].f=k∧y=l[j].t):=by
    rintro y ⟨w,hw,h1,h2⟩
    rw[htk] at hw
    rcases List.mem_append.1 hw with hw|hw
    ·exact .inl ⟨w,hw,h1,h2⟩
    simp at hw;subst hw;exact .inr ⟨h1,h2.symm⟩
   by_cases hfk:l[j].f=k
   ·have hcf:((l[j].f:Int)==(k:Int))=true:=by simp[hfk]
    cases hs:seen2.getD l[j].t false with
    |true=>
     (repeat' (first|(with_reducible first|refine stp ?_|refine uP (by decide) ?_|refine uQ (fun _=>?_) (fun _=>?_))|((first|(with_reducible refine uA ?_;first|refine uB rfl ?_ ?_|(first|refine uC rfl ?_|refine uD rfl ?_)|refine uE rfl ?_)|(with_reducible refine uF ?_;first|refine uG rfl ?_ ?_|(first|refine uH rfl ?_|refine uI rfl ?_)|refine uJ rfl ?_|refine uK (uL ?_)|refine uK (uM ?_))|(with_reducible refine uN ?_;refine uO rfl ?_))<;>try simp only[gD,aGv,hc,hg,hw,hlt,htn,hgs,hs,hsl,hl1,hcf,r4,jK,jG,go_sem,reduceIte,jA,jB,jC,jD,reduceCtorEq,jE,jF])|(with_reducible refine uR ?_;refine uS rfl ?_)|omega))
     rw[←hQ2]
     refine aC (j+1,seen2,rest2,id2) (by dsimp only;omega) ⟨hlt,r2,by dsimp only;omega,?_,?_,(by(try dsimp only);repeat (first|exact r6|refine aS ?_ (by omega) _|refine aT ?_ (by omega))),r7.more (fun y hy=>(hDD y hy).imp (fun h=>h) fun⟨_,e⟩=>by rw[e];exact hs),r8⟩ ?_
     ·simp only[r4,hl1,go_sem,reduceIte,jA,jB,jC,jD,reduceCtorEq,jE,jF]
     ·simp only[r5,r3,go_sem,reduceIte,jA,jB,jC,jD,reduceCtorEq,jE,jF]
     simp only[WkL,aB,jH,jI,jJ,gD,wes,List.map_cons,go_sem,reduceIte,jA,jB,jC,jD,reduceCtorEq,jE,jF]
    |false=>
     have hun:=zP seen2 l[j].t (by rw[hsl];exact htn) hs
     (repeat' (first|(with_reducible first|refine stp ?_|refine uP (by decide) ?_|refine uQ (fun _=>?_) (fun _=>?_))|((first|(with_reducible refine uA ?_;first|refine uB rfl ?_ ?_|refine qE rfl rfl (by simp only[ gD,aGv,hc,hg,hw,hlt,htn,hgs,hs,hsl,hl1,hcf,r4,r5,r2,r3,hcap,jK,jG,go_sem,reduceIte,jA,jB,jC,jD,reduceCtorEq,jE,jF];try omega) ?_|(first|refine uC rfl ?_|refine uD rfl ?_)|refine uE rfl ?_)|(with_reducible refine uF ?_;first|refine uG rfl ?_ ?_|(first|refine uH rfl ?_|refine uI rfl ?_)|refine uJ rfl ?_|refine uK (uL ?_)|refine uK (uM ?_))|(with_reducible refine uN ?_;refine uO rfl ?_))<;>try simp only[gD,aGv,hc,hg,hw,hlt,htn,hgs,hs,hsl,hl1,hcf,r4,r5,r2,r3,hcap,jK,jG,go_sem,reduceIte,jA,jB,jC,jD,reduceCtorEq,jE,jF])|(with_reducible refine uR ?_;refine uS rfl ?_)|omega))
     rw[←hQ2]
     have hun2:lO (seen2.set l[j].t true)+(rest2++[l[j].t]).length≤lO seen+rest.length:=by simp only[List.length_append,jL,jM];omega
     refine aC (j+1,seen2.set l[j].t true,rest2++[l[j].t],nx2+18) (by dsimp only;omega) ⟨hlt,by dsimp only;omega,by dsimp only;omega,?_,?_,(by(try dsimp only);repeat (first|exact r6|refine aS ?_ (by omega) _|refine aT ?_ (by omega))),(r7.one htn ⟨l[j],List.getElem_mem _,hfk,rfl⟩).more (fun y hy=> .inl ((hDD y hy).imp (fun h=>h) fun h=>h.2)),hun2⟩ ?_
     ·have e1:(nx=id2)=False:=eq_false (by omega)
      simp only[e1,r4,hl1,hsl,htn,hgs,List.map_set,cS,go_sem,reduceIte,jA,jB,jC,jD,reduceCtorEq,jE,jF]
     ·simp only[go_sem,reduceIte,jA,jB,jC,jD,reduceCtorEq,jE,jF]
     simp only[WkL,aB,jH,jI,jJ,gD,wes,List.map_cons,List.map_append,go_sem,reduceIte,jA,jB,jC,jD,reduceCtorEq,jE,jF]
   have hcf:((l[j].f:Int)==(k:Int))=false:=by simp;omega
   (repeat' (first|(with_reducible first|refine stp ?_|refine uP (by decide) ?_|refine uQ (fun _=>?_) (fun _=>?_))|((first|(with_reducible refine uA ?_;first|refine uB rfl ?_ ?_|(first|refine uC rfl ?_|refine uD rfl ?_)|refine uE rfl ?_)|(with_reducible refine uF ?_;first|refine uG rfl ?_ ?_|(first|refine uH rfl ?_|refine uI rfl ?_)|refine uJ rfl ?_|refine uK (uL ?_)|refine uK (uM ?_))|(with_reducible refine uN ?_;refine uO rfl ?_))<;>try simp only[gD,aGv,hc,hg,hw,hlt,htn,hgs,hsl,hl1,hcf,r4,jK,jG,go_sem,reduceIte,jA,jB,jC,jD,reduceCtorEq,jE,jF])|(with_reducible refine uR ?_;refine uS rfl ?_)|omega))
   rw[←hQ2]
   refine aC (j+1,seen2,rest2,id2) (by dsimp only;omega) ⟨hlt,r2,by dsimp only;omega,?_,?_,(by(try dsimp only);repeat (first|exact r6|refine aS ?_ (by omega) _|refine aT ?_ (by omega))),r7.more (fun y hy=>(hDD y hy).imp (fun h=>h) fun⟨e,_⟩=>absurd e hfk),r8⟩ ?_
   ·simp only[r4,hl1,go_sem,reduceIte,jA,jB,jC,jD,reduceCtorEq,jE,jF]
   ·simp only[r5,r3,go_sem,reduceIte,jA,jB,jC,jD,reduceCtorEq,jE,jF]
   simp only[WkL,aB,jH,jI,jJ,gD,wes,List.map_cons,go_sem,reduceIte,jA,jB,jC,jD,reduceCtorEq,jE,jF]
  have hc:decide ((j:Int)<(l.length:Int))=false:=decide_eq_false (by omega)
  refine aue hc ?_
  rw[←hQ2]
  (repeat' (first|(with_reducible first|refine stp ?_|refine uP (by decide) ?_|refine uQ (fun _=>?_) (fun _=>?_))|((first|(with_reducible refine uA ?_;first|refine uB rfl ?_ ?_|(first|refine uC rfl ?_|refine uD rfl ?_)|refine uE rfl ?_)|(with_reducible refine uF ?_;first|refine uG rfl ?_ ?_|(first|refine uH rfl ?_|refine uI rfl ?_)|refine uJ rfl ?_|refine uK (uL ?_)|refine uK (uM ?_))|(with_reducible refine uN ?_;refine uO rfl ?_))<;>try simp only[gD,jK,go_sem,reduceIte,jA,jB,jC,jD,reduceCtorEq,jE,jF])|(with_reducible refine uR ?_;refine uS rfl ?_)|omega))
  rw[←hQ]
  have hfl:List.take rest2.length (rest2.map fun x:Nat=>V.int .i64 (x:Int))=rest2.map fun x:Nat=>V.int .i64 (x:Int):=List.take_of_length_le (by simp)
  rw[hfl]
  refine aC (seen2,rest2,id2) (by simp only[jL];omega) ⟨r2,r3,r4,r5,r6,(r7.more (D':=tI l k) fun y hy=> .inl ?_).finish,?_⟩ ?_
  ·obtain⟨w,h1,h2,h3⟩:=hy
   exact⟨w,by rw[show j=l.length by omega,List.take_length];exact h1,h2,h3⟩
  ·simp only[jL] at q7
   dsimp only
   omega
  simp only[WkL,aB,jH,jI,jJ,gD,go_sem,reduceIte,jA,jB,jC,jD,reduceCtorEq,jE,jF]
open Classical in
noncomputable def aFd(l:List We):Bool:=decide (aBM l)
open Classical in
theorem wZ(l:List We):aFd l=true↔aBM l:=by unfold aFd;exact decide_eq_true_iff
theorem aIw(l:List We):(zE l).length≤l.length:=List.length_filterMap_le _ _
theorem aCT(l:List We)(j:Nat)(h:j<l.length):zE (l.take (j+1))=zE (l.take j)++(if l[j].p.a=0 then [(l[j].f,l[j].t)] else []):=by
 rw[List.take_succ_eq_append_getElem h,aHj]
 simp only[zE,List.filterMap_cons,List.filterMap_nil]
 split<;>simp_all
theorem aJO(l:List We)(j:Nat)(h:j<l.length):zE (l.drop j)=(if l[j].p.a=0 then [(l[j].f,l[j].t)] else [])++zE (l.drop (j+1)):=by
 rw[List.drop_eq_getElem_cons h]
 simp only[zE,List.filterMap_cons]
 split<;>simp_all
abbrev lD(o:Own)(l:List Nat):V:= .sl .leaf o (l.map fun x:Nat=> .int .i64 (x:Int))
theorem aJh(l:List Nat)(i k:Nat)(h:l[i]?=some k):(l.map fun x:Nat=>V.int .i64 (x:Int)).getD i (.tup [])= .int .i64 (k:Int):=by
 rw[List.getD_eq_getElem?_getD,List.getElem?_map,h];rfl
theorem aBA(l:List V)(t:Nat)(v:V)(h:t<l.length):(l.set t v).getD t (.tup [])=v:=by
 rw[List.getD_eq_getElem?_getD,List.getElem?_set_self h];rfl
set_option maxRecDepth 100000 in
set_option maxHeartbeats 4000000 in
theorem aHT(own:Own)(n:Nat)(l:List We)(hfit:wC n l)(hn:n≤200)(hl:l.length≤1000)(h:Hp):aW Tryz.prog 132 [.int .i64 n,wes own l] h (.bool (aFd l)):=by
 refine aR (fun L=>trivial) fun h' nx hh=>aD L.path_idle_low fun hd=>?_
 simp only[jL,jM,jA,jB,jN,jO,jP,jQ,V.undef]
 refine aue trivial ?_
 refine aP (fun q:Nat×List Int=>aB 96 0 [(0, .int .i64 n),(1,wes own l),(5, .rs nx .leaf 0 n),(16,wes own l),(17, .int .i64 l.length),(18, .int .i64 q.1)])
  (fun q hp nx1=>q.1≤l.length∧nx+1≤nx1∧hp nx=some (.arr .leaf (q.2.map (V.int .i64)))∧Hp.same nx h' hp∧q.2.length=n∧(∀j,j<n→q.2.getD j 0=(((zE (l.take q.1)).filter fun e=>decide (e.2=j)).length:Int))∧aH hp nx1)
  (fun q=>l.length-q.1) (0,List.replicate n 0) ⟨Nat.zero_le _,Nat.le_refl _,?_,(by(try dsimp only);repeat (first|exact Hp.same.rfl'|refine aS ?_ (by omega) _|refine aT ?_ (by omega))),by simp,?_,(by(try dsimp only);repeat (first|exact aH.up hd (by omega)|refine aH.set2 ?_ (by omega) _|refine aH.del ?_|refine aH.delO ?_ _))⟩ ?_ ?_
 ·simp only[List.map_replicate,go_sem,reduceIte,jA,jB,jC,jD,reduceCtorEq,jE,jF]
 ·intro j hj
  simp[zE,List.getD_eq_getElem?_getD,hj]
 ·simp only[WkL,aB,jH,jI,jJ,wes,go_sem,reduceIte,jA,jB,jC,jD,reduceCtorEq,jE,jF]
 rintro⟨i,bR⟩ hp nx1 ⟨q1,q2,q3,q4,q5,q6,q7⟩
 generalize hQ:bG _ _ _ _ _=Q0
 dsimp only at q1 q3 q5 q6
 simp only[aB,go_sem,reduceIte,jA,jB,jC,jD,reduceCtorEq,jE,jF]
 rcases Nat.lt_or_ge i l.length with hlt|hge
 ·have hc:decide ((i:Int)<(l.length:Int))=true:=decide_eq_true (by omega)
  have hg:(l.map We.v).getD i (.tup [])= .agg [.int .i64 l[i].f, .int .i64 l[i].t, .bool l[i].p.n, .int .i64 l[i].p.a]:=bE We.v l i hlt
  have hw:IntKind.i64.wrap ((i:Int)+1)=((i+1:Nat):Int):=by rw[aV]<;>omega
  have htn:l[i].t<n:=(hfit l[i] (List.getElem_mem _)).2.1
  have hga:=aAB bR l[i].t (by omega)
  have hl1:nx<nx1:=by omega
  have hcnt:=q6 l[i].t htn
  have hle:((zE (l.take i)).filter fun e=>decide (e.2=l[i].t)).length≤1000:=Nat.le_trans (List.length_filter_le _ _) (Nat.le_trans (aIw _) (by simp;omega))
  have hw2:IntKind.i64.wrap (bR.getD l[i].t 0+1)=bR.getD l[i].t 0+1:=by rw[aV]<;>omega
  by_cases h0:l[i].p.a=0
  ·have hc0:(l[i].p.a==(0:Int))=true:=by simp[h0]
   refine aue (aDt hc hg hw hlt htn hga hl1 hw2 hc0 q3 q5) ?_
   rw[←hQ]
   refine aC (i+1,bR.set l[i].t (bR.getD l[i].t 0+1)) (by dsimp only;omega) ⟨hlt,by omega,?_,(by(try dsimp only);repeat (first|exact q4|refine aS ?_ (by omega) _|refine aT ?_ (by omega))),by simpa using q5,?_,(by(try dsimp only);repeat (first|exact aH.up q7 (by omega)|refine aH.set2 ?_ (by omega) _|refine aH.del ?_|refine aH.delO ?_ _))⟩ ?_
   ·simp only[hl1,hga,List.map_set,go_sem,reduceIte,jA,jB,jC,jD,reduceCtorEq,jE,jF]
   ·intro j hj
    dsimp only
    rw[aFe _ _ _ _ (by omega),aCT l i hlt,if_pos h0,List.filter_append]
    split
    ·rename_i e;rw[e,hcnt];simp
    rename_i e
    have e':¬l[i].t=j:=fun h=>e h.symm
    rw[q6 j hj];simp[e']
   simp only[WkL,aB,jH,jI,jJ,wes,go_sem,reduceIte,jA,jB,jC,jD,reduceCtorEq,jE,jF]
  have hc0:(l[i].p.a==(0:Int))=false:=by simp[h0]
  refine aue (ee7 hc hg hw hlt htn hl1 hc0) ?_
  rw[←hQ]
  refine aC (i+1,bR) (by dsimp only;omega) ⟨hlt,by omega,?_,(by(try dsimp only);repeat (first|exact q4|refine aS ?_ (by omega) _|refine aT ?_ (by omega))),q5,?_,(by(try dsimp only);repeat (first|exact aH.up q7 (by omega)|refine aH.set2 ?_ (by omega) _|refine aH.del ?_|refine aH.delO ?_ _))⟩ ?_
  ·simp only[hl1,q3,go_sem,reduceIte,jA,jB,jC,jD,reduceCtorEq,jE,jF]
  ·intro j hj
   dsimp only
   rw[aCT l i hlt,if_neg h0,List.append_nil];exact q6 j hj
  simp only[WkL,aB,jH,jI,jJ,wes,go_sem,reduceIte,jA,jB,jC,jD,reduceCtorEq,jE,jF]
 have hc:decide ((i:Int)<(l.length:Int))=false:=decide_eq_false (by omega)
 rw[show i=l.length by omega,List.take_length] at q6
 refine aue hc ?_
 rw[←hQ]
 refine au ?_
 refine aP (fun q:Nat×Own=>aB 96 0 [(0, .int .i64 n),(1,wes own l),(5, .rs nx .leaf 0 n),(8,lD q.2 ((List.range q.1).filter fun j=>decide (bR.getD j 0=0))),(34, .rs nx .leaf 0 n),(35, .int .i64 n),(36, .int .i64 q.1)])
  (fun q hp nx1=>q.1≤n∧nx+1≤nx1∧hp nx=some (.arr .leaf (bR.map (V.int .i64)))∧Hp.same nx h' hp∧Acc hp (nx+1) q.2 (((List.range q.1).filter fun j=>decide (bR.getD j 0=0)).map fun x:Nat=> .int .i64 (x:Int))∧aH hp nx1)
  (fun q=>n-q.1) (0, .nil) ⟨Nat.zero_le _,q2,q3,q4,Acc.nil,q7⟩ ?_ ?_
 ·simp only[WkL,aB,jH,jI,jJ,lD,wes,List.range_zero,List.filter_nil,List.map_nil,go_sem,reduceIte,jA,jB,jC,jD,reduceCtorEq,jE,jF]
 rintro⟨i2,o⟩ hp2 nx2 ⟨r1,r2,r3,r4,r5,r6⟩
 generalize hQ1:bG _ _ _ _ _=Q1
 dsimp only at r1 r5
 simp only[aB,go_sem,reduceIte,jA,jB,jC,jD,reduceCtorEq,jE,jF]
 rcases Nat.lt_or_ge i2 n with hlt2|hge2
 ·have hc2:decide ((i2:Int)<(n:Int))=true:=decide_eq_true (by omega)
  have hga:=aAB bR i2 (by omega)
  have hw:IntKind.i64.wrap ((i2:Int)+1)=((i2+1:Nat):Int):=by rw[aV]<;>omega
  have hcap:((List.range i2).filter fun j=>decide (bR.getD j 0=0)).length≤1000:=Nat.le_trans (List.length_filter_le _ _) (by simp;omega)
  by_cases h0:bR.getD i2 0=0
  ·have hc0:(bR.getD i2 0==(0:Int))=true:=by rw[h0];rfl
   have hrow:((List.range (i2+1)).filter fun j=>decide (bR.getD j 0=0))=((List.range i2).filter fun j=>decide (bR.getD j 0=0))++[i2]:=by
    rw[List.range_succ,List.filter_append];simp only[List.filter_cons,h0,decide_true,if_true,List.filter_nil]
   (repeat' (first|(with_reducible first|refine stp ?_|refine uP (by decide) ?_|refine uQ (fun _=>?_) (fun _=>?_))|((first|(with_reducible refine uA ?_;first|refine uB rfl ?_ ?_|refine qF (n0:=nx+1) rfl (by(try dsimp only);repeat' (first|exact r5|exact Acc.new _ (by simp) (by omega)|exact kK.new (by omega)|exact aH.ntip r6 (by omega)|exact fW|exact iN (by assumption)|refine fU (by omega) ?_|refine fV ?_|refine Acc.set ?_ ?_ _|refine kK.set ?_ ?_ _)) rfl (by simp) (by simp only[jK,hc2,hga,hw,hlt2,q5,r3,hc0,lD,jK,jG,go_sem,reduceIte,jA,jB,jC,jD,reduceCtorEq,jE,jF];try omega) ?_|(first|refine uC rfl ?_|refine uD rfl ?_)|refine uE rfl ?_)|(with_reducible refine uF ?_;first|refine uG rfl ?_ ?_|(first|refine uH rfl ?_|refine uI rfl ?_)|refine uJ rfl ?_|refine uK (uL ?_)|refine uK (uM ?_))|(with_reducible refine uN ?_;refine uO rfl ?_))<;>try simp only[hc2,hga,hw,hlt2,q5,r3,hc0,lD,jK,jG,go_sem,reduceIte,jA,jB,jC,jD,reduceCtorEq,jE,jF])|(with_reducible refine uR ?_;refine uS rfl ?_)|omega))
   rw[←hQ1]
   refine aC (i2+1, .tok (nx2+1)) (by dsimp only;omega) ⟨hlt2,by omega,?_,(by(try dsimp only);repeat (first|exact r4|refine aS ?_ (by omega) _|refine aT ?_ (by omega)|refine eN ?_ (fun id e=>by have:=(r5).ge id e;omega))),?_,(by(try dsimp only);repeat (first|exact aH.up r6 (by omega)|refine aH.set2 ?_ (by omega) _|refine aH.del ?_|refine aH.delO ?_ _))⟩ ?_
   ·have hne:(nx=nx2)=False:=eq_false (by omega)
    have hne1:(nx=nx2+1)=False:=eq_false (by omega)
    have:=aHe (h:=hp2.set nx2 .tip) (o:=o) (m:=nx) (fun id e=>by have:=r5.ge id e;omega)
    simp only[hne,hne1,this,r3,go_sem,reduceIte,jA,jB,jC,jD,reduceCtorEq,jE,jF]
   ·dsimp only;rw[hrow];exact Acc.new _ (by simp) (by omega)
   rw[List.range_succ] at hrow
   simp only[WkL,aB,jH,jI,jJ,lD,wes,hrow,List.map_append,go_sem,reduceIte,jA,jB,jC,jD,reduceCtorEq,jE,jF]
  have hc0:(bR.getD i2 0==(0:Int))=false:=by simpa using h0
  have hrow:((List.range (i2+1)).filter fun j=>decide (bR.getD j 0=0))=((List.range i2).filter fun j=>decide (bR.getD j 0=0)):=by
   rw[List.range_succ,List.filter_append];simp only[List.filter_cons,h0,decide_false,Bool.false_eq_true,if_false,List.filter_nil,List.append_nil]
  (repeat' (first|(with_reducible first|refine stp ?_|refine uP (by decide) ?_|refine uQ (fun _=>?_) (fun _=>?_))|((first|(with_reducible refine uA ?_;first|refine uB rfl ?_ ?_|(first|refine uC rfl ?_|refine uD rfl ?_)|refine uE rfl ?_)|(with_reducible refine uF ?_;first|refine uG rfl ?_ ?_|(first|refine uH rfl ?_|refine uI rfl ?_)|refine uJ rfl ?_|refine uK (uL ?_)|refine uK (uM ?_))|(with_reducible refine uN ?_;refine uO rfl ?_))<;>try simp only[hc2,hga,hw,hlt2,q5,r3,hc0,lD,jK,jG,go_sem,reduceIte,jA,jB,jC,jD,reduceCtorEq,jE,jF])|(with_reducible refine uR ?_;refine uS rfl ?_)|omega))
  rw[←hQ1]
  refine aC (i2+1,o) (by dsimp only;omega) ⟨hlt2,by omega,r3,r4,?_,r6⟩ ?_
  ·dsimp only;rw[hrow];exact r5
  rw[List.range_succ] at hrow
  simp only[WkL,aB,jH,jI,jJ,lD,wes,hrow,go_sem,reduceIte,jA,jB,jC,jD,reduceCtorEq,jE,jF]
 have hc2:decide ((i2:Int)<(n:Int))=false:=decide_eq_false (by omega)
 have hK:=aDH.first q5 q6
 rw[show i2=n by omega] at r5
 obtain⟨row,hrow⟩:∃row,row=(List.range n).filter fun j=>decide (bR.getD j 0=0):=⟨_,rfl⟩
 rw[←hrow] at hK r5
 refine aue hc2 ?_
 rw[←hQ1]
 rw[show i2=n by omega,←hrow]
 refine au ?_
 refine aP (fun q:Nat×List Int×List Nat×Own=>aB 96 0 [(0, .int .i64 n),(1,wes own l),(5, .rs nx .leaf 0 n),(8,lD q.2.2.2 q.2.2.1),(11, .int .i64 q.1)])
  (fun q hp nx1=>q.1≤q.2.2.1.length∧nx+1≤nx1∧hp nx=some (.arr .leaf (q.2.1.map (V.int .i64)))∧Hp.same nx h' hp∧Acc hp (nx+1) q.2.2.2 (q.2.2.1.map fun x:Nat=> .int .i64 (x:Int))∧aH hp nx1∧aDH n (zE l) q.1 q.2.1 q.2.2.1)
  (fun q=>n-q.1) (0,bR,row,o) ⟨Nat.zero_le _,r2,r3,r4,r5,r6,hK⟩ ?_ ?_
 ·simp only[WkL,aB,jH,jI,jJ,lD,wes,go_sem,reduceIte,jA,jB,jC,jD,reduceCtorEq,jE,jF]
 clear hrow r5 hK r6 r4 r3 r2
 rintro⟨i3,ah,rw3,o3⟩ hp3 nx3 ⟨s1,s2,s3,s4,s5,s6,s7⟩
 generalize hQ3:bG _ _ _ _ _=Q3
 dsimp only at s1 s3 s5 s7
 have hrl:rw3.length≤n:=kP n rw3 s7.nd s7.lt
 simp only[aB,go_sem,reduceIte,jA,jB,jC,jD,reduceCtorEq,jE,jF]
 rcases Nat.lt_or_ge i3 rw3.length with hlt3|hge3
 ·have hc3:decide ((i3:Int)<(rw3.length:Int))=true:=decide_eq_true (by omega)
  obtain⟨k,hk⟩:∃k,rw3[i3]?=some k:=⟨_,List.getElem?_eq_getElem hlt3⟩
  (repeat' (first|(with_reducible first|refine stp ?_|refine uP (by decide) ?_|refine uQ (fun _=>?_) (fun _=>?_))|((first|(with_reducible refine uA ?_;first|refine uB rfl ?_ ?_|(first|refine uC rfl ?_|refine uD rfl ?_)|refine uE rfl ?_)|(with_reducible refine uF ?_;first|refine uG rfl ?_ ?_|(first|refine uH rfl ?_|refine uI rfl ?_)|refine uJ rfl ?_|refine uK (uL ?_)|refine uK (uM ?_))|(with_reducible refine uN ?_;refine uO rfl ?_))<;>try simp only[hc3,lD,wes,jK,go_sem,reduceIte,jA,jB,jC,jD,reduceCtorEq,jE,jF])|(with_reducible refine uR ?_;refine uS rfl ?_)|omega))
  refine aP (fun q:Nat×List Int×List Nat×Own=>aB 96 0 [(0, .int .i64 n),(1,wes own l),(5, .rs nx .leaf 0 n),(8,lD q.2.2.2 q.2.2.1),(11, .int .i64 i3),(54,wes own l),(55, .int .i64 l.length),(56, .int .i64 q.1)])
   (fun q hp nx1=>q.1≤l.length∧nx+1≤nx1∧hp nx=some (.arr .leaf (q.2.1.map (V.int .i64)))∧Hp.same nx h' hp∧Acc hp (nx+1) q.2.2.2 (q.2.2.1.map fun x:Nat=> .int .i64 (x:Int))∧aH hp nx1∧KIn n (zE l) (zE (l.take q.1)) (zE (l.drop q.1)) i3 k q.2.1 q.2.2.1)
   (fun q=>l.length-q.1) (0,ah,rw3,o3) ⟨Nat.zero_le _,s2,s3,s4,s5,s6,s7.start hk⟩ ?_ ?_
  ·simp only[WkL,aB,jH,jI,jJ,lD,wes,go_sem,reduceIte,jA,jB,jC,jD,reduceCtorEq,jE,jF]
  clear s1 s2 s3 s4 s5 s6
  rintro⟨j,ah4,rw4,o4⟩ hp4 nx4 ⟨t1,t2,t3,t4,t5,t6,t7⟩
  generalize hQ4:bG _ _ _ _ _=Q4
  dsimp only at t1 t3 t5 t7
  simp only[aB,go_sem,reduceIte,jA,jB,jC,jD,reduceCtorEq,jE,jF]
  rcases Nat.lt_or_ge j l.length with hlt4|hge4
  ·have hc4:decide ((j:Int)<(l.length:Int))=true:=decide_eq_true (by omega)
   have hg:(l.map We.v).getD j (.tup [])= .agg [.int .i64 l[j].f, .int .i64 l[j].t, .bool l[j].p.n, .int .i64 l[j].p.a]:=bE We.v l j hlt4
   have hw:IntKind.i64.wrap ((j:Int)+1)=((j+1:Nat):Int):=by rw[aV]<;>omega
   have hwf:=hfit l[j] (List.getElem_mem _)
   have htn:l[j].t<n:=hwf.2.1
   have hpa:0≤l[j].p.a:=by have:=hwf.2.2;simp only[Pa.ok,Bool.and_eq_true,decide_eq_true_eq] at this;exact this.1
   have hlen4:=t7.len
   have hga:=aAB ah4 l[j].t (by omega)
   have hl1:nx<nx4:=by omega
   have hik:i3<rw4.length:=(List.getElem?_eq_some_iff.1 t7.hk).1
   have hgr:=aJh rw4 i3 k t7.hk
   have hrl4:rw4.length≤n:=kP n rw4 t7.nd t7.lt
   have zt:=aCT l j hlt4
   have zd:=aJO l j hlt4
   have hne:(nx=nx4)=False:=eq_false (by omega)
   by_cases hfk:l[j].f=k
   ·have hcf:((l[j].f:Int) != (k:Int))=false:=by simp[hfk]
    by_cases h0:l[j].p.a=0
    ·have hc0:decide ((0:Int)<l[j].p.a)=false:=decide_eq_false (by omega)
     rw[if_pos h0] at zt zd
     rw[zd,hfk] at t7
     rw[hfk] at zt
     obtain⟨u1,u2⟩:=t7.one htn
     rw[←zt] at u2
     have hbd:ah4.getD l[j].t 0≤1000:=by
      have:=t7.cnt l[j].t htn
      have h1:(((zE l).filter fun e=>decide (e.2=l[j].t)&& !((rw4.take i3).contains e.1)).length:Int)≤1000:=by
       have:=Nat.le_trans (List.length_filter_le (fun e=>decide (e.2=l[j].t)&& !((rw4.take i3).contains e.1)) (zE l)) (aIw l)
       omega
      omega
     have hw2:IntKind.i64.wrap (ah4.getD l[j].t 0-1)=ah4.getD l[j].t 0-1:=by rw[aV]<;>omega
     have hset:((ah4.map (V.int .i64)).set l[j].t (.int .i64 (ah4.getD l[j].t 0-1))).getD l[j].t (.tup [])= .int .i64 (ah4.getD l[j].t 0-1):=aBA _ _ _ (by simpa using(by omega:l[j].t<ah4.length))
     have hms:(ah4.map (V.int .i64)).set l[j].t (.int .i64 (ah4.getD l[j].t 0-1))=(ah4.set l[j].t (ah4.getD l[j].t 0-1)).map (V.int .i64):=by rw[List.map_set]
     by_cases hz:ah4.getD l[j].t 0-1=0
     ·have hcz:(ah4.getD l[j].t 0-1==(0:Int))=true:=by rw[hz];rfl
      rw[if_pos hz] at u2
      (repeat' (first|(with_reducible first|refine stp ?_|refine uP (by decide) ?_|refine uQ (fun _=>?_) (fun _=>?_))|((first|(with_reducible refine uA ?_;first|refine uB rfl ?_ ?_|refine qF (n0:=nx+1) rfl (by(try dsimp only);repeat' (first|exact t5|exact Acc.new _ (by simp) (by omega)|exact kK.new (by omega)|exact aH.ntip t6 (by omega)|exact fW|exact iN (by assumption)|refine fU (by omega) ?_|refine fV ?_|refine Acc.set ?_ ?_ _|refine kK.set ?_ ?_ _)) rfl (by simp) (by simp only[jK,hc4,hg,hw,hlt4,htn,hlen4,hga,hl1,hik,hgr,hcf,hc0,hw2,hset,hcz,t3,lD,wes,jK,List.length_set,jG,go_sem,reduceIte,jA,jB,jC,jD,reduceCtorEq,jE,jF];try omega) ?_|(first|refine uC rfl ?_|refine uD rfl ?_)|refine uE rfl ?_)|(with_reducible refine uF ?_;first|refine uG rfl ?_ ?_|(first|refine uH rfl ?_|refine uI rfl ?_)|refine uJ rfl ?_|refine uK (uL ?_)|refine uK (uM ?_))|(with_reducible refine uN ?_;refine uO rfl ?_))<;>try simp only[hc4,hg,hw,hlt4,htn,hlen4,hga,hl1,hik,hgr,hcf,hc0,hw2,hset,hcz,t3,lD,wes,jK,List.length_set,jG,go_sem,reduceIte,jA,jB,jC,jD,reduceCtorEq,jE,jF])|(with_reducible refine uR ?_;refine uS rfl ?_)|omega))
      rw[←hQ4]
      refine aC (j+1,ah4.set l[j].t (ah4.getD l[j].t 0-1),rw4++[l[j].t], .tok (nx4+17)) (by dsimp only;omega) ⟨hlt4,by omega,?_,(by(try dsimp only);repeat (first|exact t4|refine aS ?_ (by omega) _|refine aT ?_ (by omega)|refine eN ?_ (fun id e=>by have:=(t5).ge id e;omega))),?_,(by(try dsimp only);repeat (first|exact aH.up t6 (by omega)|refine aH.set2 ?_ (by omega) _|refine aH.del ?_|refine aH.delO ?_ _)),u2⟩ ?_
      ·have e1:(nx=nx4+17)=False:=eq_false (by omega)
       have hdo:∀hq:Hp,hq.delO o4 nx=hq nx:=fun hq=>aHe (fun id e=>by have:=t5.ge id e;omega)
       simp only[hdo,hne,hl1,hga,hms,go_sem,reduceIte,jA,jB,jC,jD,reduceCtorEq,jE,jF]
      ·dsimp only;rw[List.map_append];exact Acc.new _ (by simp) (by omega)
      simp only[WkL,aB,jH,jI,jJ,lD,wes,List.map_append,go_sem,reduceIte,jA,jB,jC,jD,reduceCtorEq,jE,jF]
     have hcz:(ah4.getD l[j].t 0-1==(0:Int))=false:=by simpa using hz
     rw[if_neg hz] at u2
     (repeat' (first|(with_reducible first|refine stp ?_|refine uP (by decide) ?_|refine uQ (fun _=>?_) (fun _=>?_))|((first|(with_reducible refine uA ?_;first|refine uB rfl ?_ ?_|(first|refine uC rfl ?_|refine uD rfl ?_)|refine uE rfl ?_)|(with_reducible refine uF ?_;first|refine uG rfl ?_ ?_|(first|refine uH rfl ?_|refine uI rfl ?_)|refine uJ rfl ?_|refine uK (uL ?_)|refine uK (uM ?_))|(with_reducible refine uN ?_;refine uO rfl ?_))<;>try simp only[hc4,hg,hw,hlt4,htn,hlen4,hga,hl1,hik,hgr,hcf,hc0,hw2,hset,hcz,t3,lD,wes,jK,List.length_set,jG,go_sem,reduceIte,jA,jB,jC,jD,reduceCtorEq,jE,jF])|(with_reducible refine uR ?_;refine uS rfl ?_)|omega))
     rw[←hQ4]
     refine aC (j+1,ah4.set l[j].t (ah4.getD l[j].t 0-1),rw4,o4) (by dsimp only;omega) ⟨hlt4,by omega,?_,(by(try dsimp only);repeat (first|exact t4|refine aS ?_ (by omega) _|refine aT ?_ (by omega))),?_,(by(try dsimp only);repeat (first|exact aH.up t6 (by omega)|refine aH.set2 ?_ (by omega) _|refine aH.del ?_|refine aH.delO ?_ _)),u2⟩ ?_
     ·simp only[hne,hl1,hga,hms,go_sem,reduceIte,jA,jB,jC,jD,reduceCtorEq,jE,jF]
     ·exact(by(try dsimp only);repeat' (first|exact t5|exact Acc.new _ (by simp) (by omega)|exact kK.new (by omega)|exact aH.ntip t6 (by omega)|exact fW|exact iN (by assumption)|refine fU (by omega) ?_|refine fV ?_|refine Acc.set ?_ ?_ _|refine kK.set ?_ ?_ _))
     simp only[WkL,aB,jH,jI,jJ,lD,wes,go_sem,reduceIte,jA,jB,jC,jD,reduceCtorEq,jE,jF]
    have hc0:decide ((0:Int)<l[j].p.a)=true:=decide_eq_true (by omega)
    rw[if_neg h0] at zt zd
    rw[List.append_nil] at zt
    rw[jQ] at zd
    (repeat' (first|(with_reducible first|refine stp ?_|refine uP (by decide) ?_|refine uQ (fun _=>?_) (fun _=>?_))|((first|(with_reducible refine uA ?_;first|refine uB rfl ?_ ?_|(first|refine uC rfl ?_|refine uD rfl ?_)|refine uE rfl ?_)|(with_reducible refine uF ?_;first|refine uG rfl ?_ ?_|(first|refine uH rfl ?_|refine uI rfl ?_)|refine uJ rfl ?_|refine uK (uL ?_)|refine uK (uM ?_))|(with_reducible refine uN ?_;refine uO rfl ?_))<;>try simp only[hc4,hg,hw,hlt4,htn,hl1,hik,hgr,hcf,hc0,lD,wes,jK,jG,go_sem,reduceIte,jA,jB,jC,jD,reduceCtorEq,jE,jF])|(with_reducible refine uR ?_;refine uS rfl ?_)|omega))
    rw[←hQ4]
    refine aC (j+1,ah4,rw4,o4) (by dsimp only;omega) ⟨hlt4,by omega,?_,(by(try dsimp only);repeat (first|exact t4|refine aS ?_ (by omega) _|refine aT ?_ (by omega))),?_,(by(try dsimp only);repeat (first|exact aH.up t6 (by omega)|refine aH.set2 ?_ (by omega) _|refine aH.del ?_|refine aH.delO ?_ _)),by dsimp only;rw[zt,←zd];exact t7⟩ ?_
    ·simp only[hne,t3,go_sem,reduceIte,jA,jB,jC,jD,reduceCtorEq,jE,jF]
    ·exact(by(try dsimp only);repeat' (first|exact t5|exact Acc.new _ (by simp) (by omega)|exact kK.new (by omega)|exact aH.ntip t6 (by omega)|exact fW|exact iN (by assumption)|refine fU (by omega) ?_|refine fV ?_|refine Acc.set ?_ ?_ _|refine kK.set ?_ ?_ _))
    simp only[WkL,aB,jH,jI,jJ,lD,wes,go_sem,reduceIte,jA,jB,jC,jD,reduceCtorEq,jE,jF]
   have hcf:((l[j].f:Int) != (k:Int))=true:=by simp;omega
   have hK':KIn n (zE l) (zE (l.take (j+1))) (zE (l.drop (j+1))) i3 k ah4 rw4:=by
    by_cases h0:l[j].p.a=0
    ·rw[if_pos h0] at zt zd
     rw[zd] at t7
     rw[zt]
     exact t7.other hfk
    rw[if_neg h0] at zt zd
    rw[List.append_nil] at zt
    rw[jQ] at zd
    rw[zt,←zd];exact t7
   (repeat' (first|(with_reducible first|refine stp ?_|refine uP (by decide) ?_|refine uQ (fun _=>?_) (fun _=>?_))|((first|(with_reducible refine uA ?_;first|refine uB rfl ?_ ?_|(first|refine uC rfl ?_|refine uD rfl ?_)|refine uE rfl ?_)|(with_reducible refine uF ?_;first|refine uG rfl ?_ ?_|(first|refine uH rfl ?_|refine uI rfl ?_)|refine uJ rfl ?_|refine uK (uL ?_)|refine uK (uM ?_))|(with_reducible refine uN ?_;refine uO rfl ?_))<;>try simp only[hc4,hg,hw,hlt4,htn,hl1,hik,hgr,hcf,lD,wes,jK,jG,go_sem,reduceIte,jA,jB,jC,jD,reduceCtorEq,jE,jF])|(with_reducible refine uR ?_;refine uS rfl ?_)|omega))
   rw[←hQ4]
   refine aC (j+1,ah4,rw4,o4) (by dsimp only;omega) ⟨hlt4,by omega,?_,(by(try dsimp only);repeat (first|exact t4|refine aS ?_ (by omega) _|refine aT ?_ (by omega))),?_,(by(try dsimp only);repeat (first|exact aH.up t6 (by omega)|refine aH.set2 ?_ (by omega) _|refine aH.del ?_|refine aH.delO ?_ _)),hK'⟩ ?_
   ·simp only[hne,t3,go_sem,reduceIte,jA,jB,jC,jD,reduceCtorEq,jE,jF]
   ·exact(by(try dsimp only);repeat' (first|exact t5|exact Acc.new _ (by simp) (by omega)|exact kK.new (by omega)|exact aH.ntip t6 (by omega)|exact fW|exact iN (by assumption)|refine fU (by omega) ?_|refine fV ?_|refine Acc.set ?_ ?_ _|refine kK.set ?_ ?_ _))
   simp only[WkL,aB,jH,jI,jJ,lD,wes,go_sem,reduceIte,jA,jB,jC,jD,reduceCtorEq,jE,jF]
  have hc4:decide ((j:Int)<(l.length:Int))=false:=decide_eq_false (by omega)
  have hw3:IntKind.i64.wrap ((i3:Int)+1)=((i3+1:Nat):Int):=by rw[aV]<;>omega
  rw[show j=l.length by omega,List.take_length,List.drop_length] at t7
  have hik:i3<rw4.length:=(List.getElem?_eq_some_iff.1 t7.hk).1
  refine aue (ee2 hc4 hw3) ?_
  rw[←hQ4]
  refine aue (ee2 hc4 hw3) ?_
  rw[←hQ3]
  refine aC (i3+1,ah4,rw4,o4) (by dsimp only;omega) ⟨hik,t2,t3,t4,t5,t6,t7.finish⟩ ?_
  simp only[WkL,aB,jH,jI,jJ,lD,wes,go_sem,reduceIte,jA,jB,jC,jD,reduceCtorEq,jE,jF]
 have hc3:decide ((i3:Int)<(rw3.length:Int))=false:=decide_eq_false (by omega)
 rw[show i3=rw3.length by omega] at s7
 have hdone:=s7.done (aKA hfit)
 (repeat' (first|(with_reducible first|refine stp ?_|refine uP (by decide) ?_|refine uQ (fun _=>?_) (fun _=>?_))|((first|(with_reducible refine uA ?_;first|refine uB rfl ?_ ?_|(first|refine uC rfl ?_|refine uD rfl ?_)|refine uE rfl ?_)|(with_reducible refine uF ?_;first|refine uG rfl ?_ ?_|(first|refine uH rfl ?_|refine uI rfl ?_)|refine uJ rfl ?_|refine uK (uL ?_)|refine uK (uM ?_))|(with_reducible refine uN ?_;refine uO rfl ?_))<;>try simp only[hc3,lD,wes,jK,go_sem,reduceIte,jA,jB,jC,jD,reduceCtorEq,jE,jF])|(with_reducible refine uR ?_;refine uS rfl ?_)|omega))
 rw[←hQ3]
 (repeat' (first|(with_reducible first|refine stp ?_|refine uP (by decide) ?_|refine uQ (fun _=>?_) (fun _=>?_))|((first|(with_reducible refine uA ?_;first|refine uB rfl ?_ ?_|(first|refine uC rfl ?_|refine uD rfl ?_)|refine uE rfl ?_)|(with_reducible refine uF ?_;first|refine uG rfl ?_ ?_|(first|refine uH rfl ?_|refine uI rfl ?_)|refine uJ rfl ?_|refine uK (uL ?_)|refine uK (uM ?_))|(with_reducible refine uN ?_;refine uO rfl ?_))<;>try simp only[hc3,lD,wes,jK,go_sem,reduceIte,jA,jB,jC,jD,reduceCtorEq,jE,jF])|(with_reducible refine uR ?_;refine uS rfl ?_)|omega))
 refine aF h' (s4.le hd (Hp.le_refl _)) ⟨?_,rfl⟩
 simp only[go_sem,reduceIte,jA,jB,jC,jD,reduceCtorEq,jE,jF]
 congr 1
 rw[Bool.eq_iff_iff,wZ,decide_eq_true_iff]
 rw[show((rw3.length:Int)<(n:Int))↔rw3.length<n by omega]
 exact hdone
end Go.Proofs.YtemjhgboialjpaaGreat
