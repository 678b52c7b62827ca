/-
Texts of this proof,one behind the other. No conditions.
-/
import Derived.Test.YtecepaehmojpgaaGreatKLow
import Derived.Test.YtecepaehmojpgaaGreatKe
import Derived.Test.YtecepaehmojpgaaGreatKd
open Nat renaming reduceAdd→jA,reduceSub→jB,reduceLT→jC,reduceLeDiff→jD,reduceEqDiff→jE
open Int renaming reduceToNat→jF,toNat_natCast→jG,natCast_add→jH,natCast_one→jI,natCast_zero→jJ
open List renaming length_map→jK,length_cons→jL,length_nil→jM,replicate_succ→jN,replicate_zero→jO,cons_append→jP,nil_append→jQ
set_option linter.unusedSimpArgs false
set_option linter.unusedVariables false
set_option linter.unusedSectionVars false
namespace Go.Proofs.YtecepaehmojpgaaGreat
open Go.RowKit
attribute [local go_sem] oS iL aA.ok aA.next LOp.ok LOp.next bD.ok bD.out aL.ev bF aDU mL lA tV V.fits V.leafy V.cells V.cell V.undef cJ bY bR Sh.size Hp.set Hp.del nZ iQ vH gU aA.dok aA.dres LOp.dok LOp.dout aDF aBu mU cZ xD Hp.turn veq hZ iO List.take_succ_cons List.take_zero List.take_nil List.drop_succ_cons List.drop_zero List.drop_nil List.set_cons_succ List.set_cons_zero List.getD_cons_succ List.getD_cons_zero jL jM List.map_cons List.map_nil List.all_cons List.all_nil List.mem_cons List.not_mem_nil jN jO jP jQ List.append_nil List.isEmpty_cons List.isEmpty_nil fF eQ tK Option.getD_some Option.isSome_some Option.isSome_none Nat.add_eq Nat.zero_add Nat.add_zero true_and and_true and_self true_implies implies_true false_implies forall_const forall_eq forall_eq_or_imp ne_eq not_false_eq_true not_true_eq_false Bool.not_true Bool.not_false decide_true decide_false Bool.and_true Bool.true_and Bool.and_false Bool.false_and true_or or_true false_or or_false eq_self Bool.false_eq_true aKi aIb mI aB dT eP gH tD pZ tC jS lK dX jG Int.toNat_zero List.take_length
structure Tm where
 e:Int
 r:Int
 deriving DecidableEq,Inhabited
def Tm.v(t:Tm):V:= .agg [.int .i64 t.e, .int .i64 t.r]
theorem Tm.names_v(L:Nat→Prop)(t:Tm):t.v.names L:=by simp[Tm.v,V.names,bP]
def Tm.le(a b:Tm):Bool:=decide (a.e≤b.e)&&decide (a.r≤b.r)
def Tm.ok(t:Tm):Bool:=decide (0≤t.e)&&decide (t.e≤1048576)&&(decide (0≤t.r)&&decide (t.r≤1048576))
def Tm.less(a b:Tm):Bool:=decide (a.e<b.e)||(decide (a.e=b.e)&&decide (a.r<b.r))
theorem oE(n m:Int)(h:Hp):aZ Tryz.prog 104 [.int .i64 n, .int .i64 m] h (.bool (decide (0≤n)&&decide (n≤m))):=by
 refine aU (fun L=>trivial) fun h' nx hh=>aD L.stamp_within_low fun hd=>?_
 simp only[jL,jM,jA,jB,jN,jO,jP,jQ,V.undef]
 by_cases h0:0≤n
 all_goals
  refine bI (bN ?_)
  refine bB 1 rfl (by simp only[L.stamp_within_r0,go_sem,reduceIte,jA,jB,jC,jD,reduceCtorEq,jE,jF];try omega) ?_
  simp only[L.stamp_within_r0,go_sem,reduceIte,jA,jB,jC,jD,reduceCtorEq,jE,jF]
  refine aO (bI (bN ?_))
  refine bB 8 rfl (by simp only[L.stamp_within_r1,h0,go_sem,reduceIte,jA,jB,jC,jD,reduceCtorEq,jE,jF];try omega) ?_
  simp only[L.stamp_within_r1,h0,go_sem,reduceIte,jA,jB,jC,jD,reduceCtorEq,jE,jF]
  exact aO (bU ⟨h',Hp.le_refl _,rfl,rfl⟩)
theorem wJ(a b:Tm)(h:Hp):aZ Tryz.prog 84 [a.v,b.v] h (.bool (a.le b)):=by
 refine aU (fun L=>trivial) fun h' nx hh=>aD L.stamp_AtMost_low fun hd=>?_
 simp only[jL,jM,jA,jB,jN,jO,jP,jQ,V.undef]
 by_cases h0:a.e≤b.e
 all_goals
  refine bI (bN ?_)
  refine bB 3 rfl (by simp only[L.stamp_AtMost_r0,Tm.v,go_sem,reduceIte,jA,jB,jC,jD,reduceCtorEq,jE,jF];try omega) ?_
  simp only[L.stamp_AtMost_r0,Tm.v,go_sem,reduceIte,jA,jB,jC,jD,reduceCtorEq,jE,jF]
  refine aO (bI (bN ?_))
  refine bB 13 rfl (by simp only[L.stamp_AtMost_r1,Tm.v,h0,go_sem,reduceIte,jA,jB,jC,jD,reduceCtorEq,jE,jF];try omega) ?_
  simp only[L.stamp_AtMost_r1,Tm.v,h0,go_sem,reduceIte,jA,jB,jC,jD,reduceCtorEq,jE,jF]
  refine aO (bU ⟨h',aJ hd (aJ hd (Hp.le_refl _) (by omega) _) (by omega) _,?_,rfl⟩)
  simp[Tm.le,h0,mI]
theorem nC(t:Tm)(h:Hp):aZ Tryz.prog 66 [t.v] h (.bool t.ok):=by
 refine aU (fun L=>trivial) fun h' nx hh=>aD L.stamp_Right_low fun hd=>?_
 simp only[jL,jM,jA,jB,jN,jO,jP,jQ,V.undef]
 refine bI (bN ?_)
 refine bB 2 rfl (by simp only[L.stamp_Right_r0,Tm.v,go_sem,reduceIte,jA,jB,jC,jD,reduceCtorEq,jE,jF];try omega) ?_
 simp only[L.stamp_Right_r0,Tm.v,go_sem,reduceIte,jA,jB,jC,jD,reduceCtorEq,jE,jF]
 refine aO (bI (bN ?_))
 refine bB 2 rfl (by simp only[L.stamp_Right_r1,Tm.v,go_sem,reduceIte,jA,jB,jC,jD,reduceCtorEq,jE,jF];try omega) ?_
 simp only[L.stamp_Right_r1,Tm.v,go_sem,reduceIte,jA,jB,jC,jD,reduceCtorEq,jE,jF]
 refine aQ (oE _ _ _) rfl (aR _) ?_
 simp only[ go_sem,reduceIte,jA,jB,jC,jD,reduceCtorEq,jE,jF]
 generalize h0:(decide (0≤t.e)&&decide (t.e≤1048576))=c
 cases c
 ·refine bB 3 rfl (by simp only[L.stamp_Right_r1,go_sem,reduceIte,jA,jB,jC,jD,reduceCtorEq,jE,jF];try omega) ?_
  simp only[L.stamp_Right_r1,go_sem,reduceIte,jA,jB,jC,jD,reduceCtorEq,jE,jF]
  refine rF rfl (fun h=>by cases h) (fun _=>?_)
  refine bB 2 rfl (by simp only[L.stamp_Right_r1,go_sem,reduceIte,jA,jB,jC,jD,reduceCtorEq,jE,jF];try omega) ?_
  simp only[L.stamp_Right_r1,go_sem,reduceIte,jA,jB,jC,jD,reduceCtorEq,jE,jF]
  refine aO (bU (aG h' (aJ hd (Hp.le_refl _) (by omega) _) ⟨?_,rfl⟩))
  simp[Tm.ok,h0]
 refine bB 3 rfl (by simp only[L.stamp_Right_r1,go_sem,reduceIte,jA,jB,jC,jD,reduceCtorEq,jE,jF];try omega) ?_
 simp only[L.stamp_Right_r1,go_sem,reduceIte,jA,jB,jC,jD,reduceCtorEq,jE,jF]
 refine rF rfl (fun _=>?_) (fun h=>absurd rfl h)
 refine aQ (oE _ _ _) rfl (aR _) ?_
 simp only[ go_sem,reduceIte,jA,jB,jC,jD,reduceCtorEq,jE,jF]
 refine bB 2 rfl (by simp only[L.stamp_Right_r1,go_sem,reduceIte,jA,jB,jC,jD,reduceCtorEq,jE,jF];try omega) ?_
 simp only[L.stamp_Right_r1,go_sem,reduceIte,jA,jB,jC,jD,reduceCtorEq,jE,jF]
 refine aO (bU (aG h' (aJ hd (Hp.le_refl _) (by omega) _) ⟨?_,rfl⟩))
 simp[Tm.ok,h0]
abbrev tms(own:Own)(l:List Tm):V:= .sl (.agg 2) own (l.map Tm.v)
theorem aIv{α:Type} [Inhabited α](f:α→V)(l:List α)(k:Nat)(h:k<l.length):(l.map f).getD k (.tup [])=f l[k]:=by
 rw[List.getD_eq_getElem?_getD,List.getElem?_eq_getElem (by simpa using h)]
 simp
def aDq(p:Tm→Bool)(l:List Tm):Int:=match l.findIdx? p with
 |some i=>i
 |none=>-1
theorem yX(p:Tm→Bool)(own:Own)(l:List Tm)(g:Nat)(caps:List V)(h:Hp)(hp:∀x:Tm,aZ Tryz.prog g ([x.v]++caps) h (.bool (p x)))(hl:l.length≤1000000):
 aZ Tryz.prog 111 [tms own l, .fn (.func g) [] caps] h (.int .i64 (aDq p l)):=by
 refine aU (fun L=>trivial) fun h' nx hh=>aD L.slices_IndexFunc_stamp_Time_stamp_Time_low fun hd=>?_
 simp only[jL,jM,jA,jB,jN,jO,jP,jQ,V.undef]
 refine bI (bN ?_)
 refine bB 1 rfl (by simp only[L.slices_IndexFunc_stamp_Time_stamp_Time_r0,go_sem,reduceIte,jA,jB,jC,jD,reduceCtorEq,jE,jF];try omega) ?_
 simp only[L.slices_IndexFunc_stamp_Time_stamp_Time_r0,go_sem,reduceIte,jA,jB,jC,jD,reduceCtorEq,jE,jF]
 refine aO (bI (bI (bN ?_)))
 refine bB 3 rfl (by simp only[L.slices_IndexFunc_stamp_Time_stamp_Time_r1,tms,jK,go_sem,reduceIte,jA,jB,jC,jD,reduceCtorEq,jE,jF];try omega) ?_
 simp only[L.slices_IndexFunc_stamp_Time_stamp_Time_r1,tms,jK,go_sem,reduceIte,jA,jB,jC,jD,reduceCtorEq,jE,jF]
 refine aO (cT (mO (fun k:Nat=>k≤l.length∧∀x∈l.take k,p x=false) (fun k=>⟨aB 19 0 [(0,tms own l),(1, .fn (.func g) [] caps),(7, .int .i64 l.length),(8, .int .i64 k)],h',nx⟩) (fun k=>l.length-k) 0 ⟨Nat.zero_le _,by simp⟩ ?_ ?_))
 ·refine nV (by simp only[WkL,aB,jH,jI,jJ,Tm.v,tms,go_sem,reduceIte,jA,jB,jC,jD,reduceCtorEq,jE,jF]) ?_ ?_
  ·exact Hp.le_refl _
  omega
 rintro k ⟨hk,hno⟩
 simp only[aB,go_sem,reduceIte,jA,jB,jC,jD,reduceCtorEq,jE,jF]
 refine bI (bN ?_)
 refine bB 1 rfl (by simp only[L.slices_IndexFunc_stamp_Time_stamp_Time_r2,go_sem,reduceIte,jA,jB,jC,jD,reduceCtorEq,jE,jF];try omega) ?_
 simp only[L.slices_IndexFunc_stamp_Time_stamp_Time_r2,go_sem,reduceIte,jA,jB,jC,jD,reduceCtorEq,jE,jF]
 refine aO (bI (cP _ rfl (fun hc=>?_) (fun hc=>?_)))
 ·have hlt:k<l.length:=by simpa using hc
  have hg:=aIv Tm.v l k hlt
  refine dZ (aO (bI (cT (bI (bN ?_)))))
  refine bB 2 rfl (by simp only[L.slices_IndexFunc_stamp_Time_stamp_Time_r3,go_sem,reduceIte,jA,jB,jC,jD,reduceCtorEq,jE,jF];try omega) ?_
  simp only[L.slices_IndexFunc_stamp_Time_stamp_Time_r3,go_sem,reduceIte,jA,jB,jC,jD,reduceCtorEq,jE,jF]
  refine aO (bI (bN ?_))
  refine bB 5 rfl (by simp only[L.slices_IndexFunc_stamp_Time_stamp_Time_r4,tms,jK,jG,hg,Tm.v,go_sem,reduceIte,jA,jB,jC,jD,reduceCtorEq,jE,jF];try omega) ?_
  simp only[L.slices_IndexFunc_stamp_Time_stamp_Time_r4,tms,jK,jG,hg,Tm.v,go_sem,reduceIte,jA,jB,jC,jD,reduceCtorEq,jE,jF]
  refine nK rfl (hp l[k]) (by simp only[Tm.v,go_sem,reduceIte,jA,jB,jC,jD,reduceCtorEq,jE,jF]) (by assumption) ?_
  simp only[go_sem,reduceIte,jA,jB,jC,jD,reduceCtorEq,jE,jF]
  refine aO (cP _ rfl (fun hc=>?_) (fun hc=>?_))
  ·refine bI (bN ?_)
   refine bB 2 rfl (by simp only[L.slices_IndexFunc_stamp_Time_stamp_Time_r5,go_sem,reduceIte,jA,jB,jC,jD,reduceCtorEq,jE,jF];try omega) ?_
   simp only[L.slices_IndexFunc_stamp_Time_stamp_Time_r5,go_sem,reduceIte,jA,jB,jC,jD,reduceCtorEq,jE,jF]
   refine aO ?_
   refine bU ?_
   repeat (first|refine gK ?_|refine eL ?_|refine fA ?_)
   refine aG h' (Hp.le_refl _) ⟨?_,rfl⟩
   simp only[go_sem,reduceIte,jA,jB,jC,jD,reduceCtorEq,jE,jF]
   have:l.findIdx? p=some k:=by
    rw[List.findIdx?_eq_some_iff_getElem]
    refine⟨hlt,hc,fun j hj=>?_⟩
    have:=hno l[j] (List.mem_take_iff_getElem.2 ⟨j,by omega,rfl⟩)
    simp[this]
   simp only[aDq,this]
  refine dZ (bT (aO (bN ?_)))
  refine bB 2 rfl (by simp only[L.slices_IndexFunc_stamp_Time_stamp_Time_r6,go_sem,reduceIte,jA,jB,jC,jD,reduceCtorEq,jE,jF];try omega) ?_
  simp only[L.slices_IndexFunc_stamp_Time_stamp_Time_r6,go_sem,reduceIte,jA,jB,jC,jD,reduceCtorEq,jE,jF]
  refine gL (k+1) ⟨by omega,?_⟩ (by omega) ?_
  ·intro x hx
   rw[List.take_succ_eq_append_getElem hlt,List.mem_append,List.mem_singleton] at hx
   rcases hx with hx|rfl
   ·exact hno x hx
   exact hc
  rw[bM (by omega) (by omega)]
  refine nV (by simp only[WkL,aB,jH,jI,jJ,Tm.v,tms,go_sem,reduceIte,jA,jB,jC,jD,reduceCtorEq,jE,jF]) ?_ ?_
  ·exact Hp.le_refl _
  omega
 have hge:k=l.length:=by have:¬k<l.length:=by simpa using hc
                         omega
 refine lE ?_
 repeat (first|refine iV ?_|refine iD ?_|refine bQ (by decide) ?_)
 refine gA ?_
 refine aO (bI (bN ?_))
 refine bB 1 rfl (by simp only[L.slices_IndexFunc_stamp_Time_stamp_Time_r7,go_sem,reduceIte,jA,jB,jC,jD,reduceCtorEq,jE,jF];try omega) ?_
 simp only[L.slices_IndexFunc_stamp_Time_stamp_Time_r7,go_sem,reduceIte,jA,jB,jC,jD,reduceCtorEq,jE,jF]
 refine aO (bU (aG h' (Hp.le_refl _) ⟨?_,rfl⟩))
 simp only[go_sem,reduceIte,jA,jB,jC,jD,reduceCtorEq,jE,jF]
 rw[hge,List.take_length] at hno
 have:l.findIdx? p=none:=by
  rw[List.findIdx?_eq_none_iff]
  exact fun x hx=>hno x hx
 simp only[aDq,this]
theorem aGN(p:Tm→Bool)(l:List Tm):decide (0≤aDq p l)=l.any p:=by
 unfold aDq
 cases hf:l.findIdx? p with
 |none=>
  rw[List.findIdx?_eq_none_iff] at hf
  have:l.any p=false:=by
   rw[List.any_eq_false]
   intro x hx
   simp[hf x hx]
  simp[this]
 |some i=>
  rw[List.findIdx?_eq_some_iff_getElem] at hf
  obtain⟨h1,h2,_⟩:=hf
  have:l.any p=true:=List.any_eq_true.2 ⟨l[i],List.getElem_mem _,h2⟩
  simp[this]
theorem lU(p:Tm→Bool)(own:Own)(l:List Tm)(g:Nat)(caps:List V)(h:Hp)(hp:∀x:Tm,aZ Tryz.prog g ([x.v]++caps) h (.bool (p x)))(hl:l.length≤1000000):
 aZ Tryz.prog 76 [tms own l, .fn (.func g) [] caps] h (.bool (l.any p)):=by
 refine aU (fun L=>trivial) fun h' nx hh=>aD L.slices_ContainsFunc_stamp_Time_stamp_Time_low fun hd=>?_
 simp only[jL,jM,jA,jB,jN,jO,jP,jQ,V.undef]
 refine bI (bN ?_)
 refine bB 1 rfl (by simp only[L.slices_ContainsFunc_stamp_Time_stamp_Time_r0,go_sem,reduceIte,jA,jB,jC,jD,reduceCtorEq,jE,jF];try omega) ?_
 simp only[L.slices_ContainsFunc_stamp_Time_stamp_Time_r0,go_sem,reduceIte,jA,jB,jC,jD,reduceCtorEq,jE,jF]
 refine aO (bI (bN ?_))
 refine bB 2 rfl (by simp only[L.slices_ContainsFunc_stamp_Time_stamp_Time_r1,go_sem,reduceIte,jA,jB,jC,jD,reduceCtorEq,jE,jF];try omega) ?_
 simp only[L.slices_ContainsFunc_stamp_Time_stamp_Time_r1,go_sem,reduceIte,jA,jB,jC,jD,reduceCtorEq,jE,jF]
 refine aQ (yX p own l g caps h hp hl) rfl (by assumption) ?_
 simp only[go_sem,reduceIte,jA,jB,jC,jD,reduceCtorEq,jE,jF]
 refine bB 2 rfl (by simp only[L.slices_ContainsFunc_stamp_Time_stamp_Time_r1,go_sem,reduceIte,jA,jB,jC,jD,reduceCtorEq,jE,jF];try omega) ?_
 simp only[L.slices_ContainsFunc_stamp_Time_stamp_Time_r1,go_sem,reduceIte,jA,jB,jC,jD,reduceCtorEq,jE,jF]
 refine aO (bU (aG h' (Hp.le_refl _) ⟨?_,rfl⟩))
 simp only[go_sem,reduceIte,jA,jB,jC,jD,reduceCtorEq,jE,jF]
 rw[←aGN]
end Go.Proofs.YtecepaehmojpgaaGreat
namespace Go.Proofs.YtecepaehmojpgaaGreat
open Go.RowKit
theorem rE:aH Tryz.prog 125=some (LB.CmpInt 148):=by kernel_rfl
theorem aBZ:aH Tryz.prog 148=some LB.NaNInt:=by kernel_rfl
theorem aBj:aH Tryz.prog 124=some LB.OrInt:=by kernel_rfl
end Go.Proofs.YtecepaehmojpgaaGreat
namespace Go.Proofs.YtecepaehmojpgaaGreat
open Go.Proofs.YtecepaehmojpgaaGreat renaming gW→uA,fK→uB,cU→uC,cV→uD,cK→uE,gX→uF,dI→uG,cW→uH,cX→uI,cL→uJ,dH→uK,dN→uL,fL→uM,gY→uN,eG→uO,bQ→uP,kN→uQ,iP→uR,eU→uS
open Go.RowKit
attribute [local irreducible] IntKind.wrap
def Pa.v(p:Pa):V:= .agg [.bool p.n, .int .i64 p.a]
theorem Pa.names_v(L:Nat→Prop)(p:Pa):p.v.names L:=by simp[Pa.v,V.names,bP]
theorem Pa.fits_v(p:Pa):p.v.fits (.agg 2)=true:=by simp[Pa.v,V.fits,V.leafy]
def Pa.of(p:Pa)(t:Tm):Tm×Int:=
 if (!p.ok|| !t.ok)=true then (⟨0,0⟩,2)
 else if Tm.ok ⟨t.e,if p.n=true then p.a else p.a+t.r⟩=false then (⟨0,0⟩,1) else (⟨t.e,if p.n=true then p.a else p.a+t.r⟩,0)
def dO(n:Int):V:=if n=0 then .nilIface else .iface 64 (.int .i64 n)
theorem aKq:dO 0= .nilIface:=rfl
theorem kX(p:Pa)(h:Hp):aZ Tryz.prog 117 [p.v] h (.bool p.ok):=by
 refine aU (fun L=>trivial) fun h' nx hh=>aD L.stamp_RightPath_low fun hd=>?_
 simp only[jL,jM,jA,jB,jN,jO,jP,jQ,V.undef]
 (repeat' (first|(with_reducible first|refine stp ?_|refine uP (by decide) ?_|refine uQ (fun _=>?_) (fun _=>?_))|((first|(with_reducible refine uA ?_;first|refine uB rfl ?_ ?_|refine aQ (oE _ _ _) rfl (aR _) ?_|(first|refine uC rfl ?_|refine uD rfl ?_)|refine uE rfl ?_)|(with_reducible refine uF ?_;first|refine uG rfl ?_ ?_|(first|refine uH rfl ?_|refine uI rfl ?_)|refine uJ rfl ?_|refine uK (uL ?_)|refine uK (uM ?_))|(with_reducible refine uN ?_;refine uO rfl ?_))<;>try simp only[Pa.v,go_sem,reduceIte,jA,jB,jC,jD,reduceCtorEq,jE,jF])|(with_reducible refine uR ?_;refine uS rfl ?_)|omega))
 exact aG h' (by repeat (first|exact Hp.le_refl _|refine aJ hd ?_ (by omega) _|refine aK hd ?_ (by omega))) ⟨rfl,rfl⟩
theorem aKb(p:Pa)(h:Hp):aZ Tryz.prog 79 [p.v] h p.v:=by
 refine aU (fun L=>p.names_v L) fun h' nx hh=>aD L.corollarylaw20_Path_low fun hd=>?_
 simp only[jL,jM,jA,jB,jN,jO,jP,jQ,V.undef]
 refine aue Pa.v.eq_1 ?_
 refine aHP (by simp only[go_sem,reduceIte,jA,jB,jC,jD,reduceCtorEq,jE,jF]) h' (by repeat (first|exact Hp.le_refl _|refine aJ hd ?_ (by omega) _|refine aK hd ?_ (by omega))) ⟨?_,rfl⟩
 simp only[Pa.v,go_sem,reduceIte,jA,jB,jC,jD,reduceCtorEq,jE,jF]
theorem rI(L:Nat→Prop)(n:Int):(dO n).names L:=by unfold dO;split<;>simp[V.names]
theorem aJo(p:Pa)(t:Tm)(h1:p.ok=true)(h2:t.ok=true):IntKind.i64.wrap (p.a+t.r)=p.a+t.r∧IntKind.i64.wrap (t.r+p.a)=t.r+p.a∧IntKind.i64.wrap (0+p.a)=p.a:=by
 simp only[Pa.ok,Tm.ok,Bool.and_eq_true,decide_eq_true_eq] at h1 h2
 refine⟨bM ?_ ?_,bM ?_ ?_,?_⟩<;>try omega
 rw[bM]<;>omega
theorem vX(p:Pa)(t:Tm)(h:Hp):aZ Tryz.prog 83 [p.v,t.v] h (.tup [(p.of t).1.v,dO (p.of t).2]):=by
 refine aU (fun L=>by simp[V.names,bP,Tm.v,rI]) fun h' nx hh=>aD L.stamp_Path_Of_low fun hd=>?_
 obtain⟨n,a⟩:=p
 obtain⟨e,r⟩:=t
 have hw:=aJo ⟨n,a⟩ ⟨e,r⟩
 simp only[jL,jM,jA,jB,jN,jO,jP,jQ,V.undef]
 (repeat' (first|(with_reducible first|refine stp ?_|refine uP (by decide) ?_|refine uQ (fun _=>?_) (fun _=>?_))|((first|(with_reducible refine uA ?_;first|refine uB rfl ?_ ?_|refine aQ (kX ⟨_,_⟩ _) rfl (aR _) ?_|refine aQ (nC ⟨_,_⟩ _) rfl (aR _) ?_|(first|refine uC rfl ?_|refine uD rfl ?_)|refine uE rfl ?_)|(with_reducible refine uF ?_;first|refine uG rfl ?_ ?_|(first|refine uH rfl ?_|refine uI rfl ?_)|refine uJ rfl ?_|refine uK (uL ?_)|refine uK (uM ?_))|(with_reducible refine uN ?_;refine uO rfl ?_))<;>try simp only[Pa.v,Tm.v,go_sem,reduceIte,jA,jB,jC,jD,reduceCtorEq,jE,jF])|(with_reducible refine uR ?_;refine uS rfl ?_)|omega))
 all_goals refine dD (by simp only[go_sem,reduceIte,jA,jB,jC,jD,reduceCtorEq,jE,jF]) h' (by repeat (first|exact Hp.le_refl _|refine aJ hd ?_ (by omega) _|refine aK hd ?_ (by omega))) ⟨?_,rfl⟩
 all_goals simp only[go_sem,reduceIte,jA,jB,jC,jD,reduceCtorEq,jE,jF]
 all_goals cases hp:Pa.ok ⟨n,a⟩<;>cases ht:Tm.ok ⟨e,r⟩<;>simp_all [Pa.of,dO]
theorem dP(n:Int):veq (.iface true) (dO n) .nilIface=some (decide (n=0)):=by
 unfold dO
 split<;>simp_all [veq]
end Go.Proofs.YtecepaehmojpgaaGreat
namespace Go.Proofs.YtecepaehmojpgaaGreat
open Go.RowKit Go.Sort
structure Wy where
 f:Int
 t:Int
 p:Pa
 deriving DecidableEq,Inhabited
def num(b:Bool):Int:=if b=true then 1 else 0
def Wy.cmp(a b:Wy):Int:=orI [jX a.f b.f,jX a.t b.t,jX (num a.p.n) (num b.p.n),jX a.p.a b.p.a]
def Wy.less(a b:Wy):Bool:=decide (a.f<b.f∨(a.f=b.f∧(a.t<b.t∨(a.t=b.t∧(num a.p.n<num b.p.n∨(num a.p.n=num b.p.n∧a.p.a<b.p.a))))))
theorem xA(a b:Int):jX a b<0↔a<b:=by unfold jX;(repeat' split)<;>omega
theorem xB(a b:Int):jX a b=0↔a=b:=by unfold jX;(repeat' split)<;>omega
theorem aJl:orI []=0:=rfl
theorem aHX(x:Int)(l:List Int):orI (x::l)=if x=0 then orI l else x:=by
 rw[orI]
theorem Wy.cmp_lt(a b:Wy):a.cmp b<0↔a.less b=true:=by
 unfold Wy.cmp Wy.less
 simp only[aHX,aJl,decide_eq_true_eq]
 have h1:=xA a.f b.f;have k1:=xB a.f b.f
 have h2:=xA a.t b.t;have k2:=xB a.t b.t
 have h3:=xA (num a.p.n) (num b.p.n);have k3:=xB (num a.p.n) (num b.p.n)
 have h4:=xA a.p.a b.p.a;have k4:=xB a.p.a b.p.a
 (repeat' split)<;>omega
theorem Wy.lt_of(a b:Wy):ltOf Wy.cmp a b=a.less b:=by
 unfold ltOf
 rw[Bool.eq_iff_iff]
 simp[Wy.cmp_lt]
theorem Wy.ord:Ord Wy.less where
 irr x:=by simp[Wy.less]
 trans x y z h1 h2:=by simp only[Wy.less,decide_eq_true_eq] at*;omega
 tot x y h1 h2:=by
  obtain⟨f,t,n,a⟩:=x;obtain⟨f',t',n',a'⟩:=y
  simp only[Wy.less,decide_eq_false_iff_not] at*
  have e:num n=num n'∧f=f'∧t=t'∧a=a':=by omega
  have en:n=n':=by cases n<;>cases n'<;>simp[num] at e⊢
  simp[e,en]
theorem Wy.swo:SWO (ltOf Wy.cmp):=by
 refine⟨fun x=>?_,fun x y z=>?_,fun x y z=>?_⟩<;>simp only[Wy.lt_of,Wy.less,decide_eq_true_eq,decide_eq_false_iff_not]<;>omega
theorem Wy.tot(x y:Wy)(h1:ltOf Wy.cmp x y=false)(h2:ltOf Wy.cmp y x=false):x=y:=by
 rw[Wy.lt_of] at h1 h2
 exact Wy.ord.tot x y h1 h2
def cB(l:List Wy):List Wy:=cs (dF Wy.cmp l)
theorem rP(l:List Wy):cB l=aCd Wy.less l:=by
 refine aGM Wy.ord (dE Wy.cmp l) ?_
 have:=gJ Wy.swo l
 exact this.imp fun{x y} h=>by rw[←Wy.lt_of];exact h
theorem nS(l:List Wy)(x:Wy):x∈cB l↔x∈l:=by
 rw[rP]
 have:=(nM Wy.ord l [] List.Pairwise.nil).2 x
 unfold aCd
 simpa using this
theorem zW(l:List Wy):Inc Wy.less (cB l):=by
 rw[rP]
 exact(nM Wy.ord l [] List.Pairwise.nil).1
theorem rO(l:List Wy):(cB l).length≤l.length:=by
 have:=cs_len (dF Wy.cmp l)
 rw[(dE Wy.cmp l).length_eq] at this
 exact this
def We.wy(w:We):Wy:=⟨w.f,w.t,w.p⟩
def Wy.we(w:Wy):We:=⟨w.f.toNat,w.t.toNat,w.p⟩
def Wy.fit(P:Int)(w:Wy):Bool:=decide (0≤w.f)&&(decide (w.f<P)&&(decide (0≤w.t)&&(decide (w.t<P)&&w.p.ok)))
theorem Wy.we_wy{P:Int}{w:Wy}(h:w.fit P=true):w.we.wy=w:=by
 obtain⟨f,t,p⟩:=w
 simp only[Wy.fit,Bool.and_eq_true,decide_eq_true_eq] at h
 simp only[Wy.we,We.wy,Wy.mk.injEq,and_true]
 omega
def aAJ(n:Nat)(l:List We):Prop:=∀w∈l,w.f<n∧w.t<n∧w.p.ok=true
theorem aDA{P:Int}{ws:List Wy}(h:∀w∈ws,w.fit P=true):ws=(ws.map Wy.we).map We.wy∧aAJ P.toNat (ws.map Wy.we):=by
 constructor
 ·rw[List.map_map]
  have:ws.map (We.wy∘Wy.we)=ws.map id:=List.map_congr_left fun w hw=>Wy.we_wy (h w hw)
  rw[this,List.map_id]
 intro w hw
 obtain⟨v,hv,rfl⟩:=List.mem_map.1 hw
 have:=h v hv
 simp only[Wy.fit,Bool.and_eq_true,decide_eq_true_eq] at this
 refine⟨?_,?_,this.2.2.2.2⟩
 ·show v.f.toNat<P.toNat;omega
 show v.t.toNat<P.toNat;omega
def zE(l:List We):List (Nat×Nat):=l.filterMap fun w=>if w.p.a=0 then some (w.f,w.t) else none
theorem aHv(l:List We)(e:Nat×Nat):e∈zE l↔∃w∈l,w.p.a=0∧(w.f,w.t)=e:=by
 unfold zE
 simp only[List.mem_filterMap]
 constructor
 ·rintro⟨w,hw,h⟩
  split at h
  ·rename_i h0;injection h with h;exact⟨w,hw,h0,h⟩
  cases h
 rintro⟨w,hw,h0,rfl⟩
 exact⟨w,hw,by rw[if_pos h0]⟩
theorem aFY(a b:List We):zE (a++b)=zE a++zE b:=List.filterMap_append
theorem aKB{n:Nat}{l:List We}(h:aAJ n l):∀e∈zE l,e.1<n∧e.2<n:=by
 intro e he
 obtain⟨w,hw,_,rfl⟩:=(aHv l e).1 he
 exact⟨(h w hw).1,(h w hw).2.1⟩
def aHs(l:List We):Prop:=∃y,fU (fun a b=>(a,b)∈zE l) y y
def aBA(l:List We):Prop:=∃w∈l,w.p.n=true∧(w.t=w.f∨fU (aCy l) w.t w.f)
theorem xZ(l:List We):aCw l↔¬aBA l:=by
 constructor
 ·rintro h ⟨w,h1,h2,h3⟩;exact h w h1 h2 h3
 intro h w h1 h2 h3;exact h ⟨w,h1,h2,h3⟩
def eN(l:List Wy):Int:=(l.map fun w=>w.p.a).sum
open Classical in
noncomputable def eE(P:Int)(ws:List Wy):(Int×List Wy)×Int:=
 if P<0∨200<P∨∃w∈ws,w.fit P=false then ((0,[]),1)
 else if 1048576<eN (cB ws) then ((0,[]),1)
 else if aHs ((cB ws).map Wy.we)∨aBA ((cB ws).map Wy.we) then ((0,[]),9)
 else ((P,cB ws),0)
structure eX(P:Int)(ws:List Wy)(n:Nat)(l:List We):Prop where
 pl:P=n
 le:n≤200
 eq:ws=l.map We.wy
 fit:aAJ n l
 idle:¬aHs l
 turn:aCw l
 sum:eN ws≤1048576
 canon:cB ws=ws
open Classical in
noncomputable def jZ(P:Int)(ws:List Wy):Bool:=decide ((eE P ws).2=0∧(eE P ws).1.2=ws)
theorem kY(P:Int)(ws:List Wy):jZ P ws=true↔∃n l,eX P ws n l:=by
 unfold jZ
 rw[decide_eq_true_eq]
 constructor
 ·rintro⟨h1,h2⟩
  unfold eE at h1 h2
  split at h1
  ·cases h1
  rename_i h3
  rw[if_neg h3] at h2
  split at h1
  ·cases h1
  rename_i h4
  rw[if_neg h4] at h2
  split at h1
  ·cases h1
  rename_i h5
  rw[if_neg h5] at h2
  have h2:cB ws=ws:=h2
  have hfit:∀w∈ws,w.fit P=true:=fun w hw=>by
   cases e:w.fit P with
   |true=>rfl
   |false=>exact absurd (.inr (.inr ⟨w,hw,e⟩)) h3
  have hP:0≤P∧P≤200:=by
   constructor
   ·exact Classical.byContradiction fun h=>h3 (.inl (by omega))
   exact Classical.byContradiction fun h=>h3 (.inr (.inl (by omega)))
  rw[h2] at h4 h5
  obtain⟨k1,k2⟩:=aDA hfit
  refine⟨P.toNat,ws.map Wy.we,by omega,by omega,k1,k2,fun h=>h5 (.inl h),(xZ _).2 fun h=>h5 (.inr h),by omega,h2⟩
 rintro⟨n,l,h⟩
 obtain⟨h1,h2,h3,h4,h5,h6,h7,h8⟩:=h
 have hwe:ws.map Wy.we=l:=by
  rw[h3,List.map_map]
  have:l.map (Wy.we∘We.wy)=l.map id:=List.map_congr_left fun w _=>by obtain⟨f,t,p⟩:=w;simp[We.wy,Wy.we]
  rw[this,List.map_id]
 have hno:¬(P<0∨200<P∨∃w∈ws,w.fit P=false):=by
  rintro(h|h|⟨w,hw,h⟩)
  ·omega
  ·omega
  rw[h3] at hw
  obtain⟨v,hv,rfl⟩:=List.mem_map.1 hw
  have:=h4 v hv
  have ht:(We.wy v).fit P=true:=by
   have h3:=this.1
   have h4:=this.2.1
   have h5:=this.2.2
   show(decide ((0:Int)≤v.f)&&(decide ((v.f:Int)<P)&&(decide ((0:Int)≤v.t)&&(decide ((v.t:Int)<P)&&v.p.ok))))=true
   rw[h5,decide_eq_true (by omega),decide_eq_true (by omega),decide_eq_true (by omega),decide_eq_true (by omega)]
   rfl
  rw[ht] at h
  cases h
 unfold eE
 rw[if_neg hno,h8,if_neg (by omega),hwe,if_neg (fun h=>h.elim h5 (fun h=>(xZ l).1 h6 h))]
 exact⟨rfl,rfl⟩
end Go.Proofs.YtecepaehmojpgaaGreat
namespace Go.Proofs.YtecepaehmojpgaaGreat
open Go.Proofs.YtecepaehmojpgaaGreat renaming gW→uA,fK→uB,cU→uC,cV→uD,cK→uE,gX→uF,dI→uG,cW→uH,cX→uI,cL→uJ,dH→uK,dN→uL,fL→uM,gY→uN,eG→uO,bQ→uP,kN→uQ,iP→uR,eU→uS
open Go.RowKit Go.Sort
attribute [local irreducible] IntKind.wrap
def Wy.v(w:Wy):V:= .agg [.int .i64 w.f, .int .i64 w.t, .bool w.p.n, .int .i64 w.p.a]
theorem Wy.names_v(L:Nat→Prop)(w:Wy):w.v.names L:=by simp[Wy.v,V.names,bP]
theorem Wy.fits_v(w:Wy):w.v.fits (.agg 4)=true:=by simp[Wy.v,V.fits,V.leafy]
abbrev wys(own:Own)(l:List Wy):V:= .sl (.agg 4) own (l.map Wy.v)
abbrev pas(own:Own)(l:List Pa):V:= .sl (.agg 2) own (l.map Pa.v)
theorem kG:aH Tryz.prog 96=some (LB.ContainsFunc (.agg 4) 127):=by kernel_rfl
theorem mP:aH Tryz.prog 127=some (LB.IndexFunc (.agg 4)):=by kernel_rfl
theorem sN:aH Tryz.prog 98=some (LB.SortedFunc (.agg 4) 128 129):=by kernel_rfl
theorem yK:aH Tryz.prog 128=some (LB.Collect (.agg 4) 149):=by kernel_rfl
theorem uT:aH Tryz.prog 149=some (LB.AppendSeq (.agg 4) (.agg [.int .i64 0, .int .i64 0, .bool false, .int .i64 0]) 32):=by kernel_rfl
theorem aAu:aH Tryz.prog 99=some (LB.Values (.agg 4) 130):=by kernel_rfl
theorem wO:aH Tryz.prog 130=some (LB.ValuesIt (.agg 4) (.agg [.int .i64 0, .int .i64 0, .bool false, .int .i64 0])):=by kernel_rfl
theorem sP:aH Tryz.prog 57=some (LB.Equal (.agg 4) (.plain (.agg 4) [.int, .int, .bool, .int])):=by kernel_rfl
theorem sQ:aH Tryz.prog 107=some (LB.Clone (.agg 2) 16):=by kernel_rfl
theorem eS:aH Tryz.prog 85=some (LB.ContainsFunc (.agg 2) 118):=by kernel_rfl
theorem dR:aH Tryz.prog 118=some (LB.IndexFunc (.agg 2)):=by kernel_rfl
theorem vZ(b:Bool)(h:Hp):aZ Tryz.prog 131 [.bool b] h (.int .i64 (num b)):=by
 refine aU (fun L=>trivial) fun h' nx hh=>aD L.path_number_low fun hd=>?_
 simp only[jL,jM,jA,jB,jN,jO,jP,jQ,V.undef]
 cases b<;>(repeat' (first|(with_reducible first|refine stp ?_|refine uP (by decide) ?_|refine uQ (fun _=>?_) (fun _=>?_))|((first|(with_reducible refine uA ?_;first|refine uB rfl ?_ ?_|(first|refine uC rfl ?_|refine uD rfl ?_)|refine uE rfl ?_)|(with_reducible refine uF ?_;first|refine uG rfl ?_ ?_|(first|refine uH rfl ?_|refine uI rfl ?_)|refine uJ rfl ?_|refine uK (uL ?_)|refine uK (uM ?_))|(with_reducible refine uN ?_;refine uO rfl ?_))<;>try simp only[ go_sem,reduceIte,jA,jB,jC,jD,reduceCtorEq,jE,jF])|(with_reducible refine uR ?_;refine uS rfl ?_)|omega))<;>exact aG h' (by repeat (first|exact Hp.le_refl _|refine aJ hd ?_ (by omega) _|refine aK hd ?_ (by omega))) ⟨rfl,rfl⟩
theorem aEH(a b:Wy):aZ Tryz.prog 100 [a.v,b.v] Hp.none (.int .i64 (a.cmp b)):=by
 refine aU (fun L=>trivial) fun h' nx hh=>aD L.path_order_low fun hd=>?_
 simp only[jL,jM,jA,jB,jN,jO,jP,jQ,V.undef]
 (repeat' (first|(with_reducible first|refine stp ?_|refine uP (by decide) ?_|refine uQ (fun _=>?_) (fun _=>?_))|((first|(with_reducible refine uA ?_;first|refine uB rfl ?_ ?_|(first|refine uC rfl ?_|refine uD rfl ?_)|refine uE rfl ?_)|(with_reducible refine uF ?_;first|refine uG rfl ?_ ?_|refine bL (rM rE aBZ _ _ _) rfl (bX _) ?_|refine bL (vZ _ _) rfl (bX _) ?_|refine bL (aAY aBj _ [jX a.f b.f,jX a.t b.t,jX (num a.p.n) (num b.p.n),jX a.p.a b.p.a] (by simp) _) rfl (bX _) ?_|(first|refine uH rfl ?_|refine uI rfl ?_)|refine uJ rfl ?_|refine uK (uL ?_)|refine uK (uM ?_))|(with_reducible refine uN ?_;refine uO rfl ?_))<;>try simp only[Wy.v,go_sem,reduceIte,jA,jB,jC,jD,reduceCtorEq,jE,jF])|(with_reducible refine uR ?_;refine uS rfl ?_)|omega))
 exact aG h' (by repeat (first|exact Hp.le_refl _|refine aJ hd ?_ (by omega) _|refine aK hd ?_ (by omega))) ⟨rfl,rfl⟩
theorem aBT(w:Wy)(P:Int)(h:Hp):aZ Tryz.prog 95 [w.v, .int .i64 P] h (.bool (w.fit P)):=by
 refine aU (fun L=>trivial) fun h' nx hh=>aD L.path_within_low fun hd=>?_
 obtain⟨f,t,n,a⟩:=w
 simp only[jL,jM,jA,jB,jN,jO,jP,jQ,V.undef]
 (repeat' (first|(with_reducible first|refine stp ?_|refine uP (by decide) ?_|refine uQ (fun _=>?_) (fun _=>?_))|((first|(with_reducible refine uA ?_;first|refine uB rfl ?_ ?_|refine aQ (kX ⟨_,_⟩ _) rfl (aR _) ?_|(first|refine uC rfl ?_|refine uD rfl ?_)|refine uE rfl ?_)|(with_reducible refine uF ?_;first|refine uG rfl ?_ ?_|(first|refine uH rfl ?_|refine uI rfl ?_)|refine uJ rfl ?_|refine uK (uL ?_)|refine uK (uM ?_))|(with_reducible refine uN ?_;refine uO rfl ?_))<;>try simp only[Wy.v,go_sem,reduceIte,jA,jB,jC,jD,reduceCtorEq,jE,jF])|(with_reducible refine uR ?_;refine uS rfl ?_)|omega))
 all_goals refine aG h' (by repeat (first|exact Hp.le_refl _|refine aJ hd ?_ (by omega) _|refine aK hd ?_ (by omega))) ⟨?_,rfl⟩
 all_goals ((try simp_all [Wy.fit])<;>(try omega))
def We.v(w:We):V:= .agg [.int .i64 w.f, .int .i64 w.t, .bool w.p.n, .int .i64 w.p.a]
theorem We.fits_v(w:We):w.v.fits (.agg 4)=true:=by simp[We.v,V.fits,V.leafy]
theorem aJU(l:List We):(l.map We.wy).map Wy.v=l.map We.v:=by rw[List.map_map];rfl
abbrev wes(own:Own)(l:List We):V:= .sl (.agg 4) own (l.map We.v)
theorem zB(l:List Int)(i:Nat)(h:i<l.length):(l.map (V.int .i64)).getD i (.tup [])= .int .i64 (l.getD i 0):=by
 rw[cE (V.int .i64) l i h,List.getD_eq_getElem?_getD,List.getElem?_eq_getElem h];rfl
theorem aGR(l:List Bool)(i:Nat)(h:i<l.length):(l.map V.bool).getD i (.tup [])= .bool (l.getD i false):=by
 rw[cE V.bool l i h,List.getD_eq_getElem?_getD,List.getElem?_eq_getElem h];rfl
theorem aFw(own:Own)(l:List Wy)(hl:l.length≤1000)(hb:∀w∈l,0≤w.p.a∧w.p.a≤1048576)(h:Hp):aZ Tryz.prog 101 [wys own l] h (.int .i64 (eN l)):=by
 refine aU (fun L=>trivial) fun h' nx hh=>aD L.path_added_low fun hd=>?_
 simp only[jL,jM,jA,jB,jN,jO,jP,jQ,V.undef]
 refine aue trivial ?_
 have hsum:∀i,i≤l.length→0≤eN (l.take i)∧eN (l.take i)≤1048576*i:=by
  intro i hi
  induction i with
  |zero=>simp[eN]
  |succ i ih=>
   have ih:=ih (by omega)
   have:=hb l[i] (List.getElem_mem _)
   rw[List.take_succ_eq_append_getElem (by omega)]
   simp only[eN,List.map_append,List.map_cons,List.map_nil,List.sum_append,List.sum_cons,List.sum_nil] at ih⊢
   omega
 refine aY (fun i:Nat=>aB 19 0 [(3, .int .i64 (eN (l.take i))),(6,wys own l),(7, .int .i64 l.length),(8, .int .i64 i)]) (fun i hp nx1=>i≤l.length∧nx≤nx1∧Hp.same nx h' hp) (fun i=>l.length-i) 0 ⟨Nat.zero_le _,Nat.le_refl _,Hp.same.rfl'⟩ ?_ ?_
 ·simp only[WkL,aB,jH,jI,jJ,wys,eN,List.take_zero,List.map_nil,List.sum_nil,go_sem,reduceIte,jA,jB,jC,jD,reduceCtorEq,jE,jF]
 rintro i hp nx1 ⟨hi,hnx,hsm⟩
 generalize hQ:bZ _ _ _ _ _=Q0
 simp only[aB,go_sem,reduceIte,jA,jB,jC,jD,reduceCtorEq,jE,jF]
 rcases Nat.lt_or_ge i l.length with hlt|hge
 ·have hc:decide ((i:Int)<(l.length:Int))=true:=decide_eq_true (by omega)
  have hg:(l.map Wy.v).getD i (.tup [])= .agg [.int .i64 l[i].f, .int .i64 l[i].t, .bool l[i].p.n, .int .i64 l[i].p.a]:=cE Wy.v l i hlt
  have hs1:=hsum i hi
  have hs2:=hsum (i+1) (by omega)
  have hb1:=hb l[i] (List.getElem_mem _)
  have hsn:eN (l.take (i+1))=eN (l.take i)+l[i].p.a:=by
   rw[List.take_succ_eq_append_getElem hlt];simp only[eN,List.map_append,List.map_cons,List.map_nil,List.sum_append,List.sum_cons,List.sum_nil];omega
  have hw:IntKind.i64.wrap ((i:Int)+1)=((i+1:Nat):Int):=by rw[bM]<;>omega
  have hw2:IntKind.i64.wrap (eN (l.take i)+l[i].p.a)=eN (l.take (i+1)):=by rw[hsn,bM]<;>omega
  refine aue (ee5 hc hg hw hw2 hlt) ?_
  rw[←hQ]
  refine aI (i+1) (by omega) ⟨hlt,by omega,(by(try dsimp only);repeat (first|exact hsm|refine bJ ?_ (by omega) _|refine bO ?_ (by omega)))⟩ ?_
  simp only[WkL,aB,jH,jI,jJ,wys,go_sem,reduceIte,jA,jB,jC,jD,reduceCtorEq,jE,jF]
 have hc:decide ((i:Int)<(l.length:Int))=false:=decide_eq_false (by omega)
 refine aue hc ?_
 rw[←hQ]
 refine au ?_
 refine aG h' (hsm.le hd (Hp.le_refl _)) ⟨?_,rfl⟩
 simp only[go_sem,reduceIte,jA,jB,jC,jD,reduceCtorEq,jE,jF]
 rw[show i=l.length by omega,List.take_length]
open Classical in
noncomputable def oP(l:List We)(a b:Nat):Bool:=decide (b=a∨fU (aCy l) a b)
open Classical in
theorem qX(l:List We)(a b:Nat):oP l a b=true↔(b=a∨fU (aCy l) a b):=by unfold oP;exact decide_eq_true_iff
theorem aBR{l:List We}{a b:Nat}(h:¬(b=a∨fU (aCy l) a b)):oP l a b=false:=by
 cases e:oP l a b with
 |false=>rfl
 |true=>exact absurd ((qX l a b).1 e) h
theorem aKn(m:Nat):decide ((0:Int)<((m+1:Nat):Int))=true:=decide_eq_true (by omega)
theorem aFb(m:Nat):(0:Int)<((m+1:Nat):Int):=by omega
abbrev fS(id:Nat)(l:List Nat):V:= .sl .leaf (.tok id) (l.map fun x:Nat=> .int .i64 (x:Int))
set_option maxHeartbeats 1000000 in
theorem aAs(own:Own)(n:Nat)(l:List We)(a b:Nat)(hfit:aAJ n l)(ha:a<n)(hn:n≤200)(hl:l.length≤1000)(h:Hp):aZ Tryz.prog 133 [.int .i64 n,wes own l, .int .i64 a, .int .i64 b] h (.bool (oP l a b)):=by
 refine aU (fun L=>trivial) fun h' nx hh=>aD L.path_reaches_low fun hd=>?_
 simp only[jL,jM,jA,jB,jN,jO,jP,jQ,V.undef]
 refine aue trivial ?_
 refine aY (fun q:List Bool×List Nat×Nat=>aB 57 0 [(1,wes own l),(3, .int .i64 b),(9, .rs nx .leaf 0 n),(10,fS q.2.2 q.2.1)])
  (fun q hp nx1=>nx<q.2.2∧q.2.2<nx1∧hp nx=some (.arr .leaf (q.1.map V.bool))∧hp q.2.2=some .tip∧Hp.same nx h' hp∧Bfs n (aCy l) a b q.1 q.2.1∧kV q.1+q.2.1.length≤n+1)
  (fun q=>kV q.1+q.2.1.length) (List.replicate n false,[a],nx+1) ⟨by dsimp only;omega,by dsimp only;omega,?_,?_,(by(try dsimp only);repeat (first|exact Hp.same.rfl'|refine bJ ?_ (by omega) _|refine bO ?_ (by omega))),Bfs.first ha,?_⟩ ?_ ?_
 ·simp only[List.map_replicate,go_sem,reduceIte,jA,jB,jC,jD,reduceCtorEq,jE,jF]
 ·simp only[go_sem,reduceIte,jA,jB,jC,jD,reduceCtorEq,jE,jF]
 ·have:kV (List.replicate n false)≤n:=Nat.le_trans (List.length_filter_le _ _) (by simp)
  simp;omega
 ·simp only[WkL,aB,jH,jI,jJ,fS,go_sem,reduceIte,jA,jB,jC,jD,reduceCtorEq,jE,jF]
 rintro⟨seen,todo,id⟩ hp nx1 ⟨q1,q2,q3,q4,q5,q6,q7⟩
 generalize hQ:bZ _ _ _ _ _=Q0
 dsimp only at q1 q2 q3 q4 q6 q7
 simp only[aB,go_sem,reduceIte,jA,jB,jC,jD,reduceCtorEq,jE,jF]
 cases todo with
 |nil=>
  have hc:decide ((0:Int)<((0:Nat):Int))=false:=by decide
  (repeat' (first|(with_reducible first|refine stp ?_|refine uP (by decide) ?_|refine uQ (fun _=>?_) (fun _=>?_))|((first|(with_reducible refine uA ?_;first|refine uB rfl ?_ ?_|(first|refine uC rfl ?_|refine uD rfl ?_)|refine uE rfl ?_)|(with_reducible refine uF ?_;first|refine uG rfl ?_ ?_|(first|refine uH rfl ?_|refine uI rfl ?_)|refine uJ rfl ?_|refine uK (uL ?_)|refine uK (uM ?_))|(with_reducible refine uN ?_;refine uO rfl ?_))<;>try simp only[fS,hc,jK,go_sem,reduceIte,jA,jB,jC,jD,reduceCtorEq,jE,jF])|(with_reducible refine uR ?_;refine uS rfl ?_)|omega))
  rw[←hQ]
  refine au ?_
  refine aG h' (q5.le hd (Hp.le_refl _)) ⟨?_,rfl⟩
  simp only[go_sem,reduceIte,jA,jB,jC,jD,reduceCtorEq,jE,jF]
  rw[aBR q6.no]
 |cons k rest=>
  by_cases hkb:k=b
  ·have hcb:((k:Int)==(b:Int))=true:=by simp[hkb]
   (repeat' (first|(with_reducible first|refine stp ?_|refine uP (by decide) ?_|refine uQ (fun _=>?_) (fun _=>?_))|((first|(with_reducible refine uA ?_;first|refine uB rfl ?_ ?_|(first|refine uC rfl ?_|refine uD rfl ?_)|refine uE rfl ?_)|(with_reducible refine uF ?_;first|refine uG rfl ?_ ?_|(first|refine uH rfl ?_|refine uI rfl ?_)|refine uJ rfl ?_|refine uK (uL ?_)|refine uK (uM ?_))|(with_reducible refine uN ?_;refine uO rfl ?_))<;>try simp only[fS,aKn,aFb,hcb,jK,go_sem,reduceIte,jA,jB,jC,jD,reduceCtorEq,jE,jF])|(with_reducible refine uR ?_;refine uS rfl ?_)|omega))
   rw[←hQ]
   refine au ?_
   refine aG h' (q5.le hd (Hp.le_refl _)) ⟨?_,rfl⟩
   simp only[go_sem,reduceIte,jA,jB,jC,jD,reduceCtorEq,jE,jF]
   subst hkb
   rw[(qX l a k).2 q6.yes]
  have hcb:((k:Int)==(b:Int))=false:=by simp;omega
  (repeat' (first|(with_reducible first|refine stp ?_|refine uP (by decide) ?_|refine uQ (fun _=>?_) (fun _=>?_))|((first|(with_reducible refine uA ?_;first|refine uB rfl ?_ ?_|(first|refine uC rfl ?_|refine uD rfl ?_)|refine uE rfl ?_)|(with_reducible refine uF ?_;first|refine uG rfl ?_ ?_|(first|refine uH rfl ?_|refine uI rfl ?_)|refine uJ rfl ?_|refine uK (uL ?_)|refine uK (uM ?_))|(with_reducible refine uN ?_;refine uO rfl ?_))<;>try simp only[fS,aKn,aFb,hcb,jK,go_sem,reduceIte,jA,jB,jC,jD,reduceCtorEq,jE,jF])|(with_reducible refine uR ?_;refine uS rfl ?_)|omega))
  refine aY (fun q:Nat×List Bool×List Nat×Nat=>aB 57 0 [(1,wes own l),(3, .int .i64 b),(9, .rs nx .leaf 0 n),(10,fS q.2.2.2 (k::q.2.2.1)),(27,wes own l),(28, .int .i64 l.length),(29, .int .i64 q.1)])
   (fun q hp2 nx2=>q.1≤l.length∧nx<q.2.2.2∧q.2.2.2<nx2∧hp2 nx=some (.arr .leaf (q.2.1.map V.bool))∧hp2 q.2.2.2=some .tip∧Hp.same nx h' hp2∧qS n (aCy l) a b k (fun y=>∃w∈l.take q.1,w.f=k∧w.t=y) q.2.1 q.2.2.1∧kV q.2.1+q.2.2.1.length≤kV seen+rest.length)
   (fun q=>l.length-q.1) (0,seen,rest,id) ⟨Nat.zero_le _,q1,by dsimp only;omega,q3,q4,q5,(q6.start' hkb).more (fun y hy=>by simp at hy),Nat.le_refl _⟩ ?_ ?_
  ·simp only[WkL,aB,jH,jI,jJ,fS,wes,List.map_cons,go_sem,reduceIte,jA,jB,jC,jD,reduceCtorEq,jE,jF]
  rintro⟨j,seen2,rest2,id2⟩ hp2 nx2 ⟨r1,r2,r3,r4,r5,r6,r7,r8⟩
  generalize hQ2:bZ _ _ _ _ _=Q2
  dsimp only at r1 r2 r3 r4 r5 r7 r8
  simp only[aB,go_sem,reduceIte,jA,jB,jC,jD,reduceCtorEq,jE,jF]
  rcases Nat.lt_or_ge j l.length with hlt|hge
  ·have hc:decide ((j:Int)<(l.length:Int))=true:=decide_eq_true (by omega)
   have hg:(l.map We.v).getD j (.tup [])= .agg [.int .i64 l[j].f, .int .i64 l[j].t, .bool l[j].p.n, .int .i64 l[j].p.a]:=cE We.v l j hlt
   have hw:IntKind.i64.wrap ((j:Int)+1)=((j+1:Nat):Int):=by rw[bM]<;>omega
   have htn:l[j].t<n:=(hfit l[j] (List.getElem_mem _)).2.1
   have hgs:=aGR seen2 l[j].t (by rw[r7.len];exact htn)
   have hsl:=r7.len
   have hl1:nx<nx2:=by omega
   have htk:l.take (j+1)=l.take j++[l[j]]:=List.take_succ_eq_append_getElem hlt
   have hcap:(rest2.length+1+1)*8≤140737488355328:=by simp only[jL] at q7;omega
   have hDD:∀y,(∃w∈l.take (j+1),w.f=k∧w.t=y)→(∃w∈l.take j,w.f=k∧w.t=y)∨(l[j].f=k∧y=l[j].t):=by
    rintro y ⟨w,hw,h1,h2⟩
    rw[htk] at hw
    rcases List.mem_append.1 hw with hw|hw
    ·exact .inl ⟨w,hw,h1,h2⟩
    simp at hw;subst hw;exact .inr ⟨h1,h2.symm⟩
   by_cases hfk:l[j].f=k
   ·have hcf:((l[j].f:Int)==(k:Int))=true:=by simp[hfk]
    cases hs:seen2.getD l[j].t false with
    |true=>
     (repeat' (first|(with_reducible first|refine stp ?_|refine uP (by decide) ?_|refine uQ (fun _=>?_) (fun _=>?_))|((first|(with_reducible refine uA ?_;first|refine uB rfl ?_ ?_|(first|refine uC rfl ?_|refine uD rfl ?_)|refine uE rfl ?_)|(with_reducible refine uF ?_;first|refine uG rfl ?_ ?_|(first|refine uH rfl ?_|refine uI rfl ?_)|refine uJ rfl ?_|refine uK (uL ?_)|refine uK (uM ?_))|(with_reducible refine uN ?_;refine uO rfl ?_))<;>try simp only[fS,aFb,hc,hg,hw,hlt,htn,hgs,hs,hsl,hl1,hcf,r4,jK,jG,go_sem,reduceIte,jA,jB,jC,jD,reduceCtorEq,jE,jF])|(with_reducible refine uR ?_;refine uS rfl ?_)|omega))
     rw[←hQ2]
     refine aI (j+1,seen2,rest2,id2) (by dsimp only;omega) ⟨hlt,r2,by dsimp only;omega,?_,?_,(by(try dsimp only);repeat (first|exact r6|refine bJ ?_ (by omega) _|refine bO ?_ (by omega))),r7.more (fun y hy=>(hDD y hy).imp (fun h=>h) fun⟨_,e⟩=>by rw[e];exact hs),r8⟩ ?_
     ·simp only[r4,hl1,go_sem,reduceIte,jA,jB,jC,jD,reduceCtorEq,jE,jF]
     ·simp only[r5,r3,go_sem,reduceIte,jA,jB,jC,jD,reduceCtorEq,jE,jF]
     simp only[WkL,aB,jH,jI,jJ,fS,wes,List.map_cons,go_sem,reduceIte,jA,jB,jC,jD,reduceCtorEq,jE,jF]
    |false=>
     have hun:=xG seen2 l[j].t (by rw[hsl];exact htn) hs
     (repeat' (first|(with_reducible first|refine stp ?_|refine uP (by decide) ?_|refine uQ (fun _=>?_) (fun _=>?_))|((first|(with_reducible refine uA ?_;first|refine uB rfl ?_ ?_|refine oW rfl rfl (by simp only[ fS,aFb,hc,hg,hw,hlt,htn,hgs,hs,hsl,hl1,hcf,r4,r5,r2,r3,hcap,jK,jG,go_sem,reduceIte,jA,jB,jC,jD,reduceCtorEq,jE,jF];try omega) ?_|(first|refine uC rfl ?_|refine uD rfl ?_)|refine uE rfl ?_)|(with_reducible refine uF ?_;first|refine uG rfl ?_ ?_|(first|refine uH rfl ?_|refine uI rfl ?_)|refine uJ rfl ?_|refine uK (uL ?_)|refine uK (uM ?_))|(with_reducible refine uN ?_;refine uO rfl ?_))<;>try simp only[fS,aFb,hc,hg,hw,hlt,htn,hgs,hs,hsl,hl1,hcf,r4,r5,r2,r3,hcap,jK,jG,go_sem,reduceIte,jA,jB,jC,jD,reduceCtorEq,jE,jF])|(with_reducible refine uR ?_;refine uS rfl ?_)|omega))
     rw[←hQ2]
     have hun2:kV (seen2.set l[j].t true)+(rest2++[l[j].t]).length≤kV seen+rest.length:=by simp only[List.length_append,jL,jM];omega
     refine aI (j+1,seen2.set l[j].t true,rest2++[l[j].t],nx2+18) (by dsimp only;omega) ⟨hlt,by dsimp only;omega,by dsimp only;omega,?_,?_,(by(try dsimp only);repeat (first|exact r6|refine bJ ?_ (by omega) _|refine bO ?_ (by omega))),(r7.one htn ⟨l[j],List.getElem_mem _,hfk,rfl⟩).more (fun y hy=> .inl ((hDD y hy).imp (fun h=>h) fun h=>h.2)),hun2⟩ ?_
     ·have e1:(nx=id2)=False:=eq_false (by omega)
      simp only[e1,r4,hl1,hsl,htn,hgs,List.map_set,cG,go_sem,reduceIte,jA,jB,jC,jD,reduceCtorEq,jE,jF]
     ·simp only[go_sem,reduceIte,jA,jB,jC,jD,reduceCtorEq,jE,jF]
     simp only[WkL,aB,jH,jI,jJ,fS,wes,List.map_cons,List.map_append,go_sem,reduceIte,jA,jB,jC,jD,reduceCtorEq,jE,jF]
   have hcf:((l[j].f:Int)==(k:Int))=false:=by simp;omega
   (repeat' (first|(with_reducible first|refine stp ?_|refine uP (by decide) ?_|refine uQ (fun _=>?_) (fun _=>?_))|((first|(with_reducible refine uA ?_;first|refine uB rfl ?_ ?_|(first|refine uC rfl ?_|refine uD rfl ?_)|refine uE rfl ?_)|(with_reducible refine uF ?_;first|refine uG rfl ?_ ?_|(first|refine uH rfl ?_|refine uI rfl ?_)|refine uJ rfl ?_|refine uK (uL ?_)|refine uK (uM ?_))|(with_reducible refine uN ?_;refine uO rfl ?_))<;>try simp only[fS,aFb,hc,hg,hw,hlt,htn,hgs,hsl,hl1,hcf,r4,jK,jG,go_sem,reduceIte,jA,jB,jC,jD,reduceCtorEq,jE,jF])|(with_reducible refine uR ?_;refine uS rfl ?_)|omega))
   rw[←hQ2]
   refine aI (j+1,seen2,rest2,id2) (by dsimp only;omega) ⟨hlt,r2,by dsimp only;omega,?_,?_,(by(try dsimp only);repeat (first|exact r6|refine bJ ?_ (by omega) _|refine bO ?_ (by omega))),r7.more (fun y hy=>(hDD y hy).imp (fun h=>h) fun⟨e,_⟩=>absurd e hfk),r8⟩ ?_
   ·simp only[r4,hl1,go_sem,reduceIte,jA,jB,jC,jD,reduceCtorEq,jE,jF]
   ·simp only[r5,r3,go_sem,reduceIte,jA,jB,jC,jD,reduceCtorEq,jE,jF]
   simp only[WkL,aB,jH,jI,jJ,fS,wes,List.map_cons,go_sem,reduceIte,jA,jB,jC,jD,reduceCtorEq,jE,jF]
  have hc:decide ((j:Int)<(l.length:Int))=false:=decide_eq_false (by omega)
  refine aue hc ?_
  rw[←hQ2]
  (repeat' (first|(with_reducible first|refine stp ?_|refine uP (by decide) ?_|refine uQ (fun _=>?_) (fun _=>?_))|((first|(with_reducible refine uA ?_;first|refine uB rfl ?_ ?_|(first|refine uC rfl ?_|refine uD rfl ?_)|refine uE rfl ?_)|(with_reducible refine uF ?_;first|refine uG rfl ?_ ?_|(first|refine uH rfl ?_|refine uI rfl ?_)|refine uJ rfl ?_|refine uK (uL ?_)|refine uK (uM ?_))|(with_reducible refine uN ?_;refine uO rfl ?_))<;>try simp only[fS,jK,go_sem,reduceIte,jA,jB,jC,jD,reduceCtorEq,jE,jF])|(with_reducible refine uR ?_;refine uS rfl ?_)|omega))
  rw[←hQ]
  have hfl:List.take rest2.length (rest2.map fun x:Nat=>V.int .i64 (x:Int))=rest2.map fun x:Nat=>V.int .i64 (x:Int):=List.take_of_length_le (by simp)
  rw[hfl]
  refine aI (seen2,rest2,id2) (by simp only[jL];omega) ⟨r2,r3,r4,r5,r6,(r7.more (D':=aCy l k) fun y hy=> .inl ?_).finish,?_⟩ ?_
  ·obtain⟨w,h1,h2,h3⟩:=hy
   exact⟨w,by rw[show j=l.length by omega,List.take_length];exact h1,h2,h3⟩
  ·simp only[jL] at q7
   dsimp only
   omega
  simp only[WkL,aB,jH,jI,jJ,fS,go_sem,reduceIte,jA,jB,jC,jD,reduceCtorEq,jE,jF]
open Classical in
noncomputable def aDr(l:List We):Bool:=decide (aHs l)
open Classical in
theorem uY(l:List We):aDr l=true↔aHs l:=by unfold aDr;exact decide_eq_true_iff
theorem aHw(l:List We):(zE l).length≤l.length:=List.length_filterMap_le _ _
theorem aBC(l:List We)(j:Nat)(h:j<l.length):zE (l.take (j+1))=zE (l.take j)++(if l[j].p.a=0 then [(l[j].f,l[j].t)] else []):=by
 rw[List.take_succ_eq_append_getElem h,aFY]
 simp only[zE,List.filterMap_cons,List.filterMap_nil]
 split<;>simp_all
theorem aJa(l:List We)(j:Nat)(h:j<l.length):zE (l.drop j)=(if l[j].p.a=0 then [(l[j].f,l[j].t)] else [])++zE (l.drop (j+1)):=by
 rw[List.drop_eq_getElem_cons h]
 simp only[zE,List.filterMap_cons]
 split<;>simp_all
abbrev kK(o:Own)(l:List Nat):V:= .sl .leaf o (l.map fun x:Nat=> .int .i64 (x:Int))
theorem aIu(l:List Nat)(i k:Nat)(h:l[i]?=some k):(l.map fun x:Nat=>V.int .i64 (x:Int)).getD i (.tup [])= .int .i64 (k:Int):=by
 rw[List.getD_eq_getElem?_getD,List.getElem?_map,h];rfl
theorem aAx(l:List V)(t:Nat)(v:V)(h:t<l.length):(l.set t v).getD t (.tup [])=v:=by
 rw[List.getD_eq_getElem?_getD,List.getElem?_set_self h];rfl
set_option maxRecDepth 100000 in
set_option maxHeartbeats 4000000 in
theorem aGO(own:Own)(n:Nat)(l:List We)(hfit:aAJ n l)(hn:n≤200)(hl:l.length≤1000)(h:Hp):aZ Tryz.prog 102 [.int .i64 n,wes own l] h (.bool (aDr l)):=by
 refine aU (fun L=>trivial) fun h' nx hh=>aD L.path_idle_low fun hd=>?_
 simp only[jL,jM,jA,jB,jN,jO,jP,jQ,V.undef]
 refine aue trivial ?_
 refine aY (fun q:Nat×List Int=>aB 96 0 [(0, .int .i64 n),(1,wes own l),(5, .rs nx .leaf 0 n),(16,wes own l),(17, .int .i64 l.length),(18, .int .i64 q.1)])
  (fun q hp nx1=>q.1≤l.length∧nx+1≤nx1∧hp nx=some (.arr .leaf (q.2.map (V.int .i64)))∧Hp.same nx h' hp∧q.2.length=n∧(∀j,j<n→q.2.getD j 0=(((zE (l.take q.1)).filter fun e=>decide (e.2=j)).length:Int))∧aM hp nx1)
  (fun q=>l.length-q.1) (0,List.replicate n 0) ⟨Nat.zero_le _,Nat.le_refl _,?_,(by(try dsimp only);repeat (first|exact Hp.same.rfl'|refine bJ ?_ (by omega) _|refine bO ?_ (by omega))),by simp,?_,(by(try dsimp only);repeat (first|exact aM.up hd (by omega)|refine aM.set2 ?_ (by omega) _|refine aM.del ?_|refine aM.delO ?_ _))⟩ ?_ ?_
 ·simp only[List.map_replicate,go_sem,reduceIte,jA,jB,jC,jD,reduceCtorEq,jE,jF]
 ·intro j hj
  simp[zE,List.getD_eq_getElem?_getD,hj]
 ·simp only[WkL,aB,jH,jI,jJ,wes,go_sem,reduceIte,jA,jB,jC,jD,reduceCtorEq,jE,jF]
 rintro⟨i,bK⟩ hp nx1 ⟨q1,q2,q3,q4,q5,q6,q7⟩
 generalize hQ:bZ _ _ _ _ _=Q0
 dsimp only at q1 q3 q5 q6
 simp only[aB,go_sem,reduceIte,jA,jB,jC,jD,reduceCtorEq,jE,jF]
 rcases Nat.lt_or_ge i l.length with hlt|hge
 ·have hc:decide ((i:Int)<(l.length:Int))=true:=decide_eq_true (by omega)
  have hg:(l.map We.v).getD i (.tup [])= .agg [.int .i64 l[i].f, .int .i64 l[i].t, .bool l[i].p.n, .int .i64 l[i].p.a]:=cE We.v l i hlt
  have hw:IntKind.i64.wrap ((i:Int)+1)=((i+1:Nat):Int):=by rw[bM]<;>omega
  have htn:l[i].t<n:=(hfit l[i] (List.getElem_mem _)).2.1
  have hga:=zB bK l[i].t (by omega)
  have hl1:nx<nx1:=by omega
  have hcnt:=q6 l[i].t htn
  have hle:((zE (l.take i)).filter fun e=>decide (e.2=l[i].t)).length≤1000:=Nat.le_trans (List.length_filter_le _ _) (Nat.le_trans (aHw _) (by simp;omega))
  have hw2:IntKind.i64.wrap (bK.getD l[i].t 0+1)=bK.getD l[i].t 0+1:=by rw[bM]<;>omega
  by_cases h0:l[i].p.a=0
  ·have hc0:(l[i].p.a==(0:Int))=true:=by simp[h0]
   refine aue (aIB hc hg hw hlt htn hga hl1 hw2 hc0 q3 q5) ?_
   rw[←hQ]
   refine aI (i+1,bK.set l[i].t (bK.getD l[i].t 0+1)) (by dsimp only;omega) ⟨hlt,by omega,?_,(by(try dsimp only);repeat (first|exact q4|refine bJ ?_ (by omega) _|refine bO ?_ (by omega))),by simpa using q5,?_,(by(try dsimp only);repeat (first|exact aM.up q7 (by omega)|refine aM.set2 ?_ (by omega) _|refine aM.del ?_|refine aM.delO ?_ _))⟩ ?_
   ·simp only[hl1,hga,List.map_set,go_sem,reduceIte,jA,jB,jC,jD,reduceCtorEq,jE,jF]
   ·intro j hj
    dsimp only
    rw[aDt _ _ _ _ (by omega),aBC l i hlt,if_pos h0,List.filter_append]
    split
    ·rename_i e;rw[e,hcnt];simp
    rename_i e
    have e':¬l[i].t=j:=fun h=>e h.symm
    rw[q6 j hj];simp[e']
   simp only[WkL,aB,jH,jI,jJ,wes,go_sem,reduceIte,jA,jB,jC,jD,reduceCtorEq,jE,jF]
  have hc0:(l[i].p.a==(0:Int))=false:=by simp[h0]
  refine aue (ee7 hc hg hw hlt htn hl1 hc0) ?_
  rw[←hQ]
  refine aI (i+1,bK) (by dsimp only;omega) ⟨hlt,by omega,?_,(by(try dsimp only);repeat (first|exact q4|refine bJ ?_ (by omega) _|refine bO ?_ (by omega))),q5,?_,(by(try dsimp only);repeat (first|exact aM.up q7 (by omega)|refine aM.set2 ?_ (by omega) _|refine aM.del ?_|refine aM.delO ?_ _))⟩ ?_
  ·simp only[hl1,q3,go_sem,reduceIte,jA,jB,jC,jD,reduceCtorEq,jE,jF]
  ·intro j hj
   dsimp only
   rw[aBC l i hlt,if_neg h0,List.append_nil];exact q6 j hj
  simp only[WkL,aB,jH,jI,jJ,wes,go_sem,reduceIte,jA,jB,jC,jD,reduceCtorEq,jE,jF]
 have hc:decide ((i:Int)<(l.length:Int))=false:=decide_eq_false (by omega)
 rw[show i=l.length by omega,List.take_length] at q6
 refine aue hc ?_
 rw[←hQ]
 refine au ?_
 refine aY (fun q:Nat×Own=>aB 96 0 [(0, .int .i64 n),(1,wes own l),(5, .rs nx .leaf 0 n),(8,kK q.2 ((List.range q.1).filter fun j=>decide (bK.getD j 0=0))),(34, .rs nx .leaf 0 n),(35, .int .i64 n),(36, .int .i64 q.1)])
  (fun q hp nx1=>q.1≤n∧nx+1≤nx1∧hp nx=some (.arr .leaf (bK.map (V.int .i64)))∧Hp.same nx h' hp∧Acc hp (nx+1) q.2 (((List.range q.1).filter fun j=>decide (bK.getD j 0=0)).map fun x:Nat=> .int .i64 (x:Int))∧aM hp nx1)
  (fun q=>n-q.1) (0, .nil) ⟨Nat.zero_le _,q2,q3,q4,Acc.nil,q7⟩ ?_ ?_
 ·simp only[WkL,aB,jH,jI,jJ,kK,wes,List.range_zero,List.filter_nil,List.map_nil,go_sem,reduceIte,jA,jB,jC,jD,reduceCtorEq,jE,jF]
 rintro⟨i2,o⟩ hp2 nx2 ⟨r1,r2,r3,r4,r5,r6⟩
 generalize hQ1:bZ _ _ _ _ _=Q1
 dsimp only at r1 r5
 simp only[aB,go_sem,reduceIte,jA,jB,jC,jD,reduceCtorEq,jE,jF]
 rcases Nat.lt_or_ge i2 n with hlt2|hge2
 ·have hc2:decide ((i2:Int)<(n:Int))=true:=decide_eq_true (by omega)
  have hga:=zB bK i2 (by omega)
  have hw:IntKind.i64.wrap ((i2:Int)+1)=((i2+1:Nat):Int):=by rw[bM]<;>omega
  have hcap:((List.range i2).filter fun j=>decide (bK.getD j 0=0)).length≤1000:=Nat.le_trans (List.length_filter_le _ _) (by simp;omega)
  by_cases h0:bK.getD i2 0=0
  ·have hc0:(bK.getD i2 0==(0:Int))=true:=by rw[h0];rfl
   have hrow:((List.range (i2+1)).filter fun j=>decide (bK.getD j 0=0))=((List.range i2).filter fun j=>decide (bK.getD j 0=0))++[i2]:=by
    rw[List.range_succ,List.filter_append];simp only[List.filter_cons,h0,decide_true,if_true,List.filter_nil]
   (repeat' (first|(with_reducible first|refine stp ?_|refine uP (by decide) ?_|refine uQ (fun _=>?_) (fun _=>?_))|((first|(with_reducible refine uA ?_;first|refine uB rfl ?_ ?_|refine sR (n0:=nx+1) rfl (by(try dsimp only);repeat' (first|exact r5|exact Acc.new _ (by simp) (by omega)|exact kD.new (by omega)|exact aM.ntip r6 (by omega)|exact gS|exact iY (by assumption)|refine gQ (by omega) ?_|refine gR ?_|refine Acc.set ?_ ?_ _|refine kD.set ?_ ?_ _)) rfl (by simp) (by simp only[jK,hc2,hga,hw,hlt2,q5,r3,hc0,kK,jK,jG,go_sem,reduceIte,jA,jB,jC,jD,reduceCtorEq,jE,jF];try omega) ?_|(first|refine uC rfl ?_|refine uD rfl ?_)|refine uE rfl ?_)|(with_reducible refine uF ?_;first|refine uG rfl ?_ ?_|(first|refine uH rfl ?_|refine uI rfl ?_)|refine uJ rfl ?_|refine uK (uL ?_)|refine uK (uM ?_))|(with_reducible refine uN ?_;refine uO rfl ?_))<;>try simp only[hc2,hga,hw,hlt2,q5,r3,hc0,kK,jK,jG,go_sem,reduceIte,jA,jB,jC,jD,reduceCtorEq,jE,jF])|(with_reducible refine uR ?_;refine uS rfl ?_)|omega))
   rw[←hQ1]
   refine aI (i2+1, .tok (nx2+1)) (by dsimp only;omega) ⟨hlt2,by omega,?_,(by(try dsimp only);repeat (first|exact r4|refine bJ ?_ (by omega) _|refine bO ?_ (by omega)|refine fO ?_ (fun id e=>by have:=(r5).ge id e;omega))),?_,(by(try dsimp only);repeat (first|exact aM.up r6 (by omega)|refine aM.set2 ?_ (by omega) _|refine aM.del ?_|refine aM.delO ?_ _))⟩ ?_
   ·have hne:(nx=nx2)=False:=eq_false (by omega)
    have hne1:(nx=nx2+1)=False:=eq_false (by omega)
    have:=aFR (h:=hp2.set nx2 .tip) (o:=o) (m:=nx) (fun id e=>by have:=r5.ge id e;omega)
    simp only[hne,hne1,this,r3,go_sem,reduceIte,jA,jB,jC,jD,reduceCtorEq,jE,jF]
   ·dsimp only;rw[hrow];exact Acc.new _ (by simp) (by omega)
   rw[List.range_succ] at hrow
   simp only[WkL,aB,jH,jI,jJ,kK,wes,hrow,List.map_append,go_sem,reduceIte,jA,jB,jC,jD,reduceCtorEq,jE,jF]
  have hc0:(bK.getD i2 0==(0:Int))=false:=by simpa using h0
  have hrow:((List.range (i2+1)).filter fun j=>decide (bK.getD j 0=0))=((List.range i2).filter fun j=>decide (bK.getD j 0=0)):=by
   rw[List.range_succ,List.filter_append];simp only[List.filter_cons,h0,decide_false,Bool.false_eq_true,if_false,List.filter_nil,List.append_nil]
  (repeat' (first|(with_reducible first|refine stp ?_|refine uP (by decide) ?_|refine uQ (fun _=>?_) (fun _=>?_))|((first|(with_reducible refine uA ?_;first|refine uB rfl ?_ ?_|(first|refine uC rfl ?_|refine uD rfl ?_)|refine uE rfl ?_)|(with_reducible refine uF ?_;first|refine uG rfl ?_ ?_|(first|refine uH rfl ?_|refine uI rfl ?_)|refine uJ rfl ?_|refine uK (uL ?_)|refine uK (uM ?_))|(with_reducible refine uN ?_;refine uO rfl ?_))<;>try simp only[hc2,hga,hw,hlt2,q5,r3,hc0,kK,jK,jG,go_sem,reduceIte,jA,jB,jC,jD,reduceCtorEq,jE,jF])|(with_reducible refine uR ?_;refine uS rfl ?_)|omega))
  rw[←hQ1]
  refine aI (i2+1,o) (by dsimp only;omega) ⟨hlt2,by omega,r3,r4,?_,r6⟩ ?_
  ·dsimp only;rw[hrow];exact r5
  rw[List.range_succ] at hrow
  simp only[WkL,aB,jH,jI,jJ,kK,wes,hrow,go_sem,reduceIte,jA,jB,jC,jD,reduceCtorEq,jE,jF]
 have hc2:decide ((i2:Int)<(n:Int))=false:=decide_eq_false (by omega)
 have hK:=aCx.first q5 q6
 rw[show i2=n by omega] at r5
 obtain⟨row,hrow⟩:∃row,row=(List.range n).filter fun j=>decide (bK.getD j 0=0):=⟨_,rfl⟩
 rw[←hrow] at hK r5
 refine aue hc2 ?_
 rw[←hQ1]
 rw[show i2=n by omega,←hrow]
 refine au ?_
 refine aY (fun q:Nat×List Int×List Nat×Own=>aB 96 0 [(0, .int .i64 n),(1,wes own l),(5, .rs nx .leaf 0 n),(8,kK q.2.2.2 q.2.2.1),(11, .int .i64 q.1)])
  (fun q hp nx1=>q.1≤q.2.2.1.length∧nx+1≤nx1∧hp nx=some (.arr .leaf (q.2.1.map (V.int .i64)))∧Hp.same nx h' hp∧Acc hp (nx+1) q.2.2.2 (q.2.2.1.map fun x:Nat=> .int .i64 (x:Int))∧aM hp nx1∧aCx n (zE l) q.1 q.2.1 q.2.2.1)
  (fun q=>n-q.1) (0,bK,row,o) ⟨Nat.zero_le _,r2,r3,r4,r5,r6,hK⟩ ?_ ?_
 ·simp only[WkL,aB,jH,jI,jJ,kK,wes,go_sem,reduceIte,jA,jB,jC,jD,reduceCtorEq,jE,jF]
 clear hrow r5 hK r6 r4 r3 r2
 rintro⟨i3,ah,rw3,o3⟩ hp3 nx3 ⟨s1,s2,s3,s4,s5,s6,s7⟩
 generalize hQ3:bZ _ _ _ _ _=Q3
 dsimp only at s1 s3 s5 s7
 have hrl:rw3.length≤n:=lC n rw3 s7.nd s7.lt
 simp only[aB,go_sem,reduceIte,jA,jB,jC,jD,reduceCtorEq,jE,jF]
 rcases Nat.lt_or_ge i3 rw3.length with hlt3|hge3
 ·have hc3:decide ((i3:Int)<(rw3.length:Int))=true:=decide_eq_true (by omega)
  obtain⟨k,hk⟩:∃k,rw3[i3]?=some k:=⟨_,List.getElem?_eq_getElem hlt3⟩
  (repeat' (first|(with_reducible first|refine stp ?_|refine uP (by decide) ?_|refine uQ (fun _=>?_) (fun _=>?_))|((first|(with_reducible refine uA ?_;first|refine uB rfl ?_ ?_|(first|refine uC rfl ?_|refine uD rfl ?_)|refine uE rfl ?_)|(with_reducible refine uF ?_;first|refine uG rfl ?_ ?_|(first|refine uH rfl ?_|refine uI rfl ?_)|refine uJ rfl ?_|refine uK (uL ?_)|refine uK (uM ?_))|(with_reducible refine uN ?_;refine uO rfl ?_))<;>try simp only[hc3,kK,wes,jK,go_sem,reduceIte,jA,jB,jC,jD,reduceCtorEq,jE,jF])|(with_reducible refine uR ?_;refine uS rfl ?_)|omega))
  refine aY (fun q:Nat×List Int×List Nat×Own=>aB 96 0 [(0, .int .i64 n),(1,wes own l),(5, .rs nx .leaf 0 n),(8,kK q.2.2.2 q.2.2.1),(11, .int .i64 i3),(54,wes own l),(55, .int .i64 l.length),(56, .int .i64 q.1)])
   (fun q hp nx1=>q.1≤l.length∧nx+1≤nx1∧hp nx=some (.arr .leaf (q.2.1.map (V.int .i64)))∧Hp.same nx h' hp∧Acc hp (nx+1) q.2.2.2 (q.2.2.1.map fun x:Nat=> .int .i64 (x:Int))∧aM hp nx1∧KIn n (zE l) (zE (l.take q.1)) (zE (l.drop q.1)) i3 k q.2.1 q.2.2.1)
   (fun q=>l.length-q.1) (0,ah,rw3,o3) ⟨Nat.zero_le _,s2,s3,s4,s5,s6,s7.start hk⟩ ?_ ?_
  ·simp only[WkL,aB,jH,jI,jJ,kK,wes,go_sem,reduceIte,jA,jB,jC,jD,reduceCtorEq,jE,jF]
  clear s1 s2 s3 s4 s5 s6
  rintro⟨j,ah4,rw4,o4⟩ hp4 nx4 ⟨t1,t2,t3,t4,t5,t6,t7⟩
  generalize hQ4:bZ _ _ _ _ _=Q4
  dsimp only at t1 t3 t5 t7
  simp only[aB,go_sem,reduceIte,jA,jB,jC,jD,reduceCtorEq,jE,jF]
  rcases Nat.lt_or_ge j l.length with hlt4|hge4
  ·have hc4:decide ((j:Int)<(l.length:Int))=true:=decide_eq_true (by omega)
   have hg:(l.map We.v).getD j (.tup [])= .agg [.int .i64 l[j].f, .int .i64 l[j].t, .bool l[j].p.n, .int .i64 l[j].p.a]:=cE We.v l j hlt4
   have hw:IntKind.i64.wrap ((j:Int)+1)=((j+1:Nat):Int):=by rw[bM]<;>omega
   have hwf:=hfit l[j] (List.getElem_mem _)
   have htn:l[j].t<n:=hwf.2.1
   have hpa:0≤l[j].p.a:=by have:=hwf.2.2;simp only[Pa.ok,Bool.and_eq_true,decide_eq_true_eq] at this;exact this.1
   have hlen4:=t7.len
   have hga:=zB ah4 l[j].t (by omega)
   have hl1:nx<nx4:=by omega
   have hik:i3<rw4.length:=(List.getElem?_eq_some_iff.1 t7.hk).1
   have hgr:=aIu rw4 i3 k t7.hk
   have hrl4:rw4.length≤n:=lC n rw4 t7.nd t7.lt
   have zt:=aBC l j hlt4
   have zd:=aJa l j hlt4
   have hne:(nx=nx4)=False:=eq_false (by omega)
   by_cases hfk:l[j].f=k
   ·have hcf:((l[j].f:Int) != (k:Int))=false:=by simp[hfk]
    by_cases h0:l[j].p.a=0
    ·have hc0:decide ((0:Int)<l[j].p.a)=false:=decide_eq_false (by omega)
     rw[if_pos h0] at zt zd
     rw[zd,hfk] at t7
     rw[hfk] at zt
     obtain⟨u1,u2⟩:=t7.one htn
     rw[←zt] at u2
     have hbd:ah4.getD l[j].t 0≤1000:=by
      have:=t7.cnt l[j].t htn
      have h1:(((zE l).filter fun e=>decide (e.2=l[j].t)&& !((rw4.take i3).contains e.1)).length:Int)≤1000:=by
       have:=Nat.le_trans (List.length_filter_le (fun e=>decide (e.2=l[j].t)&& !((rw4.take i3).contains e.1)) (zE l)) (aHw l)
       omega
      omega
     have hw2:IntKind.i64.wrap (ah4.getD l[j].t 0-1)=ah4.getD l[j].t 0-1:=by rw[bM]<;>omega
     have hset:((ah4.map (V.int .i64)).set l[j].t (.int .i64 (ah4.getD l[j].t 0-1))).getD l[j].t (.tup [])= .int .i64 (ah4.getD l[j].t 0-1):=aAx _ _ _ (by simpa using(by omega:l[j].t<ah4.length))
     have hms:(ah4.map (V.int .i64)).set l[j].t (.int .i64 (ah4.getD l[j].t 0-1))=(ah4.set l[j].t (ah4.getD l[j].t 0-1)).map (V.int .i64):=by rw[List.map_set]
     by_cases hz:ah4.getD l[j].t 0-1=0
     ·have hcz:(ah4.getD l[j].t 0-1==(0:Int))=true:=by rw[hz];rfl
      rw[if_pos hz] at u2
      (repeat' (first|(with_reducible first|refine stp ?_|refine uP (by decide) ?_|refine uQ (fun _=>?_) (fun _=>?_))|((first|(with_reducible refine uA ?_;first|refine uB rfl ?_ ?_|refine sR (n0:=nx+1) rfl (by(try dsimp only);repeat' (first|exact t5|exact Acc.new _ (by simp) (by omega)|exact kD.new (by omega)|exact aM.ntip t6 (by omega)|exact gS|exact iY (by assumption)|refine gQ (by omega) ?_|refine gR ?_|refine Acc.set ?_ ?_ _|refine kD.set ?_ ?_ _)) rfl (by simp) (by simp only[jK,hc4,hg,hw,hlt4,htn,hlen4,hga,hl1,hik,hgr,hcf,hc0,hw2,hset,hcz,t3,kK,wes,jK,List.length_set,jG,go_sem,reduceIte,jA,jB,jC,jD,reduceCtorEq,jE,jF];try omega) ?_|(first|refine uC rfl ?_|refine uD rfl ?_)|refine uE rfl ?_)|(with_reducible refine uF ?_;first|refine uG rfl ?_ ?_|(first|refine uH rfl ?_|refine uI rfl ?_)|refine uJ rfl ?_|refine uK (uL ?_)|refine uK (uM ?_))|(with_reducible refine uN ?_;refine uO rfl ?_))<;>try simp only[hc4,hg,hw,hlt4,htn,hlen4,hga,hl1,hik,hgr,hcf,hc0,hw2,hset,hcz,t3,kK,wes,jK,List.length_set,jG,go_sem,reduceIte,jA,jB,jC,jD,reduceCtorEq,jE,jF])|(with_reducible refine uR ?_;refine uS rfl ?_)|omega))
      rw[←hQ4]
      refine aI (j+1,ah4.set l[j].t (ah4.getD l[j].t 0-1),rw4++[l[j].t], .tok (nx4+17)) (by dsimp only;omega) ⟨hlt4,by omega,?_,(by(try dsimp only);repeat (first|exact t4|refine bJ ?_ (by omega) _|refine bO ?_ (by omega)|refine fO ?_ (fun id e=>by have:=(t5).ge id e;omega))),?_,(by(try dsimp only);repeat (first|exact aM.up t6 (by omega)|refine aM.set2 ?_ (by omega) _|refine aM.del ?_|refine aM.delO ?_ _)),u2⟩ ?_
      ·have e1:(nx=nx4+17)=False:=eq_false (by omega)
       have hdo:∀hq:Hp,hq.delO o4 nx=hq nx:=fun hq=>aFR (fun id e=>by have:=t5.ge id e;omega)
       simp only[hdo,hne,hl1,hga,hms,go_sem,reduceIte,jA,jB,jC,jD,reduceCtorEq,jE,jF]
      ·dsimp only;rw[List.map_append];exact Acc.new _ (by simp) (by omega)
      simp only[WkL,aB,jH,jI,jJ,kK,wes,List.map_append,go_sem,reduceIte,jA,jB,jC,jD,reduceCtorEq,jE,jF]
     have hcz:(ah4.getD l[j].t 0-1==(0:Int))=false:=by simpa using hz
     rw[if_neg hz] at u2
     (repeat' (first|(with_reducible first|refine stp ?_|refine uP (by decide) ?_|refine uQ (fun _=>?_) (fun _=>?_))|((first|(with_reducible refine uA ?_;first|refine uB rfl ?_ ?_|(first|refine uC rfl ?_|refine uD rfl ?_)|refine uE rfl ?_)|(with_reducible refine uF ?_;first|refine uG rfl ?_ ?_|(first|refine uH rfl ?_|refine uI rfl ?_)|refine uJ rfl ?_|refine uK (uL ?_)|refine uK (uM ?_))|(with_reducible refine uN ?_;refine uO rfl ?_))<;>try simp only[hc4,hg,hw,hlt4,htn,hlen4,hga,hl1,hik,hgr,hcf,hc0,hw2,hset,hcz,t3,kK,wes,jK,List.length_set,jG,go_sem,reduceIte,jA,jB,jC,jD,reduceCtorEq,jE,jF])|(with_reducible refine uR ?_;refine uS rfl ?_)|omega))
     rw[←hQ4]
     refine aI (j+1,ah4.set l[j].t (ah4.getD l[j].t 0-1),rw4,o4) (by dsimp only;omega) ⟨hlt4,by omega,?_,(by(try dsimp only);repeat (first|exact t4|refine bJ ?_ (by omega) _|refine bO ?_ (by omega))),?_,(by(try dsimp only);repeat (first|exact aM.up t6 (by omega)|refine aM.set2 ?_ (by omega) _|refine aM.del ?_|refine aM.delO ?_ _)),u2⟩ ?_
     ·simp only[hne,hl1,hga,hms,go_sem,reduceIte,jA,jB,jC,jD,reduceCtorEq,jE,jF]
     ·exact(by(try dsimp only);repeat' (first|exact t5|exact Acc.new _ (by simp) (by omega)|exact kD.new (by omega)|exact aM.ntip t6 (by omega)|exact gS|exact iY (by assumption)|refine gQ (by omega) ?_|refine gR ?_|refine Acc.set ?_ ?_ _|refine kD.set ?_ ?_ _))
     simp only[WkL,aB,jH,jI,jJ,kK,wes,go_sem,reduceIte,jA,jB,jC,jD,reduceCtorEq,jE,jF]
    have hc0:decide ((0:Int)<l[j].p.a)=true:=decide_eq_true (by omega)
    rw[if_neg h0] at zt zd
    rw[List.append_nil] at zt
    rw[jQ] at zd
    (repeat' (first|(with_reducible first|refine stp ?_|refine uP (by decide) ?_|refine uQ (fun _=>?_) (fun _=>?_))|((first|(with_reducible refine uA ?_;first|refine uB rfl ?_ ?_|(first|refine uC rfl ?_|refine uD rfl ?_)|refine uE rfl ?_)|(with_reducible refine uF ?_;first|refine uG rfl ?_ ?_|(first|refine uH rfl ?_|refine uI rfl ?_)|refine uJ rfl ?_|refine uK (uL ?_)|refine uK (uM ?_))|(with_reducible refine uN ?_;refine uO rfl ?_))<;>try simp only[hc4,hg,hw,hlt4,htn,hl1,hik,hgr,hcf,hc0,kK,wes,jK,jG,go_sem,reduceIte,jA,jB,jC,jD,reduceCtorEq,jE,jF])|(with_reducible refine uR ?_;refine uS rfl ?_)|omega))
    rw[←hQ4]
    refine aI (j+1,ah4,rw4,o4) (by dsimp only;omega) ⟨hlt4,by omega,?_,(by(try dsimp only);repeat (first|exact t4|refine bJ ?_ (by omega) _|refine bO ?_ (by omega))),?_,(by(try dsimp only);repeat (first|exact aM.up t6 (by omega)|refine aM.set2 ?_ (by omega) _|refine aM.del ?_|refine aM.delO ?_ _)),by dsimp only;rw[zt,←zd];exact t7⟩ ?_
    ·simp only[hne,t3,go_sem,reduceIte,jA,jB,jC,jD,reduceCtorEq,jE,jF]
    ·exact(by(try dsimp only);repeat' (first|exact t5|exact Acc.new _ (by simp) (by omega)|exact kD.new (by omega)|exact aM.ntip t6 (by omega)|exact gS|exact iY (by assumption)|refine gQ (by omega) ?_|refine gR ?_|refine Acc.set ?_ ?_ _|refine kD.set ?_ ?_ _))
    simp only[WkL,aB,jH,jI,jJ,kK,wes,go_sem,reduceIte,jA,jB,jC,jD,reduceCtorEq,jE,jF]
   have hcf:((l[j].f:Int) != (k:Int))=true:=by simp;omega
   have hK':KIn n (zE l) (zE (l.take (j+1))) (zE (l.drop (j+1))) i3 k ah4 rw4:=by
    by_cases h0:l[j].p.a=0
    ·rw[if_pos h0] at zt zd
     rw[zd] at t7
     rw[zt]
     exact t7.other hfk
    rw[if_neg h0] at zt zd
    rw[List.append_nil] at zt
    rw[jQ] at zd
    rw[zt,←zd];exact t7
   (repeat' (first|(with_reducible first|refine stp ?_|refine uP (by decide) ?_|refine uQ (fun _=>?_) (fun _=>?_))|((first|(with_reducible refine uA ?_;first|refine uB rfl ?_ ?_|(first|refine uC rfl ?_|refine uD rfl ?_)|refine uE rfl ?_)|(with_reducible refine uF ?_;first|refine uG rfl ?_ ?_|(first|refine uH rfl ?_|refine uI rfl ?_)|refine uJ rfl ?_|refine uK (uL ?_)|refine uK (uM ?_))|(with_reducible refine uN ?_;refine uO rfl ?_))<;>try simp only[hc4,hg,hw,hlt4,htn,hl1,hik,hgr,hcf,kK,wes,jK,jG,go_sem,reduceIte,jA,jB,jC,jD,reduceCtorEq,jE,jF])|(with_reducible refine uR ?_;refine uS rfl ?_)|omega))
   rw[←hQ4]
   refine aI (j+1,ah4,rw4,o4) (by dsimp only;omega) ⟨hlt4,by omega,?_,(by(try dsimp only);repeat (first|exact t4|refine bJ ?_ (by omega) _|refine bO ?_ (by omega))),?_,(by(try dsimp only);repeat (first|exact aM.up t6 (by omega)|refine aM.set2 ?_ (by omega) _|refine aM.del ?_|refine aM.delO ?_ _)),hK'⟩ ?_
   ·simp only[hne,t3,go_sem,reduceIte,jA,jB,jC,jD,reduceCtorEq,jE,jF]
   ·exact(by(try dsimp only);repeat' (first|exact t5|exact Acc.new _ (by simp) (by omega)|exact kD.new (by omega)|exact aM.ntip t6 (by omega)|exact gS|exact iY (by assumption)|refine gQ (by omega) ?_|refine gR ?_|refine Acc.set ?_ ?_ _|refine kD.set ?_ ?_ _))
   simp only[WkL,aB,jH,jI,jJ,kK,wes,go_sem,reduceIte,jA,jB,jC,jD,reduceCtorEq,jE,jF]
  have hc4:decide ((j:Int)<(l.length:Int))=false:=decide_eq_false (by omega)
  have hw3:IntKind.i64.wrap ((i3:Int)+1)=((i3+1:Nat):Int):=by rw[bM]<;>omega
  rw[show j=l.length by omega,List.take_length,List.drop_length] at t7
  have hik:i3<rw4.length:=(List.getElem?_eq_some_iff.1 t7.hk).1
  refine aue (ee2 hc4 hw3) ?_
  rw[←hQ4]
  refine aue (ee2 hc4 hw3) ?_
  rw[←hQ3]
  refine aI (i3+1,ah4,rw4,o4) (by dsimp only;omega) ⟨hik,t2,t3,t4,t5,t6,t7.finish⟩ ?_
  simp only[WkL,aB,jH,jI,jJ,kK,wes,go_sem,reduceIte,jA,jB,jC,jD,reduceCtorEq,jE,jF]
 have hc3:decide ((i3:Int)<(rw3.length:Int))=false:=decide_eq_false (by omega)
 rw[show i3=rw3.length by omega] at s7
 have hdone:=s7.done (aKB hfit)
 (repeat' (first|(with_reducible first|refine stp ?_|refine uP (by decide) ?_|refine uQ (fun _=>?_) (fun _=>?_))|((first|(with_reducible refine uA ?_;first|refine uB rfl ?_ ?_|(first|refine uC rfl ?_|refine uD rfl ?_)|refine uE rfl ?_)|(with_reducible refine uF ?_;first|refine uG rfl ?_ ?_|(first|refine uH rfl ?_|refine uI rfl ?_)|refine uJ rfl ?_|refine uK (uL ?_)|refine uK (uM ?_))|(with_reducible refine uN ?_;refine uO rfl ?_))<;>try simp only[hc3,kK,wes,jK,go_sem,reduceIte,jA,jB,jC,jD,reduceCtorEq,jE,jF])|(with_reducible refine uR ?_;refine uS rfl ?_)|omega))
 rw[←hQ3]
 (repeat' (first|(with_reducible first|refine stp ?_|refine uP (by decide) ?_|refine uQ (fun _=>?_) (fun _=>?_))|((first|(with_reducible refine uA ?_;first|refine uB rfl ?_ ?_|(first|refine uC rfl ?_|refine uD rfl ?_)|refine uE rfl ?_)|(with_reducible refine uF ?_;first|refine uG rfl ?_ ?_|(first|refine uH rfl ?_|refine uI rfl ?_)|refine uJ rfl ?_|refine uK (uL ?_)|refine uK (uM ?_))|(with_reducible refine uN ?_;refine uO rfl ?_))<;>try simp only[hc3,kK,wes,jK,go_sem,reduceIte,jA,jB,jC,jD,reduceCtorEq,jE,jF])|(with_reducible refine uR ?_;refine uS rfl ?_)|omega))
 refine aG h' (s4.le hd (Hp.le_refl _)) ⟨?_,rfl⟩
 simp only[go_sem,reduceIte,jA,jB,jC,jD,reduceCtorEq,jE,jF]
 congr 1
 rw[Bool.eq_iff_iff,uY,decide_eq_true_iff]
 rw[show((rw3.length:Int)<(n:Int))↔rw3.length<n by omega]
 exact hdone
end Go.Proofs.YtecepaehmojpgaaGreat
