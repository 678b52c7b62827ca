/-
Texts of this proof,one behind the other. No conditions.
-/
import Derived.Test.YthikfnmcjipobaaGreatKdb
import Derived.Test.YthikfnmcjipobaaGreatKd
import Derived.Shelf.SlMaps.Clone
import Derived.WalkKit
/-
Contracts of functions of Go's library:cmp.Compare and cmp.Or of int's,slices.Equal,slices.Clone. No program in sight. No conditions beyond those named.
-/
namespace Go.Proofs.YthikfnmcjipobaaGreat
open Nat renaming reduceAdd→jA,reduceSub→jB,reduceLT→jC,reduceLeDiff→jD,reduceEqDiff→jE
open Int renaming reduceToNat→jF,toNat_natCast→jG,natCast_add→jH,natCast_one→jI,natCast_zero→jJ
open List renaming length_map→jK,length_cons→jL,length_nil→jM,replicate_succ→jN,replicate_zero→jO,cons_append→jP,nil_append→jQ
set_option linter.unusedSimpArgs false
set_option linter.unusedVariables false
set_option linter.unusedSectionVars false
open Go.RowKit
attribute [local go_sem] Option.some.injEq Prod.mk.injEq false_and and_false Bool.true_eq_false mP jR jX gG iV if_true Bool.true_and mF dS iH gL dQ aA.ok aA.next LOp.ok LOp.next bC.ok bC.out aQ.ev bN iI cH bO cO V.undef Sh.size gH fW cK aA.dok aA.dres LOp.dok LOp.dout lI iD gI eX List.take_succ_cons List.take_zero List.take_nil List.drop_succ_cons List.drop_zero List.drop_nil List.set_cons_succ List.set_cons_zero List.getD_cons_succ List.getD_cons_zero jL jM List.map_cons List.map_nil List.all_cons List.all_nil List.mem_cons List.not_mem_nil jN jO jP jQ List.append_nil List.isEmpty_cons List.isEmpty_nil dW fJ hM Option.getD_some Option.isSome_some Option.isSome_none Nat.add_eq Nat.zero_add Nat.add_zero true_and and_true and_self true_implies implies_true false_implies forall_const forall_eq forall_eq_or_imp ne_eq not_false_eq_true not_true_eq_false Bool.not_true Bool.not_false decide_true decide_false Bool.and_true Bool.true_and Bool.and_false Bool.false_and true_or or_true false_or or_false eq_self Bool.false_eq_true mK iO gC aD fH eT eB dU cL dT aZ aX dN jG Int.toNat_zero List.take_length Hp.set_app Hp.del_app gW fV aA.plain LOp.isCall aA.dplain LOp.isStop eM kT gY lY fN V.gd_true V.gd_false fM eK eL fL bG aY aU fK eS beq_true beq_false dD dE dF cB cC bH bI cP eQ cE dK dH bJ dI dL eN eO bK dJ bF cD eP bP dG bQ bB gQ gO gP gN dM cG dX cR eG eF eE eD eC bX bW cZ cY cX cA bZ bY eJ eI eH dC dB dA cQ cF bS kM Hp.turn fT Option.isNone_some Option.isNone_none
def mV(a b:Int):Int:=if a<b then-1 else if b<a then 1 else 0
theorem aBw{P:Program}{f:Nat}(hL:aH P f=some LB.NaNInt)(a:Int)(h:Hp):cM P f [.int .i64 a] h (.bool false):=by
 refine bL (fun L=>trivial) fun h' nx hh=>aG hL fun hd=>?_
 simp only[jL,jM,jA,jB,jN,jO,jP,jQ,V.undef]
 repeat (first|with_reducible refine aN ?_|with_reducible refine aI ?_|with_reducible refine aP ?_|with_reducible refine aB ?_|with_reducible refine aC ?_|with_reducible refine aO ?_|(refine aR rfl (by simp only[ go_sem,reduceIte,jA,jB,jC,jD,reduceCtorEq,jE,jF];try omega) ?_;simp only[ go_sem,reduceIte,jA,jB,jC,jD,reduceCtorEq,jE,jF])|(with_reducible refine aK ?_))
 refine cV (aM h' (Hp.le_refl _) ⟨?_,rfl⟩)
 simp[bne]
theorem qJ{P:Program}{f f0:Nat}(hL:aH P f=some (LB.CmpInt f0))(hL0:aH P f0=some LB.NaNInt)(a b:Int)(h:Hp):cM P f [.int .i64 a, .int .i64 b] h (.int .i64 (mV a b)):=by
 refine bL (fun L=>trivial) fun h' nx hh=>aG hL fun hd=>?_
 simp only[jL,jM,jA,jB,jN,jO,jP,jQ,V.undef]
 repeat (first|with_reducible refine aN ?_|with_reducible refine aI ?_|with_reducible refine aP ?_|with_reducible refine aB ?_|with_reducible refine aC ?_|with_reducible refine aO ?_|(refine aR rfl (by simp only[ go_sem,reduceIte,jA,jB,jC,jD,reduceCtorEq,jE,jF];try omega) ?_;simp only[ go_sem,reduceIte,jA,jB,jC,jD,reduceCtorEq,jE,jF])|(with_reducible refine aK ?_))
 refine aJ (aBw hL0 a _) rfl (aS _) ?_
 simp only[ go_sem,reduceIte,jA,jB,jC,jD,reduceCtorEq,jE,jF]
 repeat (first|with_reducible refine aN ?_|with_reducible refine aI ?_|with_reducible refine aP ?_|with_reducible refine aB ?_|with_reducible refine aC ?_|with_reducible refine aO ?_|(refine aR rfl (by simp only[ go_sem,reduceIte,jA,jB,jC,jD,reduceCtorEq,jE,jF];try omega) ?_;simp only[ go_sem,reduceIte,jA,jB,jC,jD,reduceCtorEq,jE,jF])|(with_reducible refine aK ?_))
 refine aJ (aBw hL0 b _) rfl (aS _) ?_
 simp only[ go_sem,reduceIte,jA,jB,jC,jD,reduceCtorEq,jE,jF]
 repeat (first|with_reducible refine aN ?_|with_reducible refine aI ?_|with_reducible refine aP ?_|with_reducible refine aB ?_|with_reducible refine aC ?_|with_reducible refine aO ?_|(refine aR rfl (by simp only[ go_sem,reduceIte,jA,jB,jC,jD,reduceCtorEq,jE,jF];try omega) ?_;simp only[ go_sem,reduceIte,jA,jB,jC,jD,reduceCtorEq,jE,jF])|(with_reducible refine aK ?_))
 refine fY _ rfl (fun hc=>?_) (fun hc=>?_)
 ·cases hc
 repeat (first|with_reducible refine aN ?_|with_reducible refine aI ?_|with_reducible refine aP ?_|with_reducible refine aB ?_|with_reducible refine aC ?_|with_reducible refine aO ?_|(refine aR rfl (by simp only[ go_sem,reduceIte,jA,jB,jC,jD,reduceCtorEq,jE,jF];try omega) ?_;simp only[ go_sem,reduceIte,jA,jB,jC,jD,reduceCtorEq,jE,jF])|(with_reducible refine aK ?_))
 refine fY _ rfl (fun hc=>?_) (fun hc=>?_)
 ·cases hc
 repeat (first|with_reducible refine aN ?_|with_reducible refine aI ?_|with_reducible refine aP ?_|with_reducible refine aB ?_|with_reducible refine aC ?_|with_reducible refine aO ?_|(refine aR rfl (by simp only[ go_sem,reduceIte,jA,jB,jC,jD,reduceCtorEq,jE,jF];try omega) ?_;simp only[ go_sem,reduceIte,jA,jB,jC,jD,reduceCtorEq,jE,jF])|(with_reducible refine aK ?_))
 refine fY _ rfl (fun hc=>?_) (fun hc=>?_)
 ·repeat (first|with_reducible refine aN ?_|with_reducible refine aI ?_|with_reducible refine aP ?_|with_reducible refine aB ?_|with_reducible refine aC ?_|with_reducible refine aO ?_|(refine aR rfl (by simp only[ go_sem,reduceIte,jA,jB,jC,jD,reduceCtorEq,jE,jF];try omega) ?_;simp only[ go_sem,reduceIte,jA,jB,jC,jD,reduceCtorEq,jE,jF])|(with_reducible refine aK ?_))
  refine cV ?_
  repeat (first|with_reducible refine lS ?_|with_reducible refine jT ?_|with_reducible refine kF ?_|with_reducible refine kG ?_)
  refine aM h' (Hp.le_refl _) ⟨?_,rfl⟩
  have:a<b:=by simpa using hc
  simp only[mV,if_pos this,go_sem,reduceIte,jA,jB,jC,jD,reduceCtorEq,jE,jF]
 repeat (first|with_reducible refine aN ?_|with_reducible refine aI ?_|with_reducible refine aP ?_|with_reducible refine aB ?_|with_reducible refine aC ?_|with_reducible refine aO ?_|(refine aR rfl (by simp only[ go_sem,reduceIte,jA,jB,jC,jD,reduceCtorEq,jE,jF];try omega) ?_;simp only[ go_sem,reduceIte,jA,jB,jC,jD,reduceCtorEq,jE,jF])|(with_reducible refine aK ?_))
 have h1:¬a<b:=by simpa using hc
 refine fY _ rfl (fun hc2=>?_) (fun hc2=>?_)
 ·repeat (first|with_reducible refine aN ?_|with_reducible refine aI ?_|with_reducible refine aP ?_|with_reducible refine aB ?_|with_reducible refine aC ?_|with_reducible refine aO ?_|(refine aR rfl (by simp only[ go_sem,reduceIte,jA,jB,jC,jD,reduceCtorEq,jE,jF];try omega) ?_;simp only[ go_sem,reduceIte,jA,jB,jC,jD,reduceCtorEq,jE,jF])|(with_reducible refine aK ?_))
  refine cV ?_
  repeat (first|with_reducible refine lS ?_|with_reducible refine jT ?_|with_reducible refine kF ?_|with_reducible refine kG ?_)
  refine aM h' (Hp.le_refl _) ⟨?_,rfl⟩
  have:b<a:=by simpa using hc2
  simp only[mV,if_neg h1,if_pos this,go_sem,reduceIte,jA,jB,jC,jD,reduceCtorEq,jE,jF]
 repeat (first|with_reducible refine aN ?_|with_reducible refine aI ?_|with_reducible refine aP ?_|with_reducible refine aB ?_|with_reducible refine aC ?_|with_reducible refine aO ?_|(refine aR rfl (by simp only[ go_sem,reduceIte,jA,jB,jC,jD,reduceCtorEq,jE,jF];try omega) ?_;simp only[ go_sem,reduceIte,jA,jB,jC,jD,reduceCtorEq,jE,jF])|(with_reducible refine aK ?_))
 have h2:¬b<a:=by simpa using hc2
 refine cV (aM h' (Hp.le_refl _) ⟨?_,rfl⟩)
 simp only[mV,if_neg h1,if_neg h2,go_sem,reduceIte,jA,jB,jC,jD,reduceCtorEq,jE,jF]
def orI:List Int→Int
 | []=>0
 |x::l=>if x=0 then orI l else x
theorem wL{P:Program}{f:Nat}(hL:aH P f=some LB.OrInt)(own:Own)(l:List Int)(hl:l.length≤1000000000)(h:Hp):cM P f [.sl .leaf own (l.map (V.int .i64))] h (.int .i64 (orI l)):=by
 refine bL (fun L=>trivial) fun h' nx hh=>aG hL fun hd=>?_
 simp only[jL,jM,jA,jB,jN,jO,jP,jQ,V.undef]
 repeat (first|with_reducible refine aN ?_|with_reducible refine aI ?_|with_reducible refine aP ?_|with_reducible refine aB ?_|with_reducible refine aC ?_|with_reducible refine aO ?_|(refine aR rfl (by simp only[jK,go_sem,reduceIte,jA,jB,jC,jD,reduceCtorEq,jE,jF];try omega) ?_;simp only[jK,go_sem,reduceIte,jA,jB,jC,jD,reduceCtorEq,jE,jF])|(with_reducible refine aK ?_))
 refine pK (fun i:Nat=>i≤l.length∧orI l=orI (l.drop i)) (fun i=>⟨aD 18 0 [(0, .sl .leaf own (l.map (V.int .i64))),(3, .int .i64 0),(6, .sl .leaf own (l.map (V.int .i64))),(7, .int .i64 l.length),(8, .int .i64 i)],h',nx⟩) (fun i=>l.length-i) 0 ⟨Nat.zero_le _,by simp⟩ ?_ ?_
 ·refine qO (by simp only[WkL,aD,jH,jI,jJ,go_sem,reduceIte,jA,jB,jC,jD,reduceCtorEq,jE,jF]) ?_ ?_
  ·exact Hp.le_refl _
  omega
 rintro i ⟨hi,hno⟩
 simp only[aD,go_sem,reduceIte,jA,jB,jC,jD,reduceCtorEq,jE,jF]
 repeat (first|with_reducible refine aN ?_|with_reducible refine aI ?_|with_reducible refine aP ?_|with_reducible refine aB ?_|with_reducible refine aC ?_|with_reducible refine aO ?_|(refine aR rfl (by simp only[ go_sem,reduceIte,jA,jB,jC,jD,reduceCtorEq,jE,jF];try omega) ?_;simp only[ go_sem,reduceIte,jA,jB,jC,jD,reduceCtorEq,jE,jF])|(with_reducible refine aK ?_))
 refine fY _ rfl (fun hc=>?_) (fun hc=>?_)
 ·have hlt:i<l.length:=by simpa using hc
  have hg:=fE (V.int .i64) l i hlt
  repeat (first|with_reducible refine aN ?_|with_reducible refine aI ?_|with_reducible refine aP ?_|with_reducible refine aB ?_|with_reducible refine aC ?_|with_reducible refine aO ?_|(refine aR rfl (by simp only[jK,jG,hg,go_sem,reduceIte,jA,jB,jC,jD,reduceCtorEq,jE,jF];try omega) ?_;simp only[jK,jG,hg,go_sem,reduceIte,jA,jB,jC,jD,reduceCtorEq,jE,jF])|(with_reducible refine aK ?_))
  rw[List.drop_eq_getElem_cons hlt] at hno
  refine fY _ rfl (fun hc=>?_) (fun hc=>?_)
  ·repeat (first|with_reducible refine aN ?_|with_reducible refine aI ?_|with_reducible refine aP ?_|with_reducible refine aB ?_|with_reducible refine aC ?_|with_reducible refine aO ?_|(refine aR rfl (by simp only[ go_sem,reduceIte,jA,jB,jC,jD,reduceCtorEq,jE,jF];try omega) ?_;simp only[ go_sem,reduceIte,jA,jB,jC,jD,reduceCtorEq,jE,jF])|(with_reducible refine aK ?_))
   refine cV ?_
   repeat (first|with_reducible refine lS ?_|with_reducible refine jT ?_|with_reducible refine kF ?_|with_reducible refine kG ?_)
   refine aM h' (Hp.le_refl _) ⟨?_,rfl⟩
   have:l[i]≠0:=by simpa using hc
   simp only[hno,orI,if_neg this,go_sem,reduceIte,jA,jB,jC,jD,reduceCtorEq,jE,jF]
  repeat (first|with_reducible refine aN ?_|with_reducible refine aI ?_|with_reducible refine aP ?_|with_reducible refine aB ?_|with_reducible refine aC ?_|with_reducible refine aO ?_|(refine aR rfl (by simp only[ go_sem,reduceIte,jA,jB,jC,jD,reduceCtorEq,jE,jF];try omega) ?_;simp only[ go_sem,reduceIte,jA,jB,jC,jD,reduceCtorEq,jE,jF])|(with_reducible refine aK ?_))
  have:l[i]=0:=by simpa using hc
  refine lT (i+1) ⟨by omega,by rw[hno];simp[orI,this]⟩ (by omega) ?_
  rw[cS (by omega) (by omega)]
  refine qO (by simp only[WkL,aD,jH,jI,jJ,go_sem,reduceIte,jA,jB,jC,jD,reduceCtorEq,jE,jF]) ?_ ?_
  ·exact Hp.le_refl _
  omega
 have hge:i=l.length:=by have:¬i<l.length:=by simpa using hc
                         omega
 refine oB ?_
 repeat (first|with_reducible refine mT ?_|with_reducible refine mH ?_|with_reducible refine mI ?_|with_reducible refine bT (by decide) ?_|with_reducible refine lJ ?_|with_reducible refine aB ?_)
 repeat (first|with_reducible refine aN ?_|with_reducible refine aI ?_|with_reducible refine aP ?_|with_reducible refine aB ?_|with_reducible refine aC ?_|with_reducible refine aO ?_|(refine aR rfl (by simp only[ go_sem,reduceIte,jA,jB,jC,jD,reduceCtorEq,jE,jF];try omega) ?_;simp only[ go_sem,reduceIte,jA,jB,jC,jD,reduceCtorEq,jE,jF])|(with_reducible refine aK ?_))
 refine cV (aM h' (Hp.le_refl _) ⟨?_,rfl⟩)
 simp only[go_sem,reduceIte,jA,jB,jC,jD,reduceCtorEq,jE,jF]
 rw[hno,hge,List.drop_length];rfl
section
variable{P:Program}{k:Sh}{α:Type}(e:α→V)(hfit:∀x,(e x).fits k=true)
include hfit
theorem aBx [DecidableEq α]{f:Nat}{ks:List LK}(hL:aH P f=some (LB.Equal k (.plain k ks)))(heq:∀x y,veq (.plain k ks) (e x) (e y)=some (decide (x=y)))(own own':Own)(a b:List α)(ha:a.length≤1000000000)(h:Hp):
 cM P f [.sl k own (a.map e), .sl k own' (b.map e)] h (.bool (decide (a=b))):=by
 refine bL (fun L=>trivial) fun h' nx hh=>aG hL fun hd=>?_
 simp only[jL,jM,jA,jB,jN,jO,jP,jQ,V.undef]
 repeat (first|with_reducible refine aN ?_|with_reducible refine aI ?_|with_reducible refine aP ?_|with_reducible refine aB ?_|with_reducible refine aC ?_|with_reducible refine aO ?_|(refine aR rfl (by simp only[jK,go_sem,reduceIte,jA,jB,jC,jD,reduceCtorEq,jE,jF];try omega) ?_;simp only[jK,go_sem,reduceIte,jA,jB,jC,jD,reduceCtorEq,jE,jF])|(with_reducible refine aK ?_))
 refine fY _ rfl (fun hc=>?_) (fun hc=>?_)
 ·repeat (first|with_reducible refine aN ?_|with_reducible refine aI ?_|with_reducible refine aP ?_|with_reducible refine aB ?_|with_reducible refine aC ?_|with_reducible refine aO ?_|(refine aR rfl (by simp only[ go_sem,reduceIte,jA,jB,jC,jD,reduceCtorEq,jE,jF];try omega) ?_;simp only[ go_sem,reduceIte,jA,jB,jC,jD,reduceCtorEq,jE,jF])|(with_reducible refine aK ?_))
  refine cV ?_
  repeat (first|with_reducible refine lS ?_|with_reducible refine jT ?_|with_reducible refine kF ?_|with_reducible refine kG ?_)
  refine aM h' (Hp.le_refl _) ⟨?_,rfl⟩
  have:a≠b:=by rintro rfl;simp at hc
  simp only[this,go_sem,reduceIte,jA,jB,jC,jD,reduceCtorEq,jE,jF]
 have hab:a.length=b.length:=by
  have:((a.length:Int))=b.length:=by simpa using hc
  omega
 repeat (first|with_reducible refine aN ?_|with_reducible refine aI ?_|with_reducible refine aP ?_|with_reducible refine aB ?_|with_reducible refine aC ?_|with_reducible refine aO ?_|(refine aR rfl (by simp only[jK,go_sem,reduceIte,jA,jB,jC,jD,reduceCtorEq,jE,jF];try omega) ?_;simp only[jK,go_sem,reduceIte,jA,jB,jC,jD,reduceCtorEq,jE,jF])|(with_reducible refine aK ?_))
 refine pK (fun p:Nat×Nat=>p.1≤a.length∧a.take p.1=b.take p.1∧nx≤p.2) (fun p=>⟨aD 26 0 [(0, .sl k own (a.map e)),(1, .sl k own' (b.map e)),(12, .int .i64 a.length),(13, .int .i64 p.1)],h',p.2⟩) (fun p=>a.length-p.1) (0,nx) ⟨Nat.zero_le _,rfl,Nat.le_refl _⟩ ?_ ?_
 ·refine qO (by simp only[WkL,aD,jH,jI,jJ,go_sem,reduceIte,jA,jB,jC,jD,reduceCtorEq,jE,jF]) ?_ ?_
  ·exact Hp.le_refl _
  omega
 rintro⟨i,nx1⟩ ⟨hi,hno,hnx⟩
 simp only at hi hno hnx
 simp only[aD,go_sem,reduceIte,jA,jB,jC,jD,reduceCtorEq,jE,jF]
 repeat (first|with_reducible refine aN ?_|with_reducible refine aI ?_|with_reducible refine aP ?_|with_reducible refine aB ?_|with_reducible refine aC ?_|with_reducible refine aO ?_|(refine aR rfl (by simp only[ go_sem,reduceIte,jA,jB,jC,jD,reduceCtorEq,jE,jF];try omega) ?_;simp only[ go_sem,reduceIte,jA,jB,jC,jD,reduceCtorEq,jE,jF])|(with_reducible refine aK ?_))
 refine fY _ rfl (fun hc=>?_) (fun hc=>?_)
 ·have hlt:i<a.length:=by simpa using hc
  have hlt':i<b.length:=by omega
  have hg:=fE e a i hlt
  have hg':=fE e b i hlt'
  repeat (first|with_reducible refine aN ?_|with_reducible refine aI ?_|with_reducible refine aP ?_|with_reducible refine aB ?_|with_reducible refine aC ?_|with_reducible refine aO ?_|(refine aR rfl (by simp only[ go_sem,reduceIte,jA,jB,jC,jD,reduceCtorEq,jE,jF];try omega) ?_;simp only[ go_sem,reduceIte,jA,jB,jC,jD,reduceCtorEq,jE,jF])|(with_reducible refine aK ?_))
  refine gE rfl ?_
  have hveq:=heq a[i] b[i]
  refine fQ rfl (by simp only[hg,hg',hveq,hfit,jG,Option.isSome_some,jK,go_sem,reduceIte,jA,jB,jC,jD,reduceCtorEq,jE,jF];try omega) ?_
  simp only[hg,hg',hveq,hfit,jG,jK,Option.getD_some,go_sem,reduceIte,jA,jB,jC,jD,reduceCtorEq,jE,jF]
  refine fZ (fP ?_)
  simp only[go_sem,reduceIte,jA,jB,jC,jD,reduceCtorEq,jE,jF]
  refine aB ?_
  refine fY _ rfl (fun hc=>?_) (fun hc=>?_)
  ·repeat (first|with_reducible refine aN ?_|with_reducible refine aI ?_|with_reducible refine aP ?_|with_reducible refine aB ?_|with_reducible refine aC ?_|with_reducible refine aO ?_|(refine aR rfl (by simp only[ go_sem,reduceIte,jA,jB,jC,jD,reduceCtorEq,jE,jF];try omega) ?_;simp only[ go_sem,reduceIte,jA,jB,jC,jD,reduceCtorEq,jE,jF])|(with_reducible refine aK ?_))
   refine cV ?_
   repeat (first|with_reducible refine lS ?_|with_reducible refine jT ?_|with_reducible refine kF ?_|with_reducible refine kG ?_)
   refine aM h' (Hp.le_refl _) ⟨?_,rfl⟩
   have hne:a[i]≠b[i]:=by simpa using hc
   have:a≠b:=by rintro rfl;exact hne rfl
   simp only[this,go_sem,reduceIte,jA,jB,jC,jD,reduceCtorEq,jE,jF]
  repeat (first|with_reducible refine aN ?_|with_reducible refine aI ?_|with_reducible refine aP ?_|with_reducible refine aB ?_|with_reducible refine aC ?_|with_reducible refine aO ?_|(refine aR rfl (by simp only[ go_sem,reduceIte,jA,jB,jC,jD,reduceCtorEq,jE,jF];try omega) ?_;simp only[ go_sem,reduceIte,jA,jB,jC,jD,reduceCtorEq,jE,jF])|(with_reducible refine aK ?_))
  have he:a[i]=b[i]:=by simpa using hc
  refine lT (i+1,nx1+9) ⟨by simp only;omega,?_,by simp only;omega⟩ (by simp only;omega) ?_
  ·simp only
   rw[List.take_succ_eq_append_getElem hlt,List.take_succ_eq_append_getElem hlt',hno,he]
  rw[cS (by omega) (by omega)]
  refine qO (by simp only[WkL,aD,jH,jI,jJ,go_sem,reduceIte,jA,jB,jC,jD,reduceCtorEq,jE,jF]) ?_ ?_
  ·exact Hp.le_refl _
  omega
 have hge:i=a.length:=by have:¬i<a.length:=by simpa using hc
                         omega
 refine oB ?_
 repeat (first|with_reducible refine mT ?_|with_reducible refine mH ?_|with_reducible refine mI ?_|with_reducible refine bT (by decide) ?_|with_reducible refine lJ ?_|with_reducible refine aB ?_)
 repeat (first|with_reducible refine aN ?_|with_reducible refine aI ?_|with_reducible refine aP ?_|with_reducible refine aB ?_|with_reducible refine aC ?_|with_reducible refine aO ?_|(refine aR rfl (by simp only[ go_sem,reduceIte,jA,jB,jC,jD,reduceCtorEq,jE,jF];try omega) ?_;simp only[ go_sem,reduceIte,jA,jB,jC,jD,reduceCtorEq,jE,jF])|(with_reducible refine aK ?_))
 refine cV (aM h' (Hp.le_refl _) ⟨?_,rfl⟩)
 have:a=b:=by
  rw[hge,List.take_length] at hno
  rw[hno,hab,List.take_length]
 simp only[this,go_sem,reduceIte,jA,jB,jC,jD,reduceCtorEq,jE,jF]
end
def aIf(k:Sh)(own:Own)(es:List V)(nx:Nat)(h:Hp)(v:V)(h':Hp):Prop:=(own= .nil∧v= .sl k .nil []∧h'=h)∨(own≠ .nil∧∃id,nx≤id∧v= .sl k (.tok id) es∧h'=h.set id .tip)
theorem aDu{P:Program}{k:Sh}{f bs:Nat}(hL:aH P f=some (LB.Clone k bs))(hbs:bs≤140737)(own:Own)(es:List V)(hl:es.length≤1000000000)(hn:own= .nil→es=[])(h:Hp)(nx:Nat):
 bM P f [.sl k own es] h nx fun v h' _=>aIf k own es nx h v h':=by
 refine aG hL fun hd=>?_
 simp only[jL,jM,jA,jB,jN,jO,jP,jQ,V.undef]
 repeat (first|with_reducible refine aN ?_|with_reducible refine aI ?_|with_reducible refine aP ?_|with_reducible refine aB ?_|with_reducible refine aC ?_|with_reducible refine aO ?_|(refine aR rfl (by simp only[ go_sem,reduceIte,jA,jB,jC,jD,reduceCtorEq,jE,jF];try omega) ?_;simp only[ go_sem,reduceIte,jA,jB,jC,jD,reduceCtorEq,jE,jF])|(with_reducible refine aK ?_))
 by_cases ho:own= .nil
 ·subst ho
  refine fY _ rfl (fun hc=>?_) (fun hc=>?_)
  ·repeat (first|with_reducible refine aN ?_|with_reducible refine aI ?_|with_reducible refine aP ?_|with_reducible refine aB ?_|with_reducible refine aC ?_|with_reducible refine aO ?_|(refine aR rfl (by simp only[ go_sem,reduceIte,jA,jB,jC,jD,reduceCtorEq,jE,jF];try omega) ?_;simp only[ go_sem,reduceIte,jA,jB,jC,jD,reduceCtorEq,jE,jF])|(with_reducible refine aK ?_))
   refine cV ?_
   repeat (first|with_reducible refine lS ?_|with_reducible refine jT ?_|with_reducible refine kF ?_|with_reducible refine kG ?_)
   refine aM h (Hp.le_refl _) (.inl ⟨rfl,?_,rfl⟩)
   simp only[go_sem,reduceIte,jA,jB,jC,jD,reduceCtorEq,jE,jF]
  cases hc
 refine fY _ rfl (fun hc=>?_) (fun hc=>?_)
 ·exact absurd (by simpa using hc) ho
 have hb1:es.length*bs≤140737488355328:=xD hl hbs
 repeat (first|with_reducible refine aN ?_|with_reducible refine aI ?_|with_reducible refine aP ?_|with_reducible refine aB ?_|with_reducible refine aC ?_|with_reducible refine aO ?_|(refine aR rfl (by simp only[dN,hb1,go_sem,reduceIte,jA,jB,jC,jD,reduceCtorEq,jE,jF];try omega) ?_;simp only[dN,hb1,go_sem,reduceIte,jA,jB,jC,jD,reduceCtorEq,jE,jF])|(with_reducible refine aK ?_))
 refine cV (aM (h.set (nx+1) .tip) ?_ (.inr ⟨ho,nx+1,by omega,?_,rfl⟩))
 ·intro m b e
  have hm:∀b,h m=some b→m<nx:=fun b hb=>hd m b hb
  simp only[Hp.set_app,Hp.del_app] at e⊢
  split at e
  ·rename_i e1;rw[if_pos e1];exact e
  rename_i e1
  have:=hm _ e
  rw[if_neg e1,if_neg (by omega),if_neg (by omega)];exact e
 simp only[go_sem,reduceIte,jA,jB,jC,jD,reduceCtorEq,jE,jF]
theorem aAq{P:Program}{k:Sh}{f bs:Nat}(hL:aH P f=some (LB.Clone k bs))(hbs:bs≤140737)(own:Own)(es:List V)(hl:es.length≤1000000000)(hn:own= .nil→es=[])(hnm:∀L,dY L es)(h:Hp):
 cM P f [.sl k own es] h (V.sl k own es).loose:=by
 refine iG (fun L=>by cases own<;>simp[V.loose,V.names,hnm L,dY]) fun h' nx hh=>?_
 have c:=aDu hL hbs own es hl hn h' nx
 refine⟨c.1,fun K cargs hlv hr hv=>((c.mono (R':=fun v' h'' _=>v'.loose=(V.sl k own es).loose∧h'.le h'') ?_).2 K cargs hlv hr hv)⟩
 rintro v h'' nx' hnx (⟨rfl,rfl,rfl⟩|⟨ho,id,hid,rfl,rfl⟩)
 ·have he:=hn rfl
  subst he
  exact⟨rfl,Hp.le_refl _⟩
 refine⟨(by cases own<;>first|exact absurd rfl ho|rfl),iR (Hp.le_refl _) (aT.none (fun m b hm=>hlv m (hr.lt m b hm)) hid) _⟩
end Go.Proofs.YthikfnmcjipobaaGreat
/-
The abstract layer:guards split into both cases,with the guard's slot known from then on;results of more than one part. No program in sight. No conditions.
-/
namespace Go.Proofs.YthikfnmcjipobaaGreat
set_option linter.unusedSimpArgs false
set_option linter.unusedVariables false
set_option linter.unusedSectionVars false
open Go.RowKit
theorem oL{a j k:Nat}:a+(j+1)+(k+1)=a+(j+k+2):=by omega
theorem uZ{sl:List V}{t:Nat}{v:V}(h:sl.getD t V.undef=v):sl.set t v=sl:=by
 rcases Nat.lt_or_ge t sl.length with ht|ht
 ·rw[List.getD_eq_getElem?_getD,List.getElem?_eq_getElem ht] at h
  simp only[Option.getD_some] at h
  rw[←h]
  exact List.set_getElem_self ht
 exact List.set_eq_of_length_le ht
section
variable{P:Program}{r:List aA}{Qs:St→Prop}{s:St}{dst:Option Nat}
theorem zQ{t:Nat}{want b:Bool}{op:LOp}(hb:s.sl.getD t V.undef= .bool b)
 (h1:b=want→bE P (⟨dst,none,op⟩::r) Qs ⟨s.sl.set t (.bool want),s.h,s.nx⟩) (h2:b= !want→bE P r Qs ⟨bN (s.sl.set t (.bool !want)) dst V.undef,s.h,s.nx⟩):
 bE P (⟨dst,some (t,want),op⟩::r) Qs s:=by
 refine tM hb (fun e=>?_) (fun e=>?_)
 ·have:=h1 e
  rw[←e,uZ hb] at this
  exact this
 have e':b= !want:=by cases b<;>cases want<;>simp at e⊢
 have:=h2 e'
 rw[←e',uZ hb] at this
 exact this
end
section
variable{P:Program}{h0:Hp}{nx0:Nat}{Q:List V→List (Option Blk)→List (Option Con)→Prop}{sl:List V}{adds:List (Option Blk)}{cons:List (Option Con)}{r:List (aA×List Nat)}{dst:Option Nat}{deps:List Nat}
theorem aAk{t:Nat}{want b:Bool}{op:LOp}(hb:sl.getD t V.undef= .bool b)(h1:b=want→iA P h0 nx0 ((⟨dst,none,op⟩,deps)::r) (sl.set t (.bool want)) adds cons Q)
 (h2:b= !want→iA P h0 nx0 r (bN (sl.set t (.bool !want)) dst V.undef) (adds++[none]) (cons++[none]) Q):iA P h0 nx0 ((⟨dst,some (t,want),op⟩,deps)::r) sl adds cons Q:=by
 refine aEr hb (fun e=>?_) (fun e=>?_)
 ·have:=h1 e
  rw[←e,uZ hb] at this
  exact this
 have e':b= !want:=by cases b<;>cases want<;>simp at e⊢
 have:=h2 e'
 rw[←e',uZ hb] at this
 exact this
end
section
variable{P:Program}{h0:Hp}{nx0:Nat}{Q:List V→List (Option Blk)→List (Option Con)→Prop}{sl:List V}{adds:List (Option Blk)}{cons:List (Option Con)}{r:List (aA×List Nat)}{dst:Option Nat}{deps:List Nat}{t:Nat}{op:LOp}
end
theorem aEp{P:Program}{h0:Hp}{nx0:Nat}{Q:List V→List (Option Blk)→List (Option Con)→Prop}{sl:List V}{adds:List (Option Blk)}{cons:List (Option Con)}{r:List (aA×List Nat)}{dst:Option Nat}{deps:List Nat}{t:Sh}{x v:aQ}{j i o:Nat}{k:Sh}{es:List V}
 (hx:x.ev sl= .ptr (nx0+j) k i o) (ha:adds.getD j none=some (.arr k es)) (hd:j∈deps) (hu:bS (nx0+j) cons) (hi:i<es.length) (hp:gS k t o) (hf:(v.ev sl).fits t=true)
 (h:iA P h0 nx0 r (bN sl dst V.undef) (adds++[none]) (cons++[some ⟨nx0+j, .arr k es,some (.arr k (es.set i (dZ t o (es.getD i V.undef) (v.ev sl))))⟩]) Q):iA P h0 nx0 ((⟨dst,none, .store t x v⟩,deps)::r) sl adds cons Q:=
 qI hx (by rw[cQ];exact⟨hu,hd,ha⟩) hi hp hf h
def sY(b:Bool)(A B:Prop):Prop:=(b=true→A)∧(b=false→B)
theorem aHw{A B:Prop}(h:A):sY true A B:=⟨(fun _=>h),(fun h=>by cases h)⟩
theorem aHx{A B:Prop}(h:B):sY false A B:=⟨(fun h=>by cases h),(fun _=>h)⟩
theorem kK{b:Bool}{A B:Prop}(h1:b=true→A)(h2:b=false→B):sY b A B:=⟨h1,h2⟩
theorem jS{P:Program}{c:aQ}{a b:cU}{Q:eZ→St→Prop}{s:St}(h:lwp P (.cond c a b) Q s):lwp P (.cond c a b) Q s:=h
theorem iY{P:Program}{n:Nat}{hd:List (aA×List Nat)}{tl:List aA}{Q:eZ→St→Prop}{s:St}(h:lwp P (.draw n hd tl) Q s):lwp P (.draw n hd tl) Q s:=h
theorem iW{P:Program}{o:aA}{r:List aA}{Q:St→Prop}{s:St}(h:bE P (o::r) Q s):bE P (o::r) Q s:=h
theorem iZ{P:Program}{h0:Hp}{nx0:Nat}{Q:List V→List (Option Blk)→List (Option Con)→Prop}{sl:List V}{adds:List (Option Blk)}{cons:List (Option Con)}{l:List (aA×List Nat)}(h:iA P h0 nx0 l sl adds cons Q):iA P h0 nx0 l sl adds cons Q:=h
theorem gB{P:Program}{c:aQ}{a b:cU}{Q:eZ→St→Prop}{s:St}{t:Bool}(hc:c.ev s.sl= .bool t)(h:sY t (lwp P a Q s) (lwp P b Q s)):lwp P (.cond c a b) Q s:=fY t hc h.1 h.2
theorem fA{P:Program}{r:List aA}{Qs:St→Prop}{s:St}{dst:Option Nat}{t:Nat}{b:Bool}{op:LOp}(hb:s.sl.getD t V.undef= .bool b)
 (h:sY b (bE P (⟨dst,none,op⟩::r) Qs ⟨s.sl.set t (.bool true),s.h,s.nx⟩) (bE P r Qs ⟨bN (s.sl.set t (.bool false)) dst V.undef,s.h,s.nx⟩)):bE P (⟨dst,some (t,true),op⟩::r) Qs s:=
 zQ hb h.1 h.2
theorem fB{P:Program}{r:List aA}{Qs:St→Prop}{s:St}{dst:Option Nat}{t:Nat}{b:Bool}{op:LOp}(hb:s.sl.getD t V.undef= .bool b)
 (h:sY b (bE P r Qs ⟨bN (s.sl.set t (.bool true)) dst V.undef,s.h,s.nx⟩) (bE P (⟨dst,none,op⟩::r) Qs ⟨s.sl.set t (.bool false),s.h,s.nx⟩)):bE P (⟨dst,some (t,false),op⟩::r) Qs s:=
 zQ hb h.2 h.1
section
variable{P:Program}{h0:Hp}{nx0:Nat}{Q:List V→List (Option Blk)→List (Option Con)→Prop}{sl:List V}{adds:List (Option Blk)}{cons:List (Option Con)}{r:List (aA×List Nat)}{dst:Option Nat}{deps:List Nat}{t:Nat}{op:LOp}
theorem fC{b:Bool}(hb:sl.getD t V.undef= .bool b)(h:sY b (iA P h0 nx0 ((⟨dst,none,op⟩,deps)::r) (sl.set t (.bool true)) adds cons Q) (iA P h0 nx0 r (bN (sl.set t (.bool false)) dst V.undef) (adds++[none]) (cons++[none]) Q)):
 iA P h0 nx0 ((⟨dst,some (t,true),op⟩,deps)::r) sl adds cons Q:=aAk hb h.1 h.2
theorem fD{b:Bool}(hb:sl.getD t V.undef= .bool b)(h:sY b (iA P h0 nx0 r (bN (sl.set t (.bool true)) dst V.undef) (adds++[none]) (cons++[none]) Q) (iA P h0 nx0 ((⟨dst,none,op⟩,deps)::r) (sl.set t (.bool false)) adds cons Q)):
 iA P h0 nx0 ((⟨dst,some (t,false),op⟩,deps)::r) sl adds cons Q:=aAk hb h.2 h.1
end
theorem gT{t u:Nat}{k:Sh}{R:V→Hp→Nat→Prop}{s:St}(ho:(bC.load k (.slot t)).ok s.sl s.h)(h':Hp)(hle:h'.le s.h)(hR:R (.tup [(bC.load k (.slot t)).out s.sl s.h,s.sl.getD u V.undef]) h' s.nx):vD [.cell t k, .slot u] R .ret s:=by
 have:=bC.sem_of_ok (R:=fun v=>∃h',h'.le s.h∧R (gC [v,s.sl.getD u V.undef]) h' s.nx) ho ⟨h',hle,by generalize (bC.load k (.slot t)).out s.sl s.h=x at hR;exact hR⟩
 exact this
theorem aCB{R:V→Hp→Nat→Prop}{s:St}(h':Hp)(hle:h'.le s.h)(hR:R (.tup []) h' s.nx):vD [] R .ret s:=⟨h',hle,hR⟩
def Acc(h:Hp)(n0:Nat)(o:Own)(es:List V):Prop:=(es=[]∧o= .nil)∨(es≠ []∧∃id,n0≤id∧o= .tok id∧h id=some .tip)
def mW(h:Hp)(n0:Nat)(o:Own):Prop:=∃id,n0≤id∧o= .tok id∧h id=some .tip
def Hp.delO(h:Hp):Own→Hp
 | .tok n=>h.del n
 |_=>h
theorem fS(h:Hp):h.delO .nil=h:=rfl
theorem fR(h:Hp)(n:Nat):h.delO (.tok n)=h.del n:=rfl
def Hp.same(n0:Nat)(h h':Hp):Prop:=∀m,m<n0→h' m=h m
theorem Hp.same.rfl'{n0:Nat}{h:Hp}:Hp.same n0 h h:=fun _ _=>rfl
theorem bV{n0 n:Nat}{h h':Hp}(s:Hp.same n0 h h')(hn:n0≤n)(b:Blk):Hp.same n0 h (h'.set n b):=fun m hm=>by
 unfold Hp.set
 rw[if_neg (by omega)]
 exact s m hm
theorem cN{n0 n:Nat}{h h':Hp}(s:Hp.same n0 h h')(hn:n0≤n):Hp.same n0 h (h'.del n):=fun m hm=>by
 unfold Hp.del
 rw[if_neg (by omega)]
 exact s m hm
theorem kX{n0:Nat}{h h':Hp}{o:Own}(s:Hp.same n0 h h')(ho:∀id,o= .tok id→n0≤id):Hp.same n0 h (h'.delO o):=by
 cases o with
 |tok id=>exact cN s (ho id rfl)
 |_=>exact s
theorem Acc.ge{h:Hp}{n0:Nat}{o:Own}{es:List V}(a:Acc h n0 o es)(id:Nat)(e:o= .tok id):n0≤id:=by
 rcases a with⟨_,rfl⟩|⟨_,id',hge,rfl,_⟩
 ·cases e
 injection e with e;omega
theorem Hp.same.le{n0:Nat}{h h':Hp}(s:Hp.same n0 h h'){h0:Hp}(hd:aT h0 n0)(hle:h0.le h):h0.le h':=fun m b e=>by rw[s m (hd m b e)];exact hle m b e
theorem aT.delO{h:Hp}{nx:Nat}(hd:aT h nx)(o:Own):aT (h.delO o) nx:=by
 cases o<;>first|exact hd|exact hd.del
theorem aEQ{h:Hp}{o:Own}{m:Nat}(hn:∀id,o= .tok id→m≠id):h.delO o m=h m:=by
 cases o with
 |tok id=>show(h.del id) m=h m;unfold Hp.del;rw[if_neg (hn id rfl)]
 |_=>rfl
theorem Acc.set{h:Hp}{n0 n:Nat}{o:Own}{es:List V}(a:Acc h n0 o es)(hn:h n≠some .tip)(b:Blk):Acc (h.set n b) n0 o es:=by
 rcases a with⟨e,eo⟩|⟨e,id,hge,eo,ht⟩
 ·exact .inl ⟨e,eo⟩
 refine .inr ⟨e,id,hge,eo,?_⟩
 unfold Hp.set
 rw[if_neg (fun e2=>hn (by rw[←e2];exact ht))]
 exact ht
theorem Acc.del{h:Hp}{n0 n:Nat}{o:Own}{es:List V}(a:Acc h n0 o es)(hn:o≠ .tok n):Acc (h.del n) n0 o es:=by
 rcases a with⟨e,eo⟩|⟨e,id,hge,eo,ht⟩
 ·exact .inl ⟨e,eo⟩
 refine .inr ⟨e,id,hge,eo,?_⟩
 unfold Hp.del
 rw[if_neg (fun e=>hn (by rw[eo,e]))]
 exact ht
theorem Acc.delO{h:Hp}{n0:Nat}{o o':Own}{es:List V}(a:Acc h n0 o es)(hn:∀id,o'= .tok id→o≠ .tok id):Acc (h.delO o') n0 o es:=by
 cases o' with
 |tok id=>exact a.del (hn id rfl)
 |_=>exact a
theorem mW.set{h:Hp}{n0 n:Nat}{o:Own}(a:mW h n0 o)(hn:h n≠some .tip)(b:Blk):mW (h.set n b) n0 o:=by
 obtain⟨id,hge,eo,ht⟩:=a
 refine⟨id,hge,eo,?_⟩
 unfold Hp.set
 rw[if_neg (fun e2=>hn (by rw[←e2];exact ht))]
 exact ht
theorem aT.ntip{h:Hp}{nx n:Nat}(hd:aT h nx)(hn:nx≤n):h n≠some .tip:=fun e=>absurd (hd n _ e) (by omega)
theorem kP{h:Hp}{n:Nat}{k:Sh}{es:List V}:h.set n (.arr k es) n≠some .tip:=by unfold Hp.set;rw[if_pos rfl];exact(fun e=>by cases e)
theorem mB{h:Hp}{n:Nat}{k:Sh}{es:List V}(e:h n=some (.arr k es)):h n≠some .tip:=by rw[e];exact(fun e=>by cases e)
theorem kN{h:Hp}{n m:Nat}{b:Blk}(hn:m≠n)(hm:h m≠some .tip):h.set n b m≠some .tip:=by unfold Hp.set;rw[if_neg hn];exact hm
theorem kO{h:Hp}{n m:Nat}(hm:h m≠some .tip):h.del n m≠some .tip:=by unfold Hp.del;split<;>first|exact hm|exact(fun e=>by cases e)
theorem Acc.new{h:Hp}{n0 n:Nat}(es:List V)(hne:es≠ [])(hn:n0≤n):Acc (h.set n .tip) n0 (.tok n) es:= .inr ⟨hne,n,hn,rfl,by unfold Hp.set;rw[if_pos rfl]⟩
theorem mW.new{h:Hp}{n0 n:Nat}(hn:n0≤n):mW (h.set n .tip) n0 (.tok n):=⟨n,hn,rfl,by unfold Hp.set;rw[if_pos rfl]⟩
theorem Acc.nil{h:Hp}{n0:Nat}:Acc h n0 .nil []:= .inl ⟨rfl,rfl⟩
theorem Acc.loose{h:Hp}{n0:Nat}{o:Own}{k:Sh}{es:List V}(a:Acc h n0 o es):(V.sl k o es).loose=(if es.isEmpty=true then .sl k .nil [] else .sl k .free es):=by
 rcases a with⟨rfl,rfl⟩|⟨hne,id,_,rfl,_⟩
 ·rfl
 cases es with
 |nil=>exact absurd rfl hne
 |cons=>rfl
theorem Acc.ok{h:Hp}{n0:Nat}{o:Own}{es:List V}(a:Acc h n0 o es):hM h o:=by
 rcases a with⟨_,rfl⟩|⟨_,id,_,rfl,ht⟩
 ·trivial
 exact ht
section
variable{P:Program}{r:List aA}{Qs:St→Prop}{s:St}{dst:Option Nat}
theorem aFt{k:Sh}{bs:Nat}{x y:aQ}{o:Own}{es ys:List V}(hx:x.ev s.sl= .sl k o es)(ha:hM s.h o)(hy:dN s.h (y.ev s.sl)=some (k,ys))(hne:ys≠ [])(hb:(es.length+ys.length)*bs≤140737488355328)
 (hq:bE P r Qs ⟨bN s.sl dst (.sl k (.tok s.nx) (es++ys)),(s.h.delO o).set s.nx .tip,s.nx+1⟩):bE P (⟨dst,none, .append k bs x y⟩::r) Qs s:=by
 have hys:ys.isEmpty=false:=by cases ys with|nil=>exact absurd rfl hne|cons=>rfl
 unfold bE
 simp only[LOp.run,LOp.sem,hy,hx,true_and]
 refine⟨hb, .inl ⟨ha,?_⟩⟩
 cases o with
 |free=>exact ha.elim
 |nil=>simpa only[dW,fJ,hys,Hp.delO,Bool.false_eq_true,if_false] using hq
 |full=>simpa only[dW,fJ,hys,Hp.delO,Bool.false_eq_true,if_false] using hq
 |tok id=>exact hq
theorem pN{k:Sh}{bs:Nat}{x y:aQ}{o:Own}{es ys:List V}{n0:Nat}(hx:x.ev s.sl= .sl k o es)(ha:Acc s.h n0 o es)(hy:dN s.h (y.ev s.sl)=some (k,ys))(hne:ys≠ [])(hb:(es.length+ys.length)*bs≤140737488355328)
 (hq:bE P r Qs ⟨bN s.sl dst (.sl k (.tok s.nx) (es++ys)),(s.h.delO o).set s.nx .tip,s.nx+1⟩):bE P (⟨dst,none, .append k bs x y⟩::r) Qs s:=
 aFt hx ha.ok hy hne hb hq
end
def LOp.isApp:LOp→Bool
 | .append .. =>true
 |_=>false
def aA.plain2(o:aA):Bool:=o.plain&& !o.op.isApp
def gF:List aA→List aA
 | []=>[]
 |o::r=>match o.plain2 with
  |true=>o::gF r
  |false=>[]
def fO:List aA→List aA
 | []=>[]
 |o::r=>match o.plain2 with
  |true=>fO r
  |false=>o::r
theorem aEM{P:Program}{Q:St→Prop}:∀(l:List aA) (s:St),gL (gF l) s→bE P (fO l) Q (dQ (gF l) s)→bE P l Q s
 | [],s,_,h=>h
 |o::r,s,ho,h=>by
  cases hc:o.plain2 with
  |false=>simp only[gF,fO,hc] at ho h;exact h
  |true=>
   simp only[gF,fO,hc] at ho h
   have hcall:o.op.isCall=false:=by
    simp only[aA.plain2,Bool.and_eq_true] at hc
    have hc:=hc.1
    unfold aA.plain at hc
    split at hc
    ·simpa using hc
    cases hc
   exact sE hcall ho.1 (aEM r _ ho.2 h)
theorem gV{P:Program}{Q:St→Prop}{o:aA}{r:List aA}{s:St}(_:o.plain2=true)(ho:gL (gF (o::r)) s)(h:bE P (fO (o::r)) Q (dQ (gF (o::r)) s)):bE P (o::r) Q s:=aEM _ s ho h
theorem rK{P:Program}{Q:St→Prop}{o:aA}{r:List aA}{s:St}(hp:o.op.isApp=true)(hg:o.g=none)(ho:o.ok s)(h:bE P r Q (o.next s)):bE P (o::r) Q s:=by
 refine sE ?_ ho h
 cases e:o.op<;>rw[e] at hp<;>first|rfl|cases hp
theorem oM{a b:Nat}(h:a<b):(a=b)=False:=aBn (by omega)
theorem lP{a b k:Nat}(h:a<b):(a=b+k)=False:=aBn (by omega)
theorem lQ{a b:Nat}(h:a<b):(b=a)=False:=aBn (by omega)
theorem iQ{a b k:Nat}(h:a<b):(b+k=a)=False:=aBn (by omega)
/-
The abstract layer:a walk's plain steps as one. No program in sight. No conditions.
-/
class Stp(A:Prop)(B:outParam Prop):Prop where
 go:B→A
theorem stp{A B:Prop} [i:Stp A B](h:B):A:=i.go h
variable{P:Program}{Q:eZ→St→Prop}{s:St}
instance aIM{a b:cU}:Stp (lwp P (.seq a b) Q s) (lwp P a (yY (lwp P b) Q) s):=⟨aN⟩
instance aIL{l:List aA}:Stp (lwp P (.ops l) Q s) (bE P l (Q .normal) s):=⟨aO⟩
instance aIK{b:(eZ→St→Prop)→St→Prop}:Stp (yY b Q .normal s) (b Q s):=⟨aB⟩
instance aIJ{R:St→Prop}:Stp (bE P [] R s) (R s):=⟨aK⟩
instance aII{id:Nat}:Stp (kL id Q .normal s) (Q .normal s):=⟨aC⟩
instance aIH{id:Nat}{c:cU}:Stp (lwp P (.block id c) Q s) (lwp P c (kL id Q) s):=⟨aI⟩
instance aIG:Stp (lwp P .skip Q s) (Q .normal s):=⟨aP⟩
instance aIF:Stp (lwp P .ret Q s) (Q .ret s):=⟨cV⟩
instance aIE{b:(eZ→St→Prop)→St→Prop}:Stp (yY b Q .ret s) (Q .ret s):=⟨lS⟩
instance aID{id:Nat}:Stp (kL id Q .ret s) (Q .ret s):=⟨jT⟩
instance aIC{ι:Type}{sl:ι→List V}{C:ι→Hp→Nat→Prop}{m:ι→Nat}{n:Nat}:Stp (fF sl C m n Q .ret s) (Q .ret s):=⟨kG⟩
instance aIB{id:Nat}:Stp (lwp P (.exit id) Q s) (Q (.exit id) s):=⟨oB⟩
instance aIA{b:(eZ→St→Prop)→St→Prop}{id:Nat}:Stp (yY b Q (.exit id) s) (Q (.exit id) s):=⟨mT⟩
instance aIz{ι:Type}{sl:ι→List V}{C:ι→Hp→Nat→Prop}{m:ι→Nat}{n id:Nat}:Stp (fF sl C m n Q (.exit id) s) (Q (.exit id) s):=⟨mI⟩
instance aIy{id:Nat}:Stp (kL id Q (.exit id) s) (Q .normal s):=⟨lJ⟩
instance aIx{A B:Prop}:Stp (sY true A B) A:=⟨aHw⟩
instance aIw{A B:Prop}:Stp (sY false A B) B:=⟨aHx⟩
/-
The abstract layer:a walk as far as it goes by itself,said once:its steps are the default of an argument. E:the facts that it may use;C1 .. C4,D1 .. D6:contracts of calls (in ordered code,in a head that draws). No program in sight. No conditions.
-/
theorem dmo{h H:Hp}{nx n:Nat}(q:aT h nx)(k:aT h nx→aT H n:=by
 intro q;(try dsimp only);repeat (first|exact aT.up q (by omega)|refine aT.set2 ?_ (by omega) _|refine aT.del ?_|refine aT.delO ?_ _)):aT H n:=k q
theorem kep{h h1 H:Hp}{m n:Nat}(q:Hp.same m h h1)(k:Hp.same m h h1→Hp.same n h H:=by
 intro q;(try dsimp only);repeat (first|exact q|refine bV ?_ (by omega) _|refine cN ?_ (by omega))):Hp.same n h H:=k q
theorem aIo{h h1 H:Hp}{m n n0:Nat}{o:Own}{es:List V}(q:Hp.same m h h1)(a:Acc h1 n0 o es)(k:Hp.same m h h1→Acc h1 n0 o es→Hp.same n h H:=by
 intro q a;(try dsimp only);repeat (first|exact q|refine bV ?_ (by omega) _|refine cN ?_ (by omega)|refine kX ?_ (fun id e=>by have:=a.ge id e;omega))):Hp.same n h H:=k q a
theorem acc{h H:Hp}{nx n0:Nat}{o:Own}{es:List V}(a:Acc h n0 o es)(d:aT h nx)(k:Acc h n0 o es→aT h nx→Acc H n0 o es:=by
 intro a d;(try dsimp only);repeat' (first|exact a|exact aT.ntip d (by omega)|exact kP|exact mB (by assumption)|refine kN (by omega) ?_|refine kO ?_|refine Acc.set ?_ ?_ _)):Acc H n0 o es:=k a d
theorem lef{h h1 H:Hp}{nx:Nat}(d:aT h nx)(q:h.le h1)(k:aT h nx→h.le h1→h.le H:=by
 intro d q;(try dsimp only);repeat (first|exact q|refine aW d ?_ (by omega) _|refine bD d ?_ (by omega))):h.le H:=k d q
theorem leo{h H:Hp}{nx:Nat}(d:aT h nx)(k:aT h nx→h.le H:=by
 intro d;(try dsimp only);repeat (first|exact Hp.le_refl _|refine aW d ?_ (by omega) _|refine bD d ?_ (by omega))):h.le H:=k d
theorem fls{p:Prop}(h:¬p:=by omega):p=False:=eq_false h
theorem dct{p:Prop} [Decidable p](h:p:=by omega):decide p=true:=decide_eq_true h
theorem dcf{p:Prop} [Decidable p](h:¬p:=by omega):decide p=false:=decide_eq_false h
theorem bqt{a b:Int}(h:a=b:=by omega):(a==b)=true:=by simpa using h
theorem bnt{a b:Int}(h:a≠b:=by omega):(a != b)=true:=by simpa using h
theorem bnf{a b:Int}(h:a=b:=by omega):(a != b)=false:=by simpa using h
theorem wrp{a b:Int}(h:a=b:=by omega)(h1:-9223372036854775808≤b:=by omega)(h2:b<9223372036854775808:=by omega):IntKind.i64.wrap a=b:=by rw[h];exact cS (by omega) (by omega)
theorem wkl{a b:List V}(E:True)(h:WkL a b:=by simp only[WkL,aD,Int.natCast_add,Int.natCast_one,Int.natCast_zero,go_sem,reduceIte,Nat.reduceAdd,Nat.reduceSub,Nat.reduceLT,Nat.reduceLeDiff,reduceCtorEq,Nat.reduceEqDiff,Int.reduceToNat]):WkL a b:=h
theorem wke{a b:List V}{p:Prop}(E:p)(h:p→WkL a b:=by intro E;simp only[WkL,aD,Int.natCast_add,Int.natCast_one,Int.natCast_zero,E,go_sem,reduceIte,Nat.reduceAdd,Nat.reduceSub,Nat.reduceLT,Nat.reduceLeDiff,reduceCtorEq,Nat.reduceEqDiff,Int.reduceToNat]):WkL a b:=h E
theorem e2{A B:Prop}(a:A)(b:B):A∧B:=⟨a,b⟩
theorem e3{A B C:Prop}(a:A)(b:B)(c:C):A∧B∧C:=⟨a,b,c⟩
theorem e4{A B C D:Prop}(a:A)(b:B)(c:C)(d:D):A∧B∧C∧D:=⟨a,b,c,d⟩
theorem e5{A B C D E:Prop}(a:A)(b:B)(c:C)(d:D)(e:E):A∧B∧C∧D∧E:=⟨a,b,c,d,e⟩
theorem e6{A B C D E F:Prop}(a:A)(b:B)(c:C)(d:D)(e:E)(f:F):A∧B∧C∧D∧E∧F:=⟨a,b,c,d,e,f⟩
theorem e7{A B C D E F G:Prop}(a:A)(b:B)(c:C)(d:D)(e:E)(f:F)(g:G):A∧B∧C∧D∧E∧F∧G:=⟨a,b,c,d,e,f,g⟩
theorem e8{A B C D E F G H:Prop}(a:A)(b:B)(c:C)(d:D)(e:E)(f:F)(g:G)(h:H):A∧B∧C∧D∧E∧F∧G∧H:=⟨a,b,c,d,e,f,g,h⟩
theorem e9{A B C D E F G H I:Prop}(a:A)(b:B)(c:C)(d:D)(e:E)(f:F)(g:G)(h:H)(i:I):A∧B∧C∧D∧E∧F∧G∧H∧I:=⟨a,b,c,d,e,f,g,h,i⟩
theorem e10{A B C D E F G H I J:Prop}(a:A)(b:B)(c:C)(d:D)(e:E)(f:F)(g:G)(h:H)(i:I)(j:J):A∧B∧C∧D∧E∧F∧G∧H∧I∧J:=⟨a,b,c,d,e,f,g,h,i,j⟩
theorem e12{A B C D E F G H I J K L:Prop}(a:A)(b:B)(c:C)(d:D)(e:E)(f:F)(g:G)(h:H)(i:I)(j:J)(k:K)(l:L):A∧B∧C∧D∧E∧F∧G∧H∧I∧J∧K∧L:=⟨a,b,c,d,e,f,g,h,i,j,k,l⟩
theorem au{G B:Prop}(k:B)(h:PLift B→G:=by
 intro k
 (repeat' (first|(with_reducible first|refine stp ?_|refine bT (by decide) ?_)|((first|(with_reducible refine iW ?_;first|refine gV rfl ?_ ?_|refine aJ (C1 _) rfl (aS _) ?_|refine aJ (C2 _) rfl (aS _) ?_|refine aJ (C3 _) rfl (aS _) ?_|refine aJ (C4 _) rfl (aS _) ?_|(first|refine fA rfl ?_|refine fB rfl ?_)|refine dO rfl ?_)|(with_reducible refine iZ ?_;first|refine fQ rfl ?_ ?_|refine cT (D1 _) rfl (dR _) ?_|refine cT (D2 _) rfl (dR _) ?_|refine cT (D3 _) rfl (dR _) ?_|refine cT (D4 _) rfl (dR _) ?_|refine cT (D5 _) rfl (dR _) ?_|refine cT (D6 _) rfl (dR _) ?_|(first|refine fC rfl ?_|refine fD rfl ?_)|refine dP rfl ?_|refine fZ (fP ?_)|refine fZ (gZ ?_))|(with_reducible refine jS ?_;refine gB rfl ?_))<;>try simp only[go_sem,reduceIte,Nat.reduceAdd,Nat.reduceSub,Nat.reduceLT,Nat.reduceLeDiff,reduceCtorEq,Nat.reduceEqDiff,Int.reduceToNat])|(with_reducible refine iY ?_;refine gE rfl ?_)|omega))
 exact k.down):G:=h ⟨k⟩
theorem aue{G B p:Prop}(E:p)(k:B)(h:p→PLift B→G:=by
 intro E k
 (repeat' (first|(with_reducible first|refine stp ?_|refine bT (by decide) ?_)|((first|(with_reducible refine iW ?_;first|refine gV rfl ?_ ?_|refine aJ (C1 _) rfl (aS _) ?_|refine aJ (C2 _) rfl (aS _) ?_|refine aJ (C3 _) rfl (aS _) ?_|refine aJ (C4 _) rfl (aS _) ?_|refine pN rfl (acc hacc hdm) rfl (by simp) (by simp only[E,go_sem,reduceIte,Nat.reduceAdd,Nat.reduceSub,Nat.reduceLT,Nat.reduceLeDiff,reduceCtorEq,Nat.reduceEqDiff,Int.reduceToNat];try omega) ?_|refine rK rfl rfl (by simp only[E,go_sem,reduceIte,Nat.reduceAdd,Nat.reduceSub,Nat.reduceLT,Nat.reduceLeDiff,reduceCtorEq,Nat.reduceEqDiff,Int.reduceToNat];try omega) ?_|(first|refine fA rfl ?_|refine fB rfl ?_)|refine dO rfl ?_)|(with_reducible refine iZ ?_;first|refine fQ rfl ?_ ?_|refine cT (D1 _) rfl (dR _) ?_|refine cT (D2 _) rfl (dR _) ?_|refine cT (D3 _) rfl (dR _) ?_|refine cT (D4 _) rfl (dR _) ?_|refine cT (D5 _) rfl (dR _) ?_|refine cT (D6 _) rfl (dR _) ?_|refine aEp rfl rfl (by decide) (by(simp only[bS,go_sem,reduceIte,Nat.reduceAdd,Nat.reduceSub,Nat.reduceLT,Nat.reduceLeDiff,reduceCtorEq,Nat.reduceEqDiff,Int.reduceToNat])<;>try omega) (by simp only[go_sem,reduceIte,Nat.reduceAdd,Nat.reduceSub,Nat.reduceLT,Nat.reduceLeDiff,reduceCtorEq,Nat.reduceEqDiff,Int.reduceToNat]) (by simp only[go_sem,reduceIte,Nat.reduceAdd,Nat.reduceSub,Nat.reduceLT,Nat.reduceLeDiff,reduceCtorEq,Nat.reduceEqDiff,Int.reduceToNat]) (by simp only[E,go_sem,reduceIte,Nat.reduceAdd,Nat.reduceSub,Nat.reduceLT,Nat.reduceLeDiff,reduceCtorEq,Nat.reduceEqDiff,Int.reduceToNat]) ?_|(first|refine fC rfl ?_|refine fD rfl ?_)|refine dP rfl ?_|refine fZ (fP ?_)|refine fZ (gZ ?_))|(with_reducible refine jS ?_;refine gB rfl ?_))<;>try simp only[E,go_sem,reduceIte,Nat.reduceAdd,Nat.reduceSub,Nat.reduceLT,Nat.reduceLeDiff,reduceCtorEq,Nat.reduceEqDiff,Int.reduceToNat])|(with_reducible refine iY ?_;refine gE rfl ?_)|omega))
 exact k.down):G:=h E ⟨k⟩
end Go.Proofs.YthikfnmcjipobaaGreat
/-
maps.Keys:walks through a map's keys,in whatever order. No program in sight. No conditions beyond those named.
-/
namespace Go.Proofs.YthikfnmcjipobaaGreat
open Go.Proofs.YthikfnmcjipobaaGreat renaming iW→uA,gV→uB,fA→uC,fB→uD,dO→uE,iZ→uF,fQ→uG,fC→uH,fD→uI,dP→uJ,fZ→uK,fP→uL,gZ→uM,jS→uN,gB→uO,bT→uP,kK→uQ,iY→uR,gE→uS
open Nat renaming reduceAdd→jA,reduceSub→jB,reduceLT→jC,reduceLeDiff→jD,reduceEqDiff→jE
open Int renaming reduceToNat→jF,toNat_natCast→jG,natCast_add→jH,natCast_one→jI,natCast_zero→jJ
open List renaming length_map→jK,length_cons→jL,length_nil→jM,replicate_succ→jN,replicate_zero→jO,cons_append→jP,nil_append→jQ
set_option linter.unusedSimpArgs false
set_option linter.unusedVariables false
set_option linter.unusedSectionVars false
open Go.RowKit Go.Shelf
section
variable{P:Program}{Q:St→Prop}{s:St}{dst:Option Nat}{r:List aA}{x:aQ}
theorem aHn(h:bE P r Q ⟨bN s.sl dst (.map s.nx),s.h.set s.nx (.mp [] 0),s.nx+1⟩):bE P (⟨dst,none, .mp .mk⟩::r) Q s:=h
theorem vP{n c:Nat}{es:List ME}(hx:x.ev s.sl= .map n)(hn:s.h n=some (.mp es c))(h:bE P r Q ⟨bN s.sl dst (.ptr s.nx .leaf 0 0),s.h.set s.nx (.mit n c [] c),s.nx+1⟩):bE P (⟨dst,none, .mp (.rng x)⟩::r) Q s:=by
 unfold bE
 simp only[LOp.run,LOp.sem,MOp.sem,hx,hn]
 exact h
theorem vQ{it m c since last:Nat}{seen:List Nat}{es:List ME}(hx:x.ev s.sl= .ptr it .leaf 0 0)(hi:s.h it=some (.mit m since seen last))(hm:s.h m=some (.mp es c))(hb:∀e∈es,e.b<since)(hl:since≤last)
 (h1:∀e∈es,e.b∉seen→bE P r Q ⟨bN s.sl dst (.tup [.bool true,e.k,e.v]),s.h.set it (.mit m since (seen++[e.b]) c),s.nx+1⟩) (h2:(∀e∈es,e.b∈seen)→bE P r Q ⟨bN s.sl dst (.tup [.bool false]),s.h,s.nx+1⟩):bE P (⟨dst,none, .mp (.nxt x)⟩::r) Q s:=by
 unfold bE
 simp only[LOp.run,LOp.sem,MOp.sem,hx,hi,hm]
 exact⟨hb,hl,h1,h2⟩
theorem vR{it m c since:Nat}{seen:List Nat}{es:List ME}(hx:x.ev s.sl= .ptr it .leaf 0 0)(hi:s.h it=some (.mit m since seen c))(hm:s.h m=some (.mp es c)){b:Nat}{e:ME}(hs:seen.getLast?=some b)(he:es.find? (fun e=>e.b==b)=some e)
 (h:bE P r Q ⟨bN s.sl dst (.tup [e.k,e.v]),s.h,s.nx+1⟩):bE P (⟨dst,none, .mp (.key x)⟩::r) Q s:=by
 unfold bE
 simp only[LOp.run,LOp.sem,MOp.sem,hx,hi,hm]
 exact⟨trivial,b,e,hs,he,h⟩
theorem aGs{kS:Sh}{ks:List LK}{n c j:Nat}{es:List ME}{k:aQ}(hk:(k.ev s.sl).fits kS=true)(hx:x.ev s.sl= .map n)(hn:s.h n=some (.mp es c))(hf:lG (.plain kS ks) (k.ev s.sl) es=some (some j))
 (h:bE P r Q ⟨bN s.sl dst V.undef,s.h.set n (.mp (es.eraseIdx j) c),s.nx+1⟩):bE P (⟨dst,none, .mp (.del kS ks x k)⟩::r) Q s:=by
 unfold bE
 simp only[LOp.run,LOp.sem,MOp.sem,hx,hn,hf]
 exact⟨hk,h⟩
end
section
variable{β:Type}(bn:β→Nat)
theorem aIb{l:List β}(hn:(l.map bn).Nodup){x y:β}(hx:x∈l)(hy:y∈l)(h:bn x=bn y):x=y:=by
 induction l with
 |nil=>cases hx
 |cons a l ih=>
  rw[List.map_cons,List.nodup_cons] at hn
  rcases List.mem_cons.1 hx with e1|h1
  ·rcases List.mem_cons.1 hy with e2|h2
   ·rw[e1,e2]
   exact absurd (List.mem_map.2 ⟨y,h2,by rw[←h,e1]⟩) hn.1
  rcases List.mem_cons.1 hy with e2|h2
  ·exact absurd (List.mem_map.2 ⟨x,h1,by rw[h,e2]⟩) hn.1
  exact ih hn.2 h1 h2
theorem pW{l:List β}(hn:(l.map bn).Nodup):l.Nodup:=by
 refine(List.pairwise_map.1 hn).imp ?_
 rintro a b h rfl
 exact h rfl
theorem yF{l js:List β}(hl:(l.map bn).Nodup)(hj:(js.map bn).Nodup)(hs:∀y∈js,y∈l)(h:∀y∈l,bn y∈js.map bn):js.Perm l:=by
 rw[List.perm_ext_iff_of_nodup (pW bn hj) (pW bn hl)]
 intro y
 refine⟨hs y,fun hy=>?_⟩
 obtain⟨z,hz,hzy⟩:=List.mem_map.1 (h y hy)
 rw[aIb bn hl hy (hs z hz) hzy.symm];exact hz
theorem pX:∀{js l:List β},js.Nodup→(∀y∈js,y∈l)→js.length≤l.length
 | [],_,_,_=>Nat.zero_le _
 |y::js,l,hn,hs=>by
  obtain⟨a,b,rfl⟩:=List.append_of_mem (hs y (List.mem_cons_self ..))
  have hn:=List.nodup_cons.1 hn
  have:=pX (l:=a++b) hn.2 (fun z hz=>by
   have:=hs z (List.mem_cons_of_mem _ hz)
   rw[List.mem_append,List.mem_cons] at this
   rcases this with h|h|h
   ·exact List.mem_append.2 (.inl h)
   ·subst h;exact absurd hz hn.1
   exact List.mem_append.2 (.inr h))
  simp only[List.length_append,jL] at this⊢
  omega
theorem sC{l js:List β}(hj:(js.map bn).Nodup)(hs:∀y∈js,y∈l){y:β}(hy:y∈l)(hn:bn y∉js.map bn):js.length<l.length:=by
 have:=pX (js:=y::js) (l:=l) (List.nodup_cons.2 ⟨fun h=>hn (List.mem_map.2 ⟨y,h,rfl⟩),pW bn hj⟩) (fun z hz=>by
  rcases List.mem_cons.1 hz with rfl|hz
  ·exact hy
  exact hs z hz)
 simp only[jL] at this
 omega
theorem vI{js:List β}(hj:(js.map bn).Nodup){y:β}(hn:bn y∉js.map bn):((js++[y]).map bn).Nodup:=by
 rw[List.map_append,List.nodup_append]
 refine⟨hj,by simp,?_⟩
 intro a ha b hb hab
 simp only[List.map_cons,List.map_nil,List.mem_singleton] at hb
 subst hab;subst hb
 exact hn ha
end
theorem yL{β:Type}(me:β→ME){l:List β}(hn:(l.map fun y=>(me y).b).Nodup){y:β}(hy:y∈l):(l.map me).find? (fun e=>e.b==(me y).b)=some (me y):=by
 induction l with
 |nil=>cases hy
 |cons a l ih=>
  rw[List.map_cons,List.nodup_cons] at hn
  rw[List.map_cons,List.find?_cons]
  rcases List.mem_cons.1 hy with rfl|hy
  ·simp
  have:((me a).b==(me y).b)=false:=by
   simp only[beq_eq_false_iff_ne,ne_eq]
   exact fun h=>hn.1 (List.mem_map.2 ⟨y,hy,h.symm⟩)
  rw[this]
  exact ih hn.2 hy
namespace LB
abbrev Keys1_r0:List aA:=[
 ⟨some 4,none, .val (.load .leaf (.slot 1))⟩,
 ⟨some 5,none, .mp (.rng (.slot 4))⟩]
abbrev Keys1_r1:List aA:=[
 ⟨some 6,none, .mp (.nxt (.slot 5))⟩,
 ⟨some 7,none, .val (.ext (.slot 6) 0)⟩]
abbrev Keys1_r2(k:Sh)(z:V):List aA:=[
 ⟨some 8,none, .mp (.key (.slot 5))⟩,
 ⟨some 9,none, .val (.ext (.slot 8) 0)⟩,
 ⟨some 3,none, .box k (.const z)⟩,
 ⟨none,none, .store k (.slot 3) (.slot 9)⟩]
abbrev Keys1_r3(k:Sh):List aA:=[
 ⟨some 10,none, .val (.move (.slot 0))⟩,
 ⟨some 11,none, .val (.load k (.slot 3))⟩,
 ⟨some 12,none, .callv (.slot 10) [(.slot 11)]⟩,
 ⟨some 13,none, .val (.not (.slot 12))⟩]
abbrev Keys1_l0(k:Sh)(z:V):cU:=(.seq (.ops Keys1_r1) (.seq (.cond (.slot 7) .skip (.exit 0)) (.block 1 (.seq (.ops (Keys1_r2 k z)) (.seq (.ops (Keys1_r3 k)) (.cond (.slot 13) .ret .skip))))))
def Keys1(k:Sh)(z:V):LFn:=⟨(.seq (.ops Keys1_r0) (.block 0 (.loop (Keys1_l0 k z)))),14,[]⟩
abbrev Keys_r0:List aA:=[
 ⟨some 1,none, .box .leaf (.slot 0)⟩,
 ⟨some 2,none, .val (.move (.const .nilFn))⟩]
abbrev Keys_r1(f1:Nat):List aA:=[
 ⟨some 3,none, .val (.mkfn (.func f1) [] [(.slot 1)])⟩,
 ⟨some 2,none, .val (.move (.slot 3))⟩]
def Keys(f1:Nat):LFn:=⟨(.seq (.ops Keys_r0) (.seq (.ops (Keys_r1 f1)) .ret)),4,[.slot 2]⟩
end LB
attribute [local irreducible] IntKind.wrap
attribute [local go_sem] Option.some.injEq Prod.mk.injEq false_and and_false Bool.true_eq_false mP jR jX gG iV if_true Bool.true_and mF dS iH gL dQ aA.ok aA.next LOp.ok LOp.next bC.ok bC.out aQ.ev bN iI cH bO cO V.undef Sh.size gH fW cK aA.dok aA.dres LOp.dok LOp.dout lI iD gI eX List.take_succ_cons List.take_zero List.take_nil List.drop_succ_cons List.drop_zero List.drop_nil List.set_cons_succ List.set_cons_zero List.getD_cons_succ List.getD_cons_zero jL jM List.map_cons List.map_nil List.all_cons List.all_nil List.mem_cons List.not_mem_nil jN jO jP jQ List.append_nil List.isEmpty_cons List.isEmpty_nil dW fJ hM Option.getD_some Option.isSome_some Option.isSome_none Nat.add_eq Nat.zero_add Nat.add_zero true_and and_true and_self true_implies implies_true false_implies forall_const forall_eq forall_eq_or_imp ne_eq not_false_eq_true not_true_eq_false Bool.not_true Bool.not_false decide_true decide_false Bool.and_true Bool.true_and Bool.and_false Bool.false_and true_or or_true false_or or_false eq_self Bool.false_eq_true mK iO gC aD fH eT eB dU cL dT aZ aX dN jG Int.toNat_zero List.take_length Hp.set_app Hp.del_app gW fV aA.plain LOp.isCall aA.dplain LOp.isStop eM kT gY lY fN V.gd_true V.gd_false fM eK eL fL bG aY aU fK eS beq_true beq_false dD dE dF cB cC bH bI cP eQ cE dK dH bJ dI dL eN eO bK dJ bF cD eP bP dG bQ bB gQ gO gP gN dM cG dX cR eG eF eE eD eC bX bW cZ cY cX cA bZ bY eJ eI eH dC dB dA cQ cF bS kM Hp.turn fT Option.isNone_some Option.isNone_none oL gF fO aA.plain2 LOp.isApp oM lP lQ iQ fS fR
theorem aBs{P:Program}{f f1:Nat}(hL:aH P f=some (LB.Keys f1))(m:Nat)(h':Hp)(nx:Nat):
 bM P f [.map m] h' nx fun v h'' nx2=>v= .fn (.func f1) [] [.ptr nx .leaf 0 0]∧h''=h'.set nx (.arr .leaf [.map m])∧nx+1≤nx2:=by
 refine aG hL fun hd=>?_
 simp only[jL,jM,jA,jB,jN,jO,jP,jQ,V.undef]
 (repeat' (first|(with_reducible first|refine stp ?_|refine uP (by decide) ?_|refine uQ (fun _=>?_) (fun _=>?_))|((first|(with_reducible refine uA ?_;first|refine uB rfl ?_ ?_|(first|refine uC rfl ?_|refine uD rfl ?_)|refine uE rfl ?_)|(with_reducible refine uF ?_;first|refine uG rfl ?_ ?_|(first|refine uH rfl ?_|refine uI rfl ?_)|refine uJ rfl ?_|refine uK (uL ?_)|refine uK (uM ?_))|(with_reducible refine uN ?_;refine uO rfl ?_))<;>try simp only[ go_sem,reduceIte,jA,jB,jC,jD,reduceCtorEq,jE,jF])|(with_reducible refine uR ?_;refine uS rfl ?_)|omega))
 refine aM _ (Hp.le_refl _) ⟨?_,rfl,by simp⟩
 simp only[go_sem,reduceIte,jA,jB,jC,jD,reduceCtorEq,jE,jF]
set_option maxRecDepth 100000 in
theorem aEg{P:Program}{f:Nat}{k:Sh}{z:V}(hL:aH P f=some (LB.Keys1 k z))(hz:z.fits k=true){α β:Type}(me:β→ME)(key:β→α)(e:α→V)(hfit:∀x,(e x).fits k=true)(hek:∀y,(me y).k=e (key y))
 (l:List β) (hnd:(l.map fun y=>(me y).b).Nodup) (c:Nat) (hbc:∀y∈l,(me y).b<c) (m cp:Nat) (hb:Hp) (h1:hb cp=some (.arr .leaf [.map m])) (h2:hb m=some (.mp (l.map me) c)):
 aBG P f [.ptr cp .leaf 0 0] hb (fun x=>[e x]) (fun i x=>x∈l.map key∧i.length<l.length) (fun i=>i.Perm (l.map key)):=by
 intro yn n0 J D hle hnJ hsJ huJ hnD hJ F h h0J hbF hd0
 refine aG hL fun hd=>?_
 simp only[jL,jM,jA,jB,jN,jO,jP,jQ,V.undef]
 have f1:=hbF _ _ h1 rfl
 have f2:=hbF _ _ h2 rfl
 have c1:=hle _ _ _ _ h0J _ _ f1
 have c2:=hle _ _ _ _ h0J _ _ f2
 have hm0:m<n0:=hd0 _ _ c2
 have hFd:aT F n0:=hd0.le (hle _ _ _ _ h0J)
 (repeat' (first|(with_reducible first|refine stp ?_|refine uP (by decide) ?_|refine uQ (fun _=>?_) (fun _=>?_))|((first|(with_reducible refine uA ?_;first|refine uB rfl ?_ ?_|(first|refine uC rfl ?_|refine uD rfl ?_)|refine uE rfl ?_)|(with_reducible refine uF ?_;first|refine uG rfl ?_ ?_|(first|refine uH rfl ?_|refine uI rfl ?_)|refine uJ rfl ?_|refine uK (uL ?_)|refine uK (uM ?_))|(with_reducible refine uN ?_;refine uO rfl ?_))<;>try simp only[c1,go_sem,reduceIte,jA,jB,jC,jD,reduceCtorEq,jE,jF])|(with_reducible refine uR ?_;refine uS rfl ?_)|omega))
 refine vP rfl c2 ?_
 simp only[go_sem,reduceIte,jA,jB,jC,jD,reduceCtorEq,jE,jF]
 (repeat' (first|(with_reducible first|refine stp ?_|refine uP (by decide) ?_|refine uQ (fun _=>?_) (fun _=>?_))|((first|(with_reducible refine uA ?_;first|refine uB rfl ?_ ?_|(first|refine uC rfl ?_|refine uD rfl ?_)|refine uE rfl ?_)|(with_reducible refine uF ?_;first|refine uG rfl ?_ ?_|(first|refine uH rfl ?_|refine uI rfl ?_)|refine uJ rfl ?_|refine uK (uL ?_)|refine uK (uM ?_))|(with_reducible refine uN ?_;refine uO rfl ?_))<;>try simp only[ go_sem,reduceIte,jA,jB,jC,jD,reduceCtorEq,jE,jF])|(with_reducible refine uR ?_;refine uS rfl ?_)|omega))
 refine cI (fun _:List β=>aD 14 0 [(0, .yld yn),(5, .ptr n0 .leaf 0 0)])
  (fun js hp nx1=>(js.map fun y=>(me y).b).Nodup∧(∀y∈js,y∈l)∧n0<nx1∧aT hp nx1∧∃F1 hj,F.le F1∧F1 n0=some (.mit m c (js.map fun y=>(me y).b) c)∧J F1 (js.map key) hj nx1∧aT hj nx1∧hj.le hp)
  (fun js=>l.length-js.length) [] ⟨by simp,by simp,by simp,aT.set hd0 (by simp) (by simp) _,F.set n0 (.mit m c [] c),h.set n0 (.mit m c [] c),iR (Hp.le_refl _) (aT.none hFd (Nat.le_refl _)) _,by simp[Hp.set_app],hsJ _ _ _ _ _ h0J hd0 (Nat.le_refl _),aT.set hd0 (by simp) (by simp) _,Hp.le_refl _⟩ ?_ ?_
 ·simp only[WkL,aD,jH,jI,jJ,go_sem,reduceIte,jA,jB,jC,jD,reduceCtorEq,jE,jF]
 rintro js hp nx1 ⟨hjn,hjl,hn1,hdm,F1,hj,hF1,hit,hJi,hdj,hlej⟩
 generalize hQ:fF _ _ _ _ _=Q0
 simp only[aD,go_sem,reduceIte,jA,jB,jC,jD,reduceCtorEq,jE,jF]
 have g0:=hle _ _ _ _ hJi _ _ hit
 have g2:=hle _ _ _ _ hJi _ _ (hF1 _ _ f2)
 have d0:=hlej _ _ g0
 have d2:=hlej _ _ g2
 repeat (first|with_reducible refine aN ?_|with_reducible refine aI ?_|with_reducible refine aP ?_|with_reducible refine aB ?_|with_reducible refine aC ?_|with_reducible refine aO ?_|with_reducible refine aK ?_)
 refine vQ rfl d0 d2 (fun x hx=>by obtain⟨y,hy,rfl⟩:=List.mem_map.1 hx;exact hbc y hy) (Nat.le_refl _) ?_ ?_
 ·intro x hx hxn
  obtain⟨y,hy,rfl⟩:=List.mem_map.1 hx
  have hmore:=vI (fun y=>(me y).b) hjn hxn
  have hshort:=sC (fun y=>(me y).b) hjn hjl hy hxn
  have hfind:=yL me hnd hy
  simp only[go_sem,reduceIte,jA,jB,jC,jD,reduceCtorEq,jE,jF]
  (repeat' (first|(with_reducible first|refine stp ?_|refine uP (by decide) ?_|refine uQ (fun _=>?_) (fun _=>?_))|((first|(with_reducible refine uA ?_;first|refine uB rfl ?_ ?_|(first|refine uC rfl ?_|refine uD rfl ?_)|refine uE rfl ?_)|(with_reducible refine uF ?_;first|refine uG rfl ?_ ?_|(first|refine uH rfl ?_|refine uI rfl ?_)|refine uJ rfl ?_|refine uK (uL ?_)|refine uK (uM ?_))|(with_reducible refine uN ?_;refine uO rfl ?_))<;>try simp only[ go_sem,reduceIte,jA,jB,jC,jD,reduceCtorEq,jE,jF])|(with_reducible refine uR ?_;refine uS rfl ?_)|omega))
  refine vR (es:=l.map me) (c:=c) (m:=m) (since:=c) (seen:=(js.map fun y=>(me y).b)++[(me y).b]) rfl ?_ ?_ (b:=(me y).b) (by simp) hfind ?_
  ·simp only[Hp.set_app,reduceIte]
  ·simp only[Hp.set_app];rw[if_neg (by omega)];exact d2
  simp only[hek,go_sem,reduceIte,jA,jB,jC,jD,reduceCtorEq,jE,jF]
  have hfy:=hfit (key y)
  (repeat' (first|(with_reducible first|refine stp ?_|refine uP (by decide) ?_|refine uQ (fun _=>?_) (fun _=>?_))|((first|(with_reducible refine uA ?_;first|refine uB rfl ?_ ?_|(first|refine uC rfl ?_|refine uD rfl ?_)|refine uE rfl ?_)|(with_reducible refine uF ?_;first|refine uG rfl ?_ ?_|(first|refine uH rfl ?_|refine uI rfl ?_)|refine uJ rfl ?_|refine uK (uL ?_)|refine uK (uM ?_))|(with_reducible refine uN ?_;refine uO rfl ?_))<;>try simp only[hz,hfy,go_sem,reduceIte,jA,jB,jC,jD,reduceCtorEq,jE,jF])|(with_reducible refine uR ?_;refine uS rfl ?_)|omega))
  refine tL rfl ?_
  have hj2:=huJ _ _ _ (nx1+4) _ _ (.mit m c ((js.map fun y=>(me y).b)++[(me y).b]) c) (hnJ _ _ _ _ _ hJi (by omega)) (Nat.le_refl _) hit
  have hlt0:n0<nx1+4:=by omega
  have hdj2:aT (hj.set n0 (.mit m c ((js.map fun y=>(me y).b)++[(me y).b]) c)) (nx1+4):=aT.set2 (hdj.up (by omega)) hlt0 _
  have hle2:(hj.set n0 (.mit m c ((js.map fun y=>(me y).b)++[(me y).b]) c)).le (hp.set n0 (.mit m c ((js.map fun y=>(me y).b)++[(me y).b]) c)):=fun q b hq=>by
   unfold Hp.set at hq⊢
   split
   ·rename_i e1;rw[if_pos e1] at hq;exact hq
   rename_i e1;rw[if_neg e1] at hq;exact hlej q b hq
  have hy1:=(hJ _ _ (key y) ⟨List.mem_map.2 ⟨y,hy,rfl⟩,by rw[jK];exact hshort⟩ _ _ hj2 hdj2 (by omega)).dom
  refine(hy1.weaken ?_).mono ?_
  ·have hdj3:aT (hj.set n0 (.mit m c ((js.map fun y=>(me y).b)++[(me y).b]) c)) (nx1+2):=aT.set2 (hdj.up (by omega)) (by omega) _
   exact iR (iR hle2 (aT.none hdj3 (Nat.le_refl _)) _) (aT.none hdj3 (Nat.le_refl _)) _
  rintro v h3 nx3 hnx3 ⟨hq,hdm3,_⟩
  unfold gM
  rcases hq with⟨rfl,hj'⟩|⟨rfl,hD⟩
  ·simp only[go_sem,reduceIte,jA,jB,jC,jD,reduceCtorEq,jE,jF]
   (repeat' (first|(with_reducible first|refine stp ?_|refine uP (by decide) ?_|refine uQ (fun _=>?_) (fun _=>?_))|((first|(with_reducible refine uA ?_;first|refine uB rfl ?_ ?_|(first|refine uC rfl ?_|refine uD rfl ?_)|refine uE rfl ?_)|(with_reducible refine uF ?_;first|refine uG rfl ?_ ?_|(first|refine uH rfl ?_|refine uI rfl ?_)|refine uJ rfl ?_|refine uK (uL ?_)|refine uK (uM ?_))|(with_reducible refine uN ?_;refine uO rfl ?_))<;>try simp only[ go_sem,reduceIte,jA,jB,jC,jD,reduceCtorEq,jE,jF])|(with_reducible refine uR ?_;refine uS rfl ?_)|omega))
   rw[←hQ]
   refine aL (js++[y]) (by simp only[List.length_append,jL,jM];omega) ⟨hmore,?_,by omega,hdm3,F1.set n0 (.mit m c ((js.map fun y=>(me y).b)++[(me y).b]) c),h3,iR hF1 (aT.none hFd (Nat.le_refl _)) _,?_,?_,hdm3,Hp.le_refl _⟩ ?_
   ·intro q hq
    rcases List.mem_append.1 hq with hq|hq
    ·exact hjl q hq
    rw[List.mem_singleton.1 hq];exact hy
   ·simp only[Hp.set_app,reduceIte,List.map_append,List.map_cons,List.map_nil]
   ·rw[List.map_append];exact hj'
   simp only[WkL,aD,jH,jI,jJ,go_sem,reduceIte,jA,jB,jC,jD,reduceCtorEq,jE,jF]
  simp only[go_sem,reduceIte,jA,jB,jC,jD,reduceCtorEq,jE,jF]
  (repeat' (first|(with_reducible first|refine stp ?_|refine uP (by decide) ?_|refine uQ (fun _=>?_) (fun _=>?_))|((first|(with_reducible refine uA ?_;first|refine uB rfl ?_ ?_|(first|refine uC rfl ?_|refine uD rfl ?_)|refine uE rfl ?_)|(with_reducible refine uF ?_;first|refine uG rfl ?_ ?_|(first|refine uH rfl ?_|refine uI rfl ?_)|refine uJ rfl ?_|refine uK (uL ?_)|refine uK (uM ?_))|(with_reducible refine uN ?_;refine uO rfl ?_))<;>try simp only[ go_sem,reduceIte,jA,jB,jC,jD,reduceCtorEq,jE,jF])|(with_reducible refine uR ?_;refine uS rfl ?_)|omega))
  rw[←hQ]
  (repeat' (first|(with_reducible first|refine stp ?_|refine uP (by decide) ?_|refine uQ (fun _=>?_) (fun _=>?_))|((first|(with_reducible refine uA ?_;first|refine uB rfl ?_ ?_|(first|refine uC rfl ?_|refine uD rfl ?_)|refine uE rfl ?_)|(with_reducible refine uF ?_;first|refine uG rfl ?_ ?_|(first|refine uH rfl ?_|refine uI rfl ?_)|refine uJ rfl ?_|refine uK (uL ?_)|refine uK (uM ?_))|(with_reducible refine uN ?_;refine uO rfl ?_))<;>try simp only[ go_sem,reduceIte,jA,jB,jC,jD,reduceCtorEq,jE,jF])|(with_reducible refine uR ?_;refine uS rfl ?_)|omega))
  exact aCB h3 (Hp.le_refl _) (.inr hD)
 intro hall
 simp only[go_sem,reduceIte,jA,jB,jC,jD,reduceCtorEq,jE,jF]
 (repeat' (first|(with_reducible first|refine stp ?_|refine uP (by decide) ?_|refine uQ (fun _=>?_) (fun _=>?_))|((first|(with_reducible refine uA ?_;first|refine uB rfl ?_ ?_|(first|refine uC rfl ?_|refine uD rfl ?_)|refine uE rfl ?_)|(with_reducible refine uF ?_;first|refine uG rfl ?_ ?_|(first|refine uH rfl ?_|refine uI rfl ?_)|refine uJ rfl ?_|refine uK (uL ?_)|refine uK (uM ?_))|(with_reducible refine uN ?_;refine uO rfl ?_))<;>try simp only[ go_sem,reduceIte,jA,jB,jC,jD,reduceCtorEq,jE,jF])|(with_reducible refine uR ?_;refine uS rfl ?_)|omega))
 rw[←hQ]
 (repeat' (first|(with_reducible first|refine stp ?_|refine uP (by decide) ?_|refine uQ (fun _=>?_) (fun _=>?_))|((first|(with_reducible refine uA ?_;first|refine uB rfl ?_ ?_|(first|refine uC rfl ?_|refine uD rfl ?_)|refine uE rfl ?_)|(with_reducible refine uF ?_;first|refine uG rfl ?_ ?_|(first|refine uH rfl ?_|refine uI rfl ?_)|refine uJ rfl ?_|refine uK (uL ?_)|refine uK (uM ?_))|(with_reducible refine uN ?_;refine uO rfl ?_))<;>try simp only[ go_sem,reduceIte,jA,jB,jC,jD,reduceCtorEq,jE,jF])|(with_reducible refine uR ?_;refine uS rfl ?_)|omega))
 refine⟨hj,hlej, .inl ⟨F1,js.map key,hF1,?_,hnJ _ _ _ _ _ hJi (by dsimp only;omega)⟩⟩
 exact(yF (fun y=>(me y).b) hnd hjn hjl (fun y hy=>hall _ (List.mem_map.2 ⟨y,hy,rfl⟩))).map key
end Go.Proofs.YthikfnmcjipobaaGreat
/-
maps.Clone:a new map that reads as the old one. No program in sight. No conditions beyond those named.
-/
namespace Go.Proofs.YthikfnmcjipobaaGreat
set_option linter.unusedSimpArgs false
set_option linter.unusedVariables false
set_option linter.unusedSectionVars false
open Go.RowKit Go.Shelf
theorem zJ{P:Program}{ρ:Ren}(L:SlLaysW.n5 P ρ)(hen:iU P (ρ.f 5)=true)(m:Nat)(es:List ME)(c:Nat)(h:Hp)(nx:Nat)(hm:h m=some (.mp es c)):
 bM P (ρ.f 5) [.map m] h nx fun v h' nx'=>v= .map nx∧nx'=nx+1∧h'=h.set nx (.mp es c):=by
 refine⟨hen,fun K cargs hlv hr hv=>?_⟩
 obtain⟨hsz,hv⟩:=hv
 have hsz:cargs.size=1:=by simpa using hsz.symm
 obtain⟨c1,rfl⟩:∃c1,cargs=#[c1]:=⟨cargs[0],by
  apply Array.ext
  ·simp[hsz]
  intro i h1 h2
  have:i=0:=by simp at h2;omega
  subst this;rfl⟩
 have v1:=hv 0 (by simp)
 simp only[List.getD_cons_zero] at v1
 have e1:(#[c1]:Array Value).getD 0 Go.undef=c1:=rfl
 rw[e1] at v1
 cases v1
 obtain⟨ces,hh,hms⟩:=(hr.blk m _ hm).toMEs
 refine(AnyW.maps_Clone L (K.mu m) ces c K.w hh).mono ?_
 rintro e w' ⟨rfl,rfl⟩
 have hfresh:¬K.live nx:=fun hl=>by have:=hlv _ hl;omega
 have hmu:(K.push nx (.map ces c) 0).mu nx=K.w.heap.size:=by simp[Ker.push]
 have hle:=K.le_push nx hfresh (.map ces c) 0
 obtain⟨h1,h2,h3⟩:=hr.newBlk hfresh (o:= .map ces c) (b:= .mp es c) (.ofMEs (by rw[hmu];exact gA _ _) (hms.monoV hle.toV))
 have hv:=VR.map (K:=K.push nx (.map ces c) 0) nx (.inl rfl)
 rw[hmu] at hv
 refine⟨K.push nx (.map ces c) 0, .map nx,_,h.set nx (.mp es c),nx+1,by simp[Ker.push],rfl,h1,hv,h3,?_,Nat.le_succ _,rfl,rfl,rfl⟩
 intro q hq
 rcases h2 q hq with hq|rfl
 ·have:=hlv q hq;exact⟨by omega, .inl hq⟩
 exact⟨Nat.lt_succ_self _, .inr (Nat.le_refl _)⟩
end Go.Proofs.YthikfnmcjipobaaGreat
/-
The abstract layer:a part of an owned array,handed over as a slice that nobody writes. No program in sight. No conditions.
-/
namespace Go.Proofs.YthikfnmcjipobaaGreat
set_option linter.unusedSimpArgs false
set_option linter.unusedVariables false
set_option linter.unusedSectionVars false
open Go.RowKit
theorem tO{K:Ker}{h:Hp}(hr:Rel K h){n a:Nat}{k:Sh}{es:List V}{off len:Nat}{cv:Value}(hn:h n=some (.arr k es))(ha:¬K.live a)(hb0:off+len≤es.length)(hv:VR K (.rs n k off len) cv):
 ∃K',K'.w=K.w∧K.le K'∧(∀m,K'.live m→K.live m∨m=a)∧VR K' (.sl k .free ((es.drop off).take len)) cv∧Rel K' (h.del n):=by
 have hb:=hr.blk n _ hn
 cases hb with
 |arr _ _ c T hh hcs himm hfit hcv=>
  cases hv with
  |rs _ _ _ _ cap hl hcap hm=>
   obtain⟨T',m,hm1,hm2⟩:=hm
   have hcm:m=c.size:=by simp[World.shape?,hh] at hm1;exact hm1.2.symm
   subst hcm
   have hblk:K.mu n<K.w.heap.size:=by
    rcases Nat.lt_or_ge (K.mu n) K.w.heap.size with hlt|hge
    ·exact hlt
    rw[Array.getElem?_eq_none hge] at hh;exact absurd hh (by simp)
   have hle:K.le (K.claim a (K.mu n) (es.length*k.size)):=K.le_claim ha (by rw[himm];exact Nat.zero_le _)
   have hmu:(K.claim a (K.mu n) (es.length*k.size)).mu a=K.mu n:=by simp[Ker.claim]
   have hrel:Rel (K.claim a (K.mu n) (es.length*k.size)) ((h.del n).set a .tip):=hr.claim hn ha (by rw[himm];exact Nat.zero_le _) (.tip c T (by rw[hmu];exact hh) (by simp[Ker.claim]) (by simp only[Ker.claim,if_true];exact hcs))
   have hlen:((es.drop off).take len).length=len:=by simp;omega
   have hsz:(off+len)*k.size≤es.length*k.size:=Nat.mul_le_mul_right _ hb0
   rw[Nat.add_mul] at hsz
   have hget:∀i,i<len→((es.drop off).take len).getD i V.undef=es.getD (off+i) V.undef:=fun i hi=>by
    rw[List.getD_eq_getElem?_getD,List.getD_eq_getElem?_getD,List.getElem?_take_of_lt hi,List.getElem?_drop]
   refine⟨K.claim a (K.mu n) (es.length*k.size),rfl,hle,fun m hm=>hm.symm,?_,hrel.weaken fun m b e=>?_⟩
   ·have:=VR.sl (K:=K.claim a (K.mu n) (es.length*k.size)) k .free ((es.drop off).take len) (K.mu n) (off*k.size) cap (fun j=>c.getD (off*k.size+j) Go.undef) hblk (fun e he=>hfit e (List.mem_of_mem_drop (List.mem_of_mem_take he)))
     (fun j hj=>by
       rw[hlen] at hj
       show K.w.cell? _=_
       simp only[World.cell?,hh]
       rw[Array.getD_eq_getD_getElem?,Array.getElem?_eq_getElem (by omega)]
       rfl)
     (fun j hj=> .inr (by rw[hlen] at hj;simp only[Ker.claim,if_true];omega))
     (fun i hi j hj=>by
       rw[hlen] at hi
       rw[hget i hi]
       have:=(hcv (off+i) (by omega) j hj).mono hle
       rwa [Nat.add_mul,Nat.add_assoc] at this) (by rw[hlen];exact hcap) (by simp) (by simp)
     (fun m hm=>by cases hm)
    rw[hlen] at this
    exact this
   unfold Hp.del at e
   unfold Hp.set Hp.del
   by_cases e1:m=n
   ·rw[if_pos e1] at e;cases e
   rw[if_neg e1] at e
   have hma:m≠a:=fun e2=>ha (e2▸hr.lt m b e)
   rw[if_neg hma,if_neg e1];exact e
theorem wE{P:Program}{f:FuncId}{args:List V}{h:Hp}{nx n:Nat}{k:Sh}{G:List V→Prop}
 (c:bM P f args h nx fun v h' _=>∃off len es,v= .rs n k off len∧off+len≤es.length∧h'=h.set n (.arr k es)∧G ((es.drop off).take len)):
 bM P f args h nx fun v h' _=>∃es,v= .sl k .free es∧h'=h.del n∧G es:=by
 refine⟨c.1,fun K cargs hl hr hv=>(c.2 K cargs hl hr hv).mono ?_⟩
 rintro e w' ⟨K',v,cv,h',nx',rfl,he,hle,hvr,hrel,hlv,hnx,off,len,es,rfl,hb,rfl,hG⟩
 have hfr:¬K'.live nx':=fun hh=>Nat.lt_irrefl _ (hlv nx' hh).1
 have hset:(h.set n (.arr k es)) n=some (.arr k es):=by simp[Hp.set]
 obtain⟨K'',q1,q2,q3,q4,q5⟩:=tO hrel hset hfr hb hvr
 have hh:(h.set n (.arr k es)).del n=h.del n:=by
  funext x
  unfold Hp.set Hp.del
  by_cases e1:x=n
  ·simp[e1]
  simp[e1]
 rw[hh] at q5
 refine⟨K'',_,cv,_,nx'+1,q1,he,hle.trans q2,q4,q5,fun m hm=>?_,by omega,_,rfl,rfl,hG⟩
 rcases q3 m hm with hm|rfl
 ·exact⟨by have:=(hlv m hm).1;omega,(hlv m hm).2⟩
 exact⟨by omega, .inr hnx⟩
theorem Rel.reblk{K:Ker}{h:Hp}(r:Rel K h){n:Nat}{b0 b1:Blk}(hn:h n=some b0)(hb:BR K n b1):Rel K (h.set n b1) where
 lt m b e:=by
  unfold Hp.set at e
  split at e
  ·rename_i em;subst em;exact r.lt m b0 hn
  exact r.lt m b e
 base m b e:=by
  unfold Hp.set at e
  split at e
  ·rename_i em;subst em;exact r.base m b0 hn
  exact r.base m b e
 blk m b e:=by
  unfold Hp.set at e
  split at e
  ·rename_i em;subst em;injection e with e;subst e;exact hb
  exact r.blk m b e
 inj m m' b b' e e' em:=by
  unfold Hp.set at e e'
  split at e<;>split at e'
  ·rename_i e1 e2;rw[e1,e2]
  ·rename_i e1 _;subst e1;exact r.inj m m' b0 b' hn e' em
  ·rename_i _ e2;subst e2;exact r.inj m m' b b0 e hn em
  exact r.inj m m' b b' e e' em
 size:=r.size
theorem aDj{K:Ker}{h:Hp}(hr:Rel K h){O m a i:Nat}{k:Sh}{es ls:List V}{off len:Nat}(hO:h O=some (.arr .leaf es))(hi:i<es.length)(he:es[i]= .rs m k off len)(hm:h m=some (.arr k ls))(hne:O≠m)(ha:¬K.live a)(hb0:off+len≤ls.length):
 ∃K',K'.w=K.w∧K.le K'∧(∀x,K'.live x→K.live x∨x=a)∧Rel K' ((h.del m).set O (.arr .leaf (es.set i (.sl k .free ((ls.drop off).take len))))):=by
 have hb:=hr.blk O _ hO
 cases hb with
 |arr _ _ c T hh hcs himm hfit hcv=>
  have hg:es.getD i V.undef= .rs m k off len:=by rw[List.getD_eq_getElem?_getD,List.getElem?_eq_getElem hi];exact he
  have h0:=hcv i hi 0 (by simp[Sh.size])
  rw[hg] at h0
  have hv:VR K (.rs m k off len) (c.getD (i*Sh.leaf.size+0) Go.undef):=h0
  obtain⟨K',q1,q2,q3,q4,q5⟩:=tO hr hm ha hb0 hv
  refine⟨K',q1,q2,q3,?_⟩
  have hO':(h.del m) O=some (.arr .leaf es):=by unfold Hp.del;rw[if_neg hne];exact hO
  have hmu:K'.mu O=K.mu O:=q2.mu O (hr.lt O _ hO)
  have hb':=q5.blk O _ hO'
  have himm':K'.imm (K'.mu O)=0:=by
   cases hb' with
   |arr _ _ c' T' hh' hcs' himm' hfit' hcv'=>exact himm'
  refine q5.reblk hO' (.arr .leaf _ c T (by rw[hmu,q1];exact hh) (by simpa using hcs) himm' ?_ ?_)
  ·intro e hx
   rcases List.mem_or_eq_of_mem_set hx with hx|rfl
   ·exact hfit e hx
   rfl
  intro j hj x hx
  have hj':j<es.length:=by simpa using hj
  by_cases e:j=i
  ·subst e
   have hx0:x=0:=by simp[Sh.size] at hx;exact hx
   subst hx0
   rw[List.getD_eq_getElem?_getD,List.getElem?_set_self hi]
   exact q4
  have:(es.set i (.sl k .free ((ls.drop off).take len))).getD j V.undef=es.getD j V.undef:=by
   rw[List.getD_eq_getElem?_getD,List.getD_eq_getElem?_getD,List.getElem?_set_ne (by omega)]
  rw[this]
  exact(hcv j hj' x hx).mono q2
def vZ(k:Sh)(m:Nat)(l:List V):V:=if l.isEmpty=true then .sl k .nil [] else .rs m k 0 l.length
structure aAz(h:Hp)(O:Nat)(k:Sh)(ν:Nat→Nat)(ls:List (List V))(j:Nat)(es:List V):Prop where
 blk:h O=some (.arr .leaf es)
 len:es.length=ls.length
 old:∀i (hi:i<ls.length) (hi':i<es.length),i<j→es[i]=lst k ls[i]
 new:∀i (hi:i<ls.length) (hi':i<es.length),j≤i→es[i]=vZ k (ν i) ls[i]
 mem:∀i (hi:i<ls.length),j≤i→ls[i]≠ []→h (ν i)=some (.arr k ls[i])∧ν i≠O
 apart:∀i i' (hi:i<ls.length) (hi':i'<ls.length),j≤i→i<i'→ls[i]≠ []→ls[i']≠ []→ν i≠ν i'
theorem rO{k:Sh}{O:Nat}{ν:Nat→Nat}{ls:List (List V)}:∀(r j:Nat) (K:Ker) (h:Hp) (es:List V) (b:Nat),r+j=ls.length→Rel K h→aAz h O k ν ls j es→(∀x,K.live x→x<b)→
 ∃K' h2,K'.w=K.w∧K.le K'∧(∀x,K'.live x→x<b+r∧(K.live x∨b≤x))∧Rel K' h2∧h2 O=some (.arr .leaf (ls.map (lst k)))∧∀x,x≠O→(∀i (hi:i<ls.length),ls[i]≠ []→x≠ν i)→h2 x=h x
 |0,j,K,h,es,b,hj,hr,R,hb=>by
  refine⟨K,h,rfl, .refl K,fun x hx=>⟨hb x hx, .inl hx⟩,hr,?_,fun _ _ _=>rfl⟩
  rw[R.blk]
  congr 2
  refine List.ext_getElem (by simpa using R.len) fun i h1 h2=>?_
  have hi:i<ls.length:=by simpa using h2
  rw[R.old i hi h1 (by omega)]
  simp
 |r+1,j,K,h,es,b,hj,hr,R,hb=>by
  have hjl:j<ls.length:=by omega
  have hje:j<es.length:=by rw[R.len];exact hjl
  have hcell:=R.new j hjl hje (Nat.le_refl _)
  by_cases hemp:ls[j]=[]
  ·--nothing is to be done
   have R':aAz h O k ν ls (j+1) es:=by
    refine⟨R.blk,R.len,fun i hi hi' hij=>?_,fun i hi hi' hij=>R.new i hi hi' (by omega),fun i hi hij=>R.mem i hi (by omega),fun i i' hi hi' hij=>R.apart i i' hi hi' (by omega)⟩
    by_cases e:i=j
    ·subst e
     rw[hcell,hemp];rfl
    exact R.old i hi hi' (by omega)
   obtain⟨K',h2,q1,q2,q3,q4,q5,q6⟩:=rO r (j+1) K h es b (by omega) hr R' hb
   exact⟨K',h2,q1,q2,fun x hx=>⟨by have:=(q3 x hx).1;omega,(q3 x hx).2⟩,q4,q5,q6⟩
  have hc:es[j]= .rs (ν j) k 0 ls[j].length:=by
   rw[hcell];unfold vZ
   cases e:ls[j] with
   |nil=>exact absurd e hemp
   |cons=>rfl
  obtain⟨hm,hmo⟩:=R.mem j hjl (Nat.le_refl _) hemp
  obtain⟨K1,q1,q2,q3,q4⟩:=aDj hr R.blk hje hc hm (fun e=>hmo e.symm) (fun hl=>Nat.lt_irrefl _ (hb b hl)) (by simp)
  have hfz:(.sl k .free ((ls[j].drop 0).take ls[j].length):V)=lst k ls[j]:=by
   simp only[List.drop_zero,List.take_length]
   cases e:ls[j] with
   |nil=>exact absurd e hemp
   |cons=>rfl
  rw[hfz] at q4
  have hset:∀x,x≠O→x≠ν j→((h.del (ν j)).set O (.arr .leaf (es.set j (lst k ls[j])))) x=h x:=fun x h1 h2=>by
   unfold Hp.set Hp.del;rw[if_neg h1,if_neg h2]
  have R':aAz ((h.del (ν j)).set O (.arr .leaf (es.set j (lst k ls[j])))) O k ν ls (j+1) (es.set j (lst k ls[j])):=by
   refine⟨by unfold Hp.set;rw[if_pos rfl],by simpa using R.len,fun i hi hi' hij=>?_,fun i hi hi' hij=>?_,fun i hi hij hne=>?_,fun i i' hi hi' hij=>R.apart i i' hi hi' (by omega)⟩
   ·by_cases e:i=j
    ·subst e;simp
    rw[List.getElem_set_ne (by omega)];exact R.old i hi _ (by omega)
   ·rw[List.getElem_set_ne (by omega)];exact R.new i hi _ (by omega)
   obtain⟨k1,k2⟩:=R.mem i hi (by omega) hne
   exact⟨(hset _ k2 fun e=>R.apart j i hjl hi (Nat.le_refl _) (by omega) hemp hne e.symm).trans k1,k2⟩
  obtain⟨K',h2,p1,p2,p3,p4,p5,p6⟩:=rO r (j+1) K1 _ _ (b+1) (by omega) q4 R' (fun x hx=>by
   rcases q3 x hx with h|h
   ·have:=hb x h;omega
   omega)
  refine⟨K',h2,p1.trans q1,q2.trans p2,fun x hx=>⟨by have:=(p3 x hx).1;omega,?_⟩,p4,p5,fun x h1 h2'=>(p6 x h1 h2').trans (hset x h1 (h2' j hjl hemp))⟩
  rcases(p3 x hx).2 with h|h
  ·rcases q3 x h with h|h
   ·exact .inl h
   exact .inr (by omega)
  exact .inr (by omega)
theorem tY{P:Program}{f:FuncId}{args:List V}{h:Hp}{nx:Nat}{k:Sh}{G:List (List V)→Prop}
 (c:bM P f args h nx fun v h' _=>∃O ν ls es,v= .rs O .leaf 0 ls.length∧nx≤O∧(∀i (hi:i<ls.length),ls[i]≠ []→nx≤ν i)∧aAz h' O k ν ls 0 es∧(∀x,x<nx→h' x=h x)∧G ls):
 bM P f args h nx fun v h' _=>∃ls,v= .sl .leaf .free (ls.map (lst k))∧h'=h∧G ls:=by
 refine⟨c.1,fun K cargs hl hr hv=>(c.2 K cargs hl hr hv).mono ?_⟩
 rintro e w' ⟨K',v,cv,h',nx',rfl,he,hle,hvr,hrel,hlv,hnx,O,ν,ls,es,rfl,hO,hν,R,hold,hG⟩
 obtain⟨K1,h2,p1,p2,p3,p4,p5,p6⟩:=rO ls.length 0 K' h' es nx' (by omega) hrel R (fun x hx=>(hlv x hx).1)
 have hvr1:=hvr.mono p2
 obtain⟨K2,q1,q2,q3,q4,q5⟩:=tO p4 p5 (a:=nx'+ls.length) (fun hl=>by have:=(p3 _ hl).1;omega) (by simp) hvr1
 have hsl:(((ls.map (lst k)).drop 0).take ls.length)=ls.map (lst k):=by
  rw[List.drop_zero,List.take_of_length_le (by simp)]
 rw[hsl] at q4
 refine⟨K2,_,cv,h,nx'+ls.length+1,q1.trans p1,he,hle.trans (p2.trans q2),q4,q5.weaken fun m b hm=>?_,fun x hx=>?_,by omega,ls,rfl,rfl,hG⟩
 ·have hmn:m<nx:=hl m (hr.lt m b hm)
  unfold Hp.del
  rw[if_neg (by omega),p6 m (by omega) (fun i hi hne=>by have:=hν i hi hne;omega),hold m hmn]
  exact hm
 rcases q3 x hx with h|h
 ·have h1:=p3 x h
  refine⟨by omega,?_⟩
  rcases h1.2 with h2|h2
  ·exact(hlv x h2).2
  exact .inr (by omega)
 exact⟨by omega, .inr (by omega)⟩
/-
The abstract layer:a call that takes a block and makes an array,from its walk. No program in sight. No conditions.
-/
theorem aHc{P:Program}{f:FuncId}{args:List V}{h:Hp}{c:Option Con}{v:Nat→V}{k:Sh}{es:List V}(hm:aGZ v)(hv:∀L,dY L es)(hvn:∀(L:Nat→Prop) n,L n→(v n).names L)
 (hcond:∀c',c=some c'→c'.new=none∧(∃k es,c'.old= .arr k es)∧h c'.n=some c'.old) (hc:∀h' nx,h.has h'→bM P f args h' nx fun v' h'' _=>∃id,nx≤id∧v'=v id∧h''=(h'.turn c).set id (.arr k es)):aFW P f args h c v k es:=by
 refine⟨hm,hv,hcond,?_⟩
 intro h' nx hh
 have cc:=hc h' nx hh
 refine⟨cc.1,fun K cargs hlv hrel hargs=>(cc.2 K cargs hlv hrel hargs).mono ?_⟩
 rintro e w' ⟨K',v',cv,h'',nx',rfl,he,hle,hvr,hrel',hlv',hnx,id,hid,rfl,rfl⟩
 have hdom:∀n b,h' n=some b→n<nx:=fun n b e=>hlv n (hrel.lt n b e)
 have h1le:(h'.turn c).le h':=fun n b e=>by
  cases c with
  |none=>exact e
  |some c'=>
   have:=(hcond c' rfl).1
   simp only[Hp.turn,this,Hp.del] at e
   split at e
   ·cases e
   exact e
 generalize h'.turn c=h1 at h1le hrel'
 have hset:(h1.set id (.arr k es)) id=some (.arr k es):=by simp[Hp.set]
 have hoth:∀n b,n≠id→(h1.set id (.arr k es)) n=some b→h' n=some b:=fun n b hne e=>by
  unfold Hp.set at e;rw[if_neg hne] at e;exact h1le n b e
 have hle1:K.le (K'.only fun n=>(K'.live n∧n<nx)∨n=id):=⟨fun n hn=> .inl ⟨hle.live n hn,hlv n hn⟩,hle.mu,hle.tp,hle.fro,hle.imm,hle.cell,hle.shape,hle.below⟩
 have hlid:K'.live id:=hrel'.lt id _ hset
 have hrelA:Rel (K'.only fun n=>(K'.live n∧n<nx)∨n=id) (h1.set id (.arr k es)):=by
  refine⟨fun n b e=>?_,hrel'.base,fun n b e=>?_,hrel'.inj,hrel'.size⟩
  ·by_cases hne:n=id
   ·exact .inr hne
   have e':=hoth n b hne e
   exact .inl ⟨hle.live n (hrel.lt n b e'),hdom n b e'⟩
  have hb':=hrel'.blk n b e
  cases hb' with
  |tip c T hh hi ht=>exact .tip c T hh hi ht
  |obj o U hh ho _ hU=>
   have hne:n≠id:=by rintro rfl;rw[hset] at e;cases e
   have hb:=hrel.blk n _ (hoth n _ hne e)
   cases hb with
   |obj _ _ _ _ hu _=>exact .obj o U hh ho (hU _ _ hle1.toV hu) hU
  |mp es c ces hh hl hvv=>
   have hne:n≠id:=by rintro rfl;rw[hset] at e;cases e
   have hb:=hrel.blk n _ (hoth n _ hne e)
   cases hb with
   |mp _ _ ces0 hh0 hl0 hv0=>exact .mp es c ces hh hl fun i hi=>⟨(hvv i hi).1.only _ (eU (fun m hm=> .inl ⟨hle.live m hm,hlv m hm⟩) (hv0 i hi).1.names),(hvv i hi).2.1.only _ (eU (fun m hm=> .inl ⟨hle.live m hm,hlv m hm⟩) (hv0 i hi).2.1.names),(hvv i hi).2.2⟩
  |mit m since seen last hh hm=>
   have hne:n≠id:=by rintro rfl;rw[hset] at e;cases e
   have hb:=hrel.blk n _ (hoth n _ hne e)
   cases hb with
   |mit _ _ _ _ hh0 hm0=>exact .mit m since seen last hh (.inl ⟨hle.live m hm0,hlv m hm0⟩)
  |arr k2 es2 c T hh hsz hi hfit hvs=>
   by_cases hne:n=id
   ·subst hne
    rw[hset] at e
    injection e with e
    injection e with e1 e2
    subst e1 e2
    exact .arr k es c T hh hsz hi hfit fun i hi j hj=>(hvs i hi j hj).only _ (nZ (iM (hv _) i) j)
   refine .arr k2 es2 c T hh hsz hi hfit fun i hi j hj=>(hvs i hi j hj).only _ ?_
   have hb:=hrel.blk n _ (hoth n _ hne e)
   cases hb with
   |arr _ _ c0 T0 hh0 hsz0 hi0 hfit0 hvs0=>exact eU (fun m hm=> .inl ⟨hle.live m hm,hlv m hm⟩) (hvs0 i hi j hj).names
 have hvrA:VR (K'.only fun n=>(K'.live n∧n<nx)∨n=id) (v id) cv:=hvr.only _ (hvn _ _ (.inr rfl))
 by_cases hidn:id=nx
 ·subst hidn
  refine⟨K'.only fun n=>(K'.live n∧n<id)∨n=id,_,cv,_,id+1,rfl,he,hle1,hvrA,hrelA,fun n hn=>?_,by omega,rfl,rfl,rfl⟩
  rcases hn with hn|hn
  ·exact⟨by omega,(hlv' n hn.1).2⟩
  exact⟨by omega, .inr (by omega)⟩
 have hfr:¬((K'.live nx∧nx<nx)∨nx=id):=fun h=>h.elim (fun h=>Nat.lt_irrefl _ h.2) (fun h=>hidn h.symm)
 generalize hKA:(K'.only fun n=>(K'.live n∧n<nx)∨n=id)=KA at hle1 hrelA hvrA
 have hfr':¬KA.live nx:=by rw[←hKA];exact hfr
 have hbr:=hrelA.blk id _ hset
 have hle2:=KA.le_claim (b:=KA.mu id) (m:=KA.imm (KA.mu id)) hfr' (Nat.le_refl _)
 have hrelB:=hrelA.claim hset (a:=nx) (m:=KA.imm (KA.mu id)) hfr' (Nat.le_refl _) (b1:= .arr k es) (by
  cases hbr with
  |arr _ _ c T hh hsz hi hfit hvs=>exact .arr k es c T (by simpa [Ker.claim] using hh) hsz (by simpa [Ker.claim] using hi) hfit fun i hi j hj=>(hvs i hi j hj).mono hle2)
 have hn0:h1 id=none:=by
  cases e:h1 id with
  |none=>rfl
  |some b=>have:=hdom id b (h1le id b e);omega
 have hdel:((h1.set id (.arr k es)).del id).set nx (.arr k es)=h1.set nx (.arr k es):=by
  funext x
  unfold Hp.set Hp.del
  by_cases e1:x=nx
  ·simp[e1]
  by_cases e2:x=id
  ·simp[e1,e2,hn0]
  simp[e1,e2]
 rw[hdel] at hrelB
 have hvrC:=hm KA id nx cv (fun n=>(K'.live n∧n<nx)∨n=nx) hfr' (.inr rfl) hvrA
 have hleC:K.le ((KA.claim nx (KA.mu id) (KA.imm (KA.mu id))).only fun n=>(K'.live n∧n<nx)∨n=nx):=by
  have:=hle1.trans hle2
  exact⟨fun n hn=> .inl ⟨hle.live n hn,hlv n hn⟩,this.mu,this.tp,this.fro,this.imm,this.cell,this.shape,this.below⟩
 have hothB:∀n b,n≠nx→(h1.set nx (.arr k es)) n=some b→h' n=some b:=fun n b hne e=>by
  unfold Hp.set at e;rw[if_neg hne] at e;exact h1le n b e
 have hsetB:(h1.set nx (.arr k es)) nx=some (.arr k es):=by simp[Hp.set]
 refine⟨(KA.claim nx (KA.mu id) (KA.imm (KA.mu id))).only fun n=>(K'.live n∧n<nx)∨n=nx,_,cv,_,nx+1,?_,he,hleC,hvrC,?_,fun n hn=>?_,by omega,rfl,rfl,rfl⟩
 ·rw[←hKA];rfl
 ·refine⟨fun n b e=>?_,hrelB.base,fun n b e=>?_,hrelB.inj,hrelB.size⟩
  ·by_cases hne:n=nx
   ·exact .inr hne
   have e':=hothB n b hne e
   exact .inl ⟨hle.live n (hrel.lt n b e'),hdom n b e'⟩
  have hb':=hrelB.blk n b e
  cases hb' with
  |tip c T hh hi ht=>exact .tip c T hh hi ht
  |obj o U hh ho _ hU=>
   have hne:n≠nx:=by rintro rfl;rw[hsetB] at e;cases e
   have hb:=hrel.blk n _ (hothB n _ hne e)
   cases hb with
   |obj _ _ _ _ hu _=>exact .obj o U hh ho (hU _ _ hleC.toV hu) hU
  |mp es c ces hh hl hvv=>
   have hne:n≠nx:=by rintro rfl;rw[hsetB] at e;cases e
   have hb:=hrel.blk n _ (hothB n _ hne e)
   cases hb with
   |mp _ _ ces0 hh0 hl0 hv0=>exact .mp es c ces hh hl fun i hi=>⟨(hvv i hi).1.only _ (eU (fun m hm=> .inl ⟨hle.live m hm,hlv m hm⟩) (hv0 i hi).1.names),(hvv i hi).2.1.only _ (eU (fun m hm=> .inl ⟨hle.live m hm,hlv m hm⟩) (hv0 i hi).2.1.names),(hvv i hi).2.2⟩
  |mit m since seen last hh hm=>
   have hne:n≠nx:=by rintro rfl;rw[hsetB] at e;cases e
   have hb:=hrel.blk n _ (hothB n _ hne e)
   cases hb with
   |mit _ _ _ _ hh0 hm0=>exact .mit m since seen last hh (.inl ⟨hle.live m hm0,hlv m hm0⟩)
  |arr k2 es2 c T hh hsz hi hfit hvs=>
   by_cases hne:n=nx
   ·subst hne
    rw[hsetB] at e
    injection e with e
    injection e with e1 e2
    subst e1 e2
    exact .arr k es c T hh hsz hi hfit fun i hi j hj=>(hvs i hi j hj).only _ (nZ (iM (hv _) i) j)
   refine .arr k2 es2 c T hh hsz hi hfit fun i hi j hj=>(hvs i hi j hj).only _ ?_
   have hb:=hrel.blk n _ (hothB n _ hne e)
   cases hb with
   |arr _ _ c0 T0 hh0 hsz0 hi0 hfit0 hvs0=>exact eU (fun m hm=> .inl ⟨hle.live m hm,hlv m hm⟩) (hvs0 i hi j hj).names
 rcases hn with hn|hn
 ·exact⟨by omega,(hlv' n hn.1).2⟩
 exact⟨by omega, .inr (by omega)⟩
theorem aFo(k:Sh)(len:Nat)(b:Bool):aGZ fun a=> .tup [.rs a k 0 len, .bool b]:=by
 intro K a a' cv L ha hL hvr
 cases hvr with
 |tup cs ccs hl hv=>
  refine .tup _ ccs (by simpa using hl) fun i hi=>?_
  have hi2:i=0∨i=1:=by simp at hi;omega
  rcases hi2 with rfl|rfl
  ·have h0:VR K (.rs a k 0 len) (ccs.getD 0 Go.undef):=hv 0 (by simp)
   show VR _ (.rs a' k 0 len) (ccs.getD 0 Go.undef)
   generalize ccs.getD 0 Go.undef=x at h0
   cases h0 with
   |rs _ _ _ _ cap hl hcap hsh=>
    have hmu:((K.claim a' (K.mu a) (K.imm (K.mu a))).only L).mu a'=K.mu a:=by simp[Ker.claim,Ker.only]
    have:=VR.rs (K:=(K.claim a' (K.mu a) (K.imm (K.mu a))).only L) a' k 0 len cap hL hcap (by rw[hmu];exact hsh)
    rw[hmu] at this
    exact this
  have h1:VR K (.bool b) (ccs.getD 1 Go.undef):=hv 1 (by simp)
  show VR _ (.bool b) (ccs.getD 1 Go.undef)
  generalize ccs.getD 1 Go.undef=x at h1
  cases h1
  exact .bool b
end Go.Proofs.YthikfnmcjipobaaGreat
/-
Rings and reaches of graphs:places in a row,which places lead to which,breadth first. Plain laws,no program in sight. No conditions.
-/
namespace Go.Proofs.YthikfnmcjipobaaGreat
set_option linter.unusedSimpArgs false
set_option linter.unusedVariables false
set_option linter.unusedSectionVars false
inductive lO{α:Type}(E:α→α→Prop):α→α→Prop where
 |one {a b:α}:E a b→lO E a b
 |cons {a b c:α}:E a b→lO E b c→lO E a c
namespace lO
variable{α:Type}{E F:α→α→Prop}
theorem trans{a b c:α}(h:lO E a b)(k:lO E b c):lO E a c:=by
 induction h with
 |one e=>exact .cons e k
 |cons e _ ih=>exact .cons e (ih k)
theorem snoc{a b c:α}(h:lO E a b)(e:E b c):lO E a c:=h.trans (.one e)
theorem mono(hs:∀a b,E a b→F a b){a b:α}(h:lO E a b):lO F a b:=by
 induction h with
 |one e=>exact .one (hs _ _ e)
 |cons e _ ih=>exact .cons (hs _ _ e) ih
theorem last{a b:α}(h:lO E a b):∃c,E c b∧(c=a∨lO E a c):=by
 induction h with
 |one e=>exact⟨_,e, .inl rfl⟩
 |cons e k ih=>
  obtain⟨c,hc,hh⟩:=ih
  rcases hh with rfl|hh
  ·exact⟨_,hc, .inr (.one e)⟩
  exact⟨c,hc, .inr (.cons e hh)⟩
theorem closed{S:α→Prop}(hS:∀a b,S a→E a b→S b){a b:α}(h:lO E a b)(ha:S a):S b:=by
 induction h with
 |one e=>exact hS _ _ ha e
 |cons e _ ih=>exact ih (hS _ _ ha e)
end lO
theorem nY:∀(n:Nat) (l:List Nat),l.Nodup→(∀x∈l,x<n)→l.length≤n
 |0,l,_,h=>by
  cases l with
  |nil=>exact Nat.le_refl _
  |cons x l=>exact absurd (h x (by simp)) (by omega)
 |n+1,l,hn,h=>by
  have h1:=nY n (l.filter (fun x=>x≠n)) (hn.filter _) (fun x hx=>by
   simp only[List.mem_filter,decide_eq_true_eq,ne_eq,decide_not,Bool.not_eq_true',decide_eq_false_iff_not] at hx
   have:=h x hx.1
   omega)
  have h2:l.length≤(l.filter (fun x=>x≠n)).length+1:=by
   clear h h1
   induction l with
   |nil=>simp
   |cons x l ih=>
    rw[List.nodup_cons] at hn
    by_cases e:x=n
    ·subst e
     have:l.filter (fun y=>y≠x)=l:=List.filter_eq_self.2 (fun y hy=>by
      simp only[ne_eq,decide_not,Bool.not_eq_true',decide_eq_false_iff_not]
      rintro rfl
      exact hn.1 hy)
     simp only[ne_eq,decide_not] at this
     simp[this]
    have:=ih hn.2
    simp[e]
    simpa using this
  omega
theorem aFl{n:Nat}{l:List Nat}(hn:l.Nodup)(h:∀x∈l,x<n)(hl:n≤l.length)(x:Nat)(hx:x<n):x∈l:=by
 refine Decidable.byContradiction fun hm=>?_
 have:=nY n (x::l) (List.nodup_cons.2 ⟨hm,hn⟩) (fun y hy=>by
  rcases List.mem_cons.1 hy with rfl|hy
  ·exact hx
  exact h y hy)
 simp at this
 omega
theorem aBQ{n:Nat}{E:Nat→Nat→Prop}{S:Nat→Prop}(hS:∀x,S x→x<n∧∃y,S y∧E y x)(x:Nat)(hx:S x):∃y,lO E y y:=by
 --a walk back of any length
 have walk:∀m:Nat,∃l:List Nat,l.length=m+1∧(∀y∈l,S y)∧l.Pairwise (fun a b=>lO E b a):=by
  --the head is the last one gone to
  have walk':∀m:Nat,∃(y:Nat) (l:List Nat),l.length=m∧S y∧(∀z∈l,S z∧lO E y z)∧l.Pairwise (fun a b=>lO E a b):=by
   intro m
   induction m with
   |zero=>exact⟨x,[],rfl,hx,by simp,by simp⟩
   |succ m ih=>
    obtain⟨y,l,hl,hy,hall,hp⟩:=ih
    obtain⟨_,z,hz,he⟩:=hS y hy
    refine⟨z,y::l,by simp[hl],hz,?_,?_⟩
    ·intro u hu
     rcases List.mem_cons.1 hu with rfl|hu
     ·exact⟨hy, .one he⟩
     exact⟨(hall u hu).1, .cons he (hall u hu).2⟩
    exact List.pairwise_cons.2 ⟨fun u hu=>(hall u hu).2,hp⟩
  intro m
  obtain⟨y,l,hl,hy,hall,hp⟩:=walk' m
  refine⟨(y::l).reverse,by simp[hl],?_,?_⟩
  ·intro z hz
   rcases List.mem_cons.1 (List.mem_reverse.1 hz) with rfl|hz
   ·exact hy
   exact(hall z hz).1
  rw[List.pairwise_reverse]
  exact List.pairwise_cons.2 ⟨fun u hu=>(hall u hu).2,hp⟩
 obtain⟨l,hl,hall,hp⟩:=walk n
 refine Classical.byContradiction fun hno=>?_
 have hnd:l.Nodup:=hp.imp (fun{a b} h=>by
  rintro rfl
  exact hno ⟨a,h⟩)
 have:=nY n l hnd (fun y hy=>(hS y (hall y hy)).1)
 omega
structure aCm(n:Nat)(E:List (Nat×Nat))(i:Nat)(cW:List Int)(row:List Nat):Prop where
 len:cW.length=n
 nd:row.Nodup
 lt:∀x∈row,x<n
 cnt:∀j,j<n→cW.getD j 0=((E.filter fun e=>decide (e.2=j)&& !((row.take i).contains e.1)).length:Int)
 iff:∀j,j<n→(j∈row↔cW.getD j 0=0)
 back:∀m (h:m<row.length),∀y,(y,row[m])∈E→y∈row.take m
theorem aCm.done{n:Nat}{E:List (Nat×Nat)}{cW:List Int}{row:List Nat}(hE:∀e∈E,e.1<n∧e.2<n)(K:aCm n E row.length cW row):
 (row.length<n)↔∃y,lO (fun a b=>(a,b)∈E) y y:=by
 constructor
 ·intro hlt
  have hex:∃x,x<n∧x∉row:=by
   refine Classical.byContradiction fun hno=>?_
   have hall:∀x,x<n→x∈row:=fun x hx=>Classical.byContradiction fun h=>hno ⟨x,hx,h⟩
   have:=nY row.length (List.range n) List.nodup_range (fun x hx=>?_)
   ·simp at this;omega
   exact absurd (nY n (List.range n) List.nodup_range (by simp)) (by
    have hsub:(List.range n).length≤row.length:=(List.nodup_range (n:=n)).length_le_of_subset (fun x hx=>hall x (by simpa using hx))
    simp at hsub;omega)
  obtain⟨x,hx,hnx⟩:=hex
  refine aBQ (n:=n) (S:=fun x=>x<n∧x∉row) (fun x hS=>⟨hS.1,?_⟩) x ⟨hx,hnx⟩
  have h0:cW.getD x 0≠0:=fun h=>hS.2 ((K.iff x hS.1).2 h)
  rw[K.cnt x hS.1,List.take_length] at h0
  have hne:(E.filter fun e=>decide (e.2=x)&& !(row.contains e.1))≠ []:=fun h=>h0 (by rw[h];rfl)
  obtain⟨e,he⟩:=List.exists_mem_of_ne_nil _ hne
  obtain⟨h1,h2⟩:=List.mem_filter.1 he
  simp only[Bool.and_eq_true,decide_eq_true_eq,Bool.not_eq_true',List.contains_eq_mem,decide_eq_false_iff_not] at h2
  refine⟨e.1,⟨(hE e h1).1,h2.2⟩,?_⟩
  have:e=(e.1,x):=by rw[←h2.1]
  rw[←this];exact h1
 rintro⟨y,hy⟩
 refine Classical.byContradiction fun hge=>?_
 have hle:n≤row.length:=by omega
 have hall:=aFl K.nd K.lt hle
 --no place of a ring stands in the row
 have key:∀(m:Nat) (h:m<row.length),¬lO (fun a b=>(a,b)∈E) row[m] row[m]:=by
  intro m
  induction m using Nat.strongRecOn with
  |ind m ih=>
   intro h hr
   obtain⟨c,hc,hcy⟩:=hr.last
   have hb:=K.back m h c hc
   obtain⟨k,hk,hkc⟩:=List.getElem_of_mem hb
   have hk':k<m:=by simp at hk;omega
   have e:row[k]'(by omega)=c:=by rw[←hkc];simp
   have hring:lO (fun a b=>(a,b)∈E) c c:=by
    rcases hcy with rfl|hcy
    ·exact .one hc
    exact .cons hc hcy
   exact ih k hk' (by omega) (by rw[e];exact hring)
 have hlt:y<n:=by
  obtain⟨c,hc,_⟩:=hy.last
  exact(hE _ hc).2
 obtain⟨m,hm,hmy⟩:=List.getElem_of_mem (hall y hlt)
 exact key m hm (by rw[hmy];exact hy)
structure KIn(n:Nat)(E D R:List (Nat×Nat))(i k:Nat)(cW:List Int)(row:List Nat):Prop where
 eq:E=D++R
 hk:row[i]?=some k
 len:cW.length=n
 nd:row.Nodup
 lt:∀x∈row,x<n
 cnt:∀j,j<n→cW.getD j 0+((D.filter fun e=>decide (e.2=j)&&decide (e.1=k)).length:Int)=((E.filter fun e=>decide (e.2=j)&& !((row.take i).contains e.1)).length:Int)
 iff:∀j,j<n→(j∈row↔cW.getD j 0=0)
 back:∀m (h:m<row.length),∀y,(y,row[m])∈E→y∈row.take m
theorem aCm.start{n:Nat}{E:List (Nat×Nat)}{i k:Nat}{cW:List Int}{row:List Nat}(K:aCm n E i cW row)(hk:row[i]?=some k):KIn n E [] E i k cW row:=
 ⟨rfl,hk,K.len,K.nd,K.lt,fun j hj=>by simpa using K.cnt j hj,K.iff,K.back⟩
theorem zC{row:List Nat}{i k:Nat}(hn:row.Nodup)(hk:row[i]?=some k):k∉row.take i:=by
 intro h
 obtain⟨m,hm,e⟩:=List.getElem_of_mem h
 obtain⟨hi,e2⟩:=List.getElem?_eq_some_iff.1 hk
 have hm':m<i∧m<row.length:=by simp at hm;omega
 rw[List.getElem_take] at e
 have hp:=List.pairwise_iff_getElem.1 hn m i hm'.2 hi hm'.1
 exact hp (e.trans e2.symm)
theorem aBJ{row:List Nat}{i k:Nat}(hk:row[i]?=some k):row.take (i+1)=row.take i++[k]:=by
 obtain⟨hi,e2⟩:=List.getElem?_eq_some_iff.1 hk
 rw[List.take_succ_eq_append_getElem hi,e2]
theorem KIn.finish{n:Nat}{E:List (Nat×Nat)}{i k:Nat}{cW:List Int}{row:List Nat}(K:KIn n E E [] i k cW row):aCm n E (i+1) cW row:=by
 refine⟨K.len,K.nd,K.lt,fun j hj=>?_,K.iff,K.back⟩
 have h:=K.cnt j hj
 have hnk:=zC K.nd K.hk
 have key:∀l:List (Nat×Nat),((l.filter fun e=>decide (e.2=j)&& !((row.take i).contains e.1)).length:Int)=((l.filter fun e=>decide (e.2=j)&&decide (e.1=k)).length:Int)+((l.filter fun e=>decide (e.2=j)&& !((row.take (i+1)).contains e.1)).length:Int):=by
  intro l
  rw[aBJ K.hk]
  induction l with
  |nil=>simp
  |cons e l ih=>
   simp only[List.filter_cons,List.contains_eq_mem,List.mem_append,List.mem_singleton] at ih⊢
   by_cases h1:e.2=j
   ·by_cases h2:e.1=k
    ·simp only[h1,h2,hnk,List.contains_eq_mem,decide_true,decide_false,Bool.not_false,Bool.and_self,if_true,List.length_cons,List.mem_append,List.mem_singleton,or_true,Bool.not_true,Bool.and_false,Bool.false_eq_true,if_false]
     omega
    by_cases h3:e.1∈row.take i
    ·simp only[h1,h2,h3,List.contains_eq_mem,decide_true,decide_false,Bool.not_false,Bool.and_self,if_true,List.length_cons,List.mem_append,List.mem_singleton,true_or,Bool.not_true,Bool.and_false,Bool.false_eq_true,if_false]
     omega
    simp only[h1,h2,h3,List.contains_eq_mem,decide_true,decide_false,Bool.not_false,Bool.and_self,if_true,List.length_cons,List.mem_append,List.mem_singleton,or_self,Bool.not_true,Bool.and_false,Bool.false_eq_true,if_false]
    omega
   simp only[h1,decide_false,Bool.false_and,Bool.false_eq_true,if_false]
   exact ih
 have:=key E
 omega
theorem KIn.other{n:Nat}{E D R:List (Nat×Nat)}{i k:Nat}{cW:List Int}{row:List Nat}{e:Nat×Nat}(K:KIn n E D (e::R) i k cW row)(he:e.1≠k):KIn n E (D++[e]) R i k cW row:=
 ⟨by rw[K.eq];simp,K.hk,K.len,K.nd,K.lt,fun j hj=>by rw[List.filter_append];simpa [he] using K.cnt j hj,K.iff,K.back⟩
theorem aDg(l:List Int)(i j:Nat)(v:Int)(h:i<l.length):(l.set i v).getD j 0=if j=i then v else l.getD j 0:=by
 rw[List.getD_eq_getElem?_getD,List.getD_eq_getElem?_getD]
 by_cases e:j=i
 ·subst e;simp[h]
 rw[List.getElem?_set_ne (by omega)];simp[e]
theorem KIn.one{n:Nat}{E D R:List (Nat×Nat)}{i k x:Nat}{cW:List Int}{row:List Nat}(K:KIn n E D ((k,x)::R) i k cW row)(hx:x<n):
 1≤cW.getD x 0∧KIn n E (D++[(k,x)]) R i k (cW.set x (cW.getD x 0-1)) (if cW.getD x 0-1=0 then row++[x] else row):=by
 obtain⟨hi,hik⟩:=List.getElem?_eq_some_iff.1 K.hk
 have hnk:=zC K.nd K.hk
 have hcx:=K.cnt x hx
 --ways to x from k are among those that count
 have sub:∀l:List (Nat×Nat),((l.filter fun e=>decide (e.2=x)&&decide (e.1=k)).length:Int)≤((l.filter fun e=>decide (e.2=x)&& !((row.take i).contains e.1)).length:Int):=by
  intro l
  induction l with
  |nil=>simp
  |cons e l ih=>
   simp only[List.filter_cons,List.contains_eq_mem,List.mem_append,List.mem_singleton] at ih⊢
   by_cases h1:e.2=x
   ·by_cases h2:e.1=k
    ·simp only[h1,h2,hnk,List.contains_eq_mem,decide_true,decide_false,Bool.not_false,Bool.and_self,if_true,List.length_cons]
     omega
    simp only[h1,h2,decide_true,decide_false,Bool.and_false,Bool.false_eq_true,if_false,Bool.true_and]
    split<;>(try simp only[List.length_cons])<;>omega
   simp only[h1,decide_false,Bool.false_and,Bool.false_eq_true,if_false]
   exact ih
 have s1:=sub E
 have s2:((E.filter fun e=>decide (e.2=x)&&decide (e.1=k)).length:Int)=((D.filter fun e=>decide (e.2=x)&&decide (e.1=k)).length:Int)+1+((R.filter fun e=>decide (e.2=x)&&decide (e.1=k)).length:Int):=by
  rw[K.eq,List.filter_append,List.filter_cons]
  simp
  omega
 have hge:1≤cW.getD x 0:=by omega
 refine⟨hge,?_⟩
 have hxr:x∉row:=fun h=>by have:=(K.iff x hx).1 h;omega
 have hset:∀j,(cW.set x (cW.getD x 0-1)).getD j 0=if j=x then cW.getD x 0-1 else cW.getD j 0:=fun j=>aDg _ _ _ _ (by rw[K.len];exact hx)
 have hcnt:∀row':List Nat,row'.take i=row.take i→∀j,j<n→(cW.set x (cW.getD x 0-1)).getD j 0+(((D++[(k,x)]).filter fun e=>decide (e.2=j)&&decide (e.1=k)).length:Int)=((E.filter fun e=>decide (e.2=j)&& !((row'.take i).contains e.1)).length:Int):=by
  intro row' hr j hj
  rw[hr,hset,←K.cnt j hj,List.filter_append]
  by_cases e:j=x
  ·subst e;simp;omega
  have e':¬x=j:=fun h=>e h.symm
  simp[e,e']
 split
 ·rename_i h0
  have htk:(row++[x]).take i=row.take i:=by rw[List.take_append_of_le_length (by omega)]
  refine⟨by rw[K.eq];simp,by rw[List.getElem?_append_left hi];exact K.hk,by simp[K.len],?_,?_,hcnt _ htk,?_,?_⟩
  ·exact List.nodup_append.2 ⟨K.nd,by simp,fun a ha b hb=>by
    rintro rfl
    simp at hb
    subst hb
    exact hxr ha⟩
  ·intro y hy
   rcases List.mem_append.1 hy with h|h
   ·exact K.lt y h
   simp at h;omega
  ·intro j hj
   rw[hset,List.mem_append,List.mem_singleton]
   by_cases e:j=x
   ·simp only[e,or_true,if_true,true_iff];exact h0
   simp only[e,or_false,if_false];exact K.iff j hj
  intro m hm y hy
  by_cases hml:m<row.length
  ·rw[List.getElem_append_left hml] at hy
   rw[List.take_append_of_le_length (by omega)]
   exact K.back m hml y hy
  have hme:m=row.length:=by simp at hm;omega
  subst hme
  have hyx:(y,x)∈E:=by simpa using hy
  rw[List.take_append_of_le_length (by omega),List.take_length]
  --all ways to x that count come from k
  refine Classical.byContradiction fun hny=>?_
  have hyk:y≠k:=fun e=>hny (by rw[e,←hik];exact List.getElem_mem hi)
  have hyt:y∉row.take i:=fun h=>hny (List.mem_of_mem_take h)
  have strict:∀l:List (Nat×Nat),(y,x)∈l→((l.filter fun e=>decide (e.2=x)&&decide (e.1=k)).length:Int)+1≤((l.filter fun e=>decide (e.2=x)&& !((row.take i).contains e.1)).length:Int):=by
   intro l hl
   obtain⟨a,b,hab⟩:=List.append_of_mem hl
   subst hab
   have subg:∀l:List (Nat×Nat),((l.filter fun e=>decide (e.2=x)&&decide (e.1=k)).length:Int)≤((l.filter fun e=>decide (e.2=x)&& !((row.take i).contains e.1)).length:Int):=sub
   have ha:=subg a
   have hb:=subg b
   rw[List.filter_append,List.filter_append,List.filter_cons,List.filter_cons]
   simp only[hyk,hyt,List.contains_eq_mem,decide_true,decide_false,Bool.not_false,Bool.and_self,Bool.and_false,Bool.false_eq_true,if_false,if_true,List.length_append,List.length_cons] at ha hb⊢
   omega
  have:=strict E hyx
  omega
 rename_i h0
 refine⟨by rw[K.eq];simp,K.hk,by simp[K.len],K.nd,K.lt,hcnt _ rfl,?_,K.back⟩
 intro j hj
 rw[hset]
 by_cases e:j=x
 ·simp only[e,if_true,hxr,false_iff];exact h0
 simp only[e,if_false];exact K.iff j hj
theorem aCm.first{n:Nat}{E:List (Nat×Nat)}{cW:List Int}(hl:cW.length=n)(hc:∀j,j<n→cW.getD j 0=((E.filter fun e=>decide (e.2=j)).length:Int)):
 aCm n E 0 cW ((List.range n).filter fun j=>decide (cW.getD j 0=0)):=by
 refine⟨hl,List.nodup_range.filter _,fun x hx=>by simpa using(List.mem_filter.1 hx).1,fun j hj=>by simpa using hc j hj,fun j hj=>by simp[hj],?_⟩
 intro m hm y hy
 exfalso
 have hmem:((List.range n).filter fun j=>decide (cW.getD j 0=0))[m]∈(List.range n).filter fun j=>decide (cW.getD j 0=0):=List.getElem_mem hm
 generalize ((List.range n).filter fun j=>decide (cW.getD j 0=0))[m]=z at hmem hy
 obtain⟨h1,h2⟩:=List.mem_filter.1 hmem
 have h1':z<n:=by simpa using h1
 have h2':cW.getD z 0=0:=by simpa using h2
 rw[hc z h1'] at h2'
 have hne:(E.filter fun e=>decide (e.2=z))≠ []:=List.ne_nil_of_mem (List.mem_filter.2 ⟨hy,by simp⟩)
 have:=List.length_pos_iff.2 hne
 omega
structure Bfs(n:Nat)(E:Nat→Nat→Prop)(a b:Nat)(seen:List Bool)(todo:List Nat):Prop where
 len:seen.length=n
 lt:∀x∈todo,x<n
 from':∀x,(x∈todo∨seen.getD x false=true)→x=a∨lO E a x
 start:a∈todo∨(a≠b∧∀y,E a y→seen.getD y false=true)
 on:∀x,seen.getD x false=true→x∈todo∨(x≠b∧∀y,E x y→seen.getD y false=true)
structure sZ(n:Nat)(E:Nat→Nat→Prop)(a b k:Nat)(D:Nat→Prop)(seen:List Bool)(todo:List Nat):Prop where
 len:seen.length=n
 lt:∀x∈todo,x<n
 kf:k=a∨lO E a k
 kb:k≠b
 got:∀y,D y→seen.getD y false=true
 from':∀x,(x∈todo∨seen.getD x false=true)→x=a∨lO E a x
 start:a=k∨a∈todo∨(a≠b∧∀y,E a y→seen.getD y false=true)
 on:∀x,seen.getD x false=true→x=k∨x∈todo∨(x≠b∧∀y,E x y→seen.getD y false=true)
theorem aFC(l:List Bool)(i j:Nat)(v:Bool)(h:i<l.length):(l.set i v).getD j false=if j=i then v else l.getD j false:=by
 rw[List.getD_eq_getElem?_getD,List.getD_eq_getElem?_getD]
 by_cases e:j=i
 ·subst e;simp[h]
 rw[List.getElem?_set_ne (by omega)];simp[e]
theorem Bfs.first{n:Nat}{E:Nat→Nat→Prop}{a b:Nat}(ha:a<n):Bfs n E a b (List.replicate n false) [a]:=by
 have hf:∀x,(List.replicate n false).getD x false=false:=fun x=>by
  rw[List.getD_eq_getElem?_getD,List.getElem?_replicate];split<;>rfl
 refine⟨by simp,by simpa using ha,fun x hx=>?_, .inl (by simp),fun x hx=>by rw[hf x] at hx;cases hx⟩
 rcases hx with hx|hx
 ·exact .inl (by simpa using hx)
 rw[hf x] at hx;cases hx
theorem Bfs.yes{n:Nat}{E:Nat→Nat→Prop}{a b:Nat}{seen:List Bool}{todo:List Nat}(B:Bfs n E a b seen (b::todo)):b=a∨lO E a b:=B.from' b (.inl (by simp))
theorem Bfs.no{n:Nat}{E:Nat→Nat→Prop}{a b:Nat}{seen:List Bool}(B:Bfs n E a b seen []):¬(b=a∨lO E a b):=by
 have hs:a≠b∧∀y,E a y→seen.getD y false=true:=by
  rcases B.start with h|h
  ·cases h
  exact h
 have key:∀x,(x=a∨seen.getD x false=true)→x≠b∧∀y,E x y→(y=a∨seen.getD y false=true):=by
  rintro x (rfl|hx)
  ·exact⟨hs.1,fun y hy=> .inr (hs.2 y hy)⟩
  rcases B.on x hx with h|h
  ·cases h
  exact⟨h.1,fun y hy=> .inr (h.2 y hy)⟩
 rintro(rfl|h)
 ·exact hs.1 rfl
 exact(key b (h.closed (S:=fun x=>x=a∨seen.getD x false=true) (fun x y hx e=>(key x hx).2 y e) (.inl rfl))).1 rfl
theorem Bfs.start'{n:Nat}{E:Nat→Nat→Prop}{a b k:Nat}{seen:List Bool}{todo:List Nat}(B:Bfs n E a b seen (k::todo))(hk:k≠b):sZ n E a b k (fun _=>False) seen todo:=by
 refine⟨B.len,fun x hx=>B.lt x (by simp[hx]),B.from' k (.inl (by simp)),hk,(fun y hy=>hy.elim),fun x hx=>B.from' x (hx.imp (fun h=>by simp[h]) id),?_,?_⟩
 ·rcases B.start with h|h
  ·rcases List.mem_cons.1 h with h|h
   ·exact .inl h
   exact .inr (.inl h)
  exact .inr (.inr h)
 intro x hx
 rcases B.on x hx with h|h
 ·rcases List.mem_cons.1 h with h|h
  ·exact .inl h
  exact .inr (.inl h)
 exact .inr (.inr h)
theorem sZ.more{n:Nat}{E:Nat→Nat→Prop}{a b k:Nat}{D:Nat→Prop}{seen:List Bool}{todo:List Nat}(B:sZ n E a b k D seen todo){D':Nat→Prop}(hD:∀y,D' y→D y∨seen.getD y false=true):sZ n E a b k D' seen todo:=
 ⟨B.len,B.lt,B.kf,B.kb,fun y hy=>(hD y hy).elim (B.got y) id,B.from',B.start,B.on⟩
theorem sZ.one{n:Nat}{E:Nat→Nat→Prop}{a b k x:Nat}{D:Nat→Prop}{seen:List Bool}{todo:List Nat}(B:sZ n E a b k D seen todo)(hx:x<n)(he:E k x):sZ n E a b k (fun y=>D y∨y=x) (seen.set x true) (todo++[x]):=by
 have hset:∀j,(seen.set x true).getD j false=if j=x then true else seen.getD j false:=fun j=>aFC _ _ _ _ (by rw[B.len];exact hx)
 have up:∀y,seen.getD y false=true→(seen.set x true).getD y false=true:=fun y hy=>by rw[hset];split<;>simp_all
 have hfx:x=a∨lO E a x:=by
  rcases B.kf with h|h
  ·rw[←h];exact .inr (.one he)
  exact .inr (h.snoc he)
 refine⟨by simp[B.len],?_,B.kf,B.kb,?_,?_,?_,?_⟩
 ·intro y hy
  rcases List.mem_append.1 hy with h|h
  ·exact B.lt y h
  simp at h;omega
 ·rintro y (hy|rfl)
  ·exact up y (B.got y hy)
  rw[hset,if_pos rfl]
 ·intro y hy
  by_cases e:y=x
  ·rw[e];exact hfx
  rw[hset,if_neg e] at hy
  refine B.from' y (hy.imp (fun h=>?_) id)
  rcases List.mem_append.1 h with h|h
  ·exact h
  exact absurd (by simpa using h) e
 ·rcases B.start with h|h|⟨h1,h2⟩
  ·exact .inl h
  ·exact .inr (.inl (by simp[h]))
  exact .inr (.inr ⟨h1,fun y hy=>up y (h2 y hy)⟩)
 intro y hy
 by_cases e:y=x
 ·exact .inr (.inl (by simp[e]))
 rw[hset,if_neg e] at hy
 rcases B.on y hy with h|h|⟨h1,h2⟩
 ·exact .inl h
 ·exact .inr (.inl (by simp[h]))
 exact .inr (.inr ⟨h1,fun z hz=>up z (h2 z hz)⟩)
theorem sZ.finish{n:Nat}{E:Nat→Nat→Prop}{a b k:Nat}{seen:List Bool}{todo:List Nat}(B:sZ n E a b k (E k) seen todo):Bfs n E a b seen todo:=by
 refine⟨B.len,B.lt,B.from',?_,?_⟩
 ·rcases B.start with h|h|h
  ·exact .inr ⟨by rw[h];exact B.kb,by rw[h];exact B.got⟩
  ·exact .inl h
  exact .inr h
 intro x hx
 rcases B.on x hx with h|h|h
 ·exact .inr ⟨by rw[h];exact B.kb,by rw[h];exact B.got⟩
 ·exact .inl h
 exact .inr h
def nT(seen:List Bool):Nat:=(seen.filter (·=false)).length
theorem yR:∀(seen:List Bool) (x:Nat),x<seen.length→seen.getD x false=false→nT (seen.set x true)+1=nT seen
 | [],x,h,_=>by simp at h
 |s::l,0,_,h=>by
  simp at h
  subst h
  simp[nT]
 |s::l,x+1,hx,h=>by
  have ih:=yR l x (by simpa using hx) (by simpa using h)
  unfold nT at ih⊢
  rw[List.set_cons_succ,List.filter_cons,List.filter_cons]
  split<;>(try simp only[List.length_cons])<;>omega
/-
Least paths:the list of what is to do,and round by round;lists in order,each element once. Plain laws,no program in sight. No conditions.
-/
structure Pa where
 n:Bool
 a:Int
 deriving DecidableEq,Inhabited
def Pa.ok(p:Pa):Bool:=decide (0≤p.a)&&decide (p.a≤1048576)
def Pa.le(p q:Pa):Bool:=(p.n|| !q.n)&&decide (p.a≤q.a)
def Pa.thn(p q:Pa):Option Pa:=
 if (!p.ok|| !q.ok)=true then none
 else if q.n=true then some q
 else if Pa.ok ⟨p.n,p.a+q.a⟩=false then none else some ⟨p.n,p.a+q.a⟩
theorem Pa.le_refl(p:Pa):p.le p=true:=by cases p with|mk n a=>cases n<;>simp[Pa.le]
theorem Pa.le_trans{p q r:Pa}(h:p.le q=true)(k:q.le r=true):p.le r=true:=by
 obtain⟨a,x⟩:=p;obtain⟨b,y⟩:=q;obtain⟨c,z⟩:=r
 cases a<;>cases b<;>cases c<;>simp[Pa.le] at*<;>omega
theorem Pa.le_antisymm{p q:Pa}(h:p.le q=true)(k:q.le p=true):p=q:=by
 obtain⟨a,x⟩:=p;obtain⟨b,y⟩:=q
 cases a<;>cases b<;>simp[Pa.le] at*<;>omega
theorem Pa.thn_ok{p q r:Pa}(h:p.thn q=some r):r.ok=true∧q.ok=true∧p.ok=true:=by
 unfold Pa.thn at h
 split at h
 ·cases h
 rename_i h0
 simp only[Bool.or_eq_true,Bool.not_eq_true',not_or,Bool.not_eq_false] at h0
 split at h
 ·injection h with h;subst h;exact⟨h0.2,h0.2,h0.1⟩
 split at h
 ·cases h
 rename_i h1
 injection h with h;subst h
 exact⟨by simpa using h1,h0.2,h0.1⟩
theorem Pa.thn_mono{p p' q r':Pa}(hp:p.ok=true)(hl:p.le p'=true)(h:p'.thn q=some r'):∃r,p.thn q=some r∧r.le r'=true:=by
 obtain⟨hr,hq,hp'⟩:=Pa.thn_ok h
 unfold Pa.thn at h⊢
 simp only[hp,hp',hq,Bool.not_true,Bool.or_self,Bool.false_eq_true,if_false] at h⊢
 split at h
 ·rename_i hn
  injection h with h;subst h
  exact⟨q,by rw[if_pos hn],Pa.le_refl _⟩
 rename_i hn
 split at h
 ·cases h
 injection h with h;subst h
 rw[if_neg hn]
 obtain⟨n,a⟩:=p;obtain⟨m,b⟩:=p';obtain⟨o,c⟩:=q
 have hok:Pa.ok ⟨n,a+c⟩=true:=by
  simp only[Pa.ok,Pa.le,Bool.and_eq_true,decide_eq_true_eq] at*
  omega
 simp only[hok,Bool.true_eq_false,if_false]
 refine⟨_,rfl,?_⟩
 simp only[Pa.le,Bool.and_eq_true,decide_eq_true_eq] at hl⊢
 exact⟨hl.1,by omega⟩
theorem Pa.thn_up{p q r:Pa}(hn:q.n=false)(h:p.thn q=some r):p.le r=true:=by
 obtain⟨hr,hq,hp⟩:=Pa.thn_ok h
 unfold Pa.thn at h
 simp only[hp,hq,hn,Bool.not_true,Bool.or_self,Bool.false_eq_true,if_false] at h
 split at h
 ·cases h
 injection h with h;subst h
 obtain⟨n,a⟩:=p;obtain⟨o,c⟩:=q
 simp only[Pa.ok,Bool.and_eq_true,decide_eq_true_eq] at hq
 cases n<;>simp[Pa.le]<;>omega
structure We where
 f:Nat
 t:Nat
 p:Pa
 deriving DecidableEq,Inhabited
def tZ(ws:List We):Nat→List We→Nat→Prop
 |a,[],k=>a=k
 |a,w::l,k=>w∈ws∧w.f=a∧tZ ws w.t l k
def run:Pa→List We→Option Pa
 |p,[]=>some p
 |p,w::l=>(p.thn w.p).bind fun q=>run q l
def Pa.nought:Pa:=⟨false,0⟩
def Val(ws:List We)(a k:Nat)(p:Pa):Prop:=∃l,tZ ws a l k∧run Pa.nought l=some p
theorem tZ.append{ws:List We}:∀{l m:List We} {a b c:Nat},tZ ws a l b→tZ ws b m c→tZ ws a (l++m) c
 | [],_,_,_,_,h,k=>by have h:_=_:=h;subst h;exact k
 |w::l,_,_,_,_,⟨h1,h2,h3⟩,k=>⟨h1,h2,tZ.append h3 k⟩
theorem yZ:∀(l m:List We) (p:Pa),run p (l++m)=(run p l).bind fun q=>run q m
 | [],m,p=>rfl
 |w::l,m,p=>by
  show((p.thn w.p).bind fun q=>run q (l++m))=((p.thn w.p).bind fun q=>run q l).bind fun q=>run q m
  cases p.thn w.p with
  |none=>rfl
  |some q=>exact yZ l m q
theorem aGk:∀(l:List We) {p q:Pa},p.ok=true→run p l=some q→q.ok=true
 | [],p,q,hp,h=>by have h:some p=some q:=h;injection h with h;subst h;exact hp
 |w::l,p,q,hp,h=>by
  have h:((p.thn w.p).bind fun q=>run q l)=some q:=h
  cases e:p.thn w.p with
  |none=>rw[e] at h;cases h
  |some r=>rw[e] at h;exact aGk l (Pa.thn_ok e).1 h
theorem aGj:∀(l:List We) {p q:Pa},(∀w∈l,w.p.n=false)→run p l=some q→p.le q=true
 | [],p,q,_,h=>by have h:some p=some q:=h;injection h with h;subst h;exact Pa.le_refl p
 |w::l,p,q,hn,h=>by
  have h:((p.thn w.p).bind fun q=>run q l)=some q:=h
  cases e:p.thn w.p with
  |none=>rw[e] at h;cases h
  |some r=>
   rw[e] at h
   exact Pa.le_trans (Pa.thn_up (hn w (by simp)) e) (aGj l (fun v hv=>hn v (by simp[hv])) h)
def aDJ(ws:List We)(i j:Nat):Prop:=∃w∈ws,w.f=i∧w.t=j
theorem tZ.split{ws:List We}:∀{l m:List We} {a c:Nat},tZ ws a (l++m) c→∃b,tZ ws a l b∧tZ ws b m c
 | [],_,a,_,h=>⟨a,rfl,h⟩
 |w::l,_,_,_,⟨h1,h2,h3⟩=>by
  obtain⟨b,h4,h5⟩:=tZ.split h3
  exact⟨b,⟨h1,h2,h4⟩,h5⟩
def aGY(ws:List We):Prop:=∀w∈ws,w.p.n=true→¬(w.t=w.f∨lO (aDJ ws) w.t w.f)
def Can(l:List Pa):Prop:=l.Pairwise fun p q=>p.n=false∧q.n=true∧p.a<q.a
theorem Can.unique:∀{l m:List Pa},Can l→Can m→(∀x,x∈l↔x∈m)→l=m
 | [],[],_,_,_=>rfl
 | [],y::m,_,_,h=>by have:=(h y).2 (by simp);cases this
 |x::l,[],_,_,h=>by have:=(h x).1 (by simp);cases this
 |x::l,y::m,hl,hm,h=>by
  have hl':=List.pairwise_cons.1 hl
  have hm':=List.pairwise_cons.1 hm
  have e:x=y:=by
   rcases List.mem_cons.1 ((h x).1 (by simp)) with e|e
   ·exact e
   rcases List.mem_cons.1 ((h y).2 (by simp)) with e2|e2
   ·exact e2.symm
   have h1:=hm'.1 x e
   have h2:=hl'.1 y e2
   rw[h1.1] at h2
   exact absurd h2.2.2 (by have:=h1.2.2;omega)
  subst e
  have hx1:x∉l:=fun hx=>absurd (hl'.1 x hx).2.2 (by omega)
  have hx2:x∉m:=fun hx=>absurd (hm'.1 x hx).2.2 (by omega)
  rw[Can.unique hl'.2 hm'.2 fun z=>?_]
  constructor
  ·intro hz
   rcases List.mem_cons.1 ((h z).1 (by simp[hz])) with e|e
   ·subst e;exact absurd hz hx1
   exact e
  intro hz
  rcases List.mem_cons.1 ((h z).2 (by simp[hz])) with e|e
  ·subst e;exact absurd hz hx2
  exact e
theorem Can.anti{l:List Pa}(h:Can l){p q:Pa}(hp:p∈l)(hq:q∈l)(hle:p.le q=true):p=q:=by
 induction l with
 |nil=>cases hp
 |cons x l ih=>
  obtain⟨h1,h2⟩:=List.pairwise_cons.1 h
  rcases List.mem_cons.1 hp with ep|ep<;>rcases List.mem_cons.1 hq with eq|eq
  ·rw[ep,eq]
  ·have:=h1 q eq
   subst ep
   simp[Pa.le,this.1,this.2.1] at hle
  ·have:=h1 p ep
   subst eq
   simp[Pa.le,this.1,this.2.1] at hle
   exact absurd hle (by have:=this.2.2;omega)
  exact ih h2 ep eq
def nM(l:List Pa)(p:Pa):Prop:=∃q∈l,q.le p=true
theorem aDr(l:List Pa)(p:Pa):(l.any fun x=>x.le p)=true↔nM l p:=by simp[nM]
def kH(l:List Pa)(p:Pa):List Pa:=if p.n=true then (l.filter fun x=> !(p.le x))++[p] else p::(l.filter fun x=> !(p.le x))
theorem lE(l:List Pa)(p x:Pa):x∈kH l p↔x=p∨(x∈l∧p.le x=false):=by
 unfold kH
 split
 ·simp[or_comm]
 simp
theorem aCF{l:List Pa}{p x:Pa}:nM (kH l p) x↔nM l x∨p.le x=true:=by
 constructor
 ·rintro⟨q,hq,hle⟩
  rcases(lE l p q).1 hq with e|⟨h1,_⟩
  ·subst e;exact .inr hle
  exact .inl ⟨q,h1,hle⟩
 rintro(⟨q,hq,hle⟩|h)
 ·cases e:p.le q with
  |true=>exact⟨p,(lE l p p).2 (.inl rfl),Pa.le_trans e hle⟩
  |false=>exact⟨q,(lE l p q).2 (.inr ⟨hq,e⟩),hle⟩
 exact⟨p,(lE l p p).2 (.inl rfl),h⟩
theorem Can.put{l:List Pa}(h:Can l){p:Pa}(hd:¬nM l p):Can (kH l p):=by
 unfold kH Can
 have hf:Can (l.filter fun x=> !(p.le x)):=List.Pairwise.sublist List.filter_sublist h
 have hno:∀x∈l,x.le p=false:=fun x hx=>by
  cases e:x.le p with
  |false=>rfl
  |true=>exact absurd ⟨x,hx,e⟩ hd
 split
 ·rename_i hn
  refine List.pairwise_append.2 ⟨hf,by simp,fun x hx q hq=>?_⟩
  simp at hq
  subst hq
  obtain⟨hx1,hx2⟩:=List.mem_filter.1 hx
  have h1:=hno x hx1
  have h2:q.le x=false:=by simpa using hx2
  obtain⟨a,b⟩:=x;obtain⟨c,d⟩:=q
  simp at hn
  subst hn
  cases a<;>simp[Pa.le] at*<;>omega
 rename_i hn
 refine List.pairwise_cons.2 ⟨fun x hx=>?_,hf⟩
 obtain⟨hx1,hx2⟩:=List.mem_filter.1 hx
 have h1:=hno x hx1
 have h2:p.le x=false:=by simpa using hx2
 obtain⟨a,b⟩:=x;obtain⟨c,d⟩:=p
 simp at hn
 subst hn
 cases a<;>simp[Pa.le] at*<;>omega
def sK(l:List Pa):Nat:=l.foldr (fun p m=>min p.a.toNat m) 1048577
def co(l:List Pa):Nat:=sK l+sK (l.filter fun p=>p.n)
theorem sA{l:List Pa}{p:Pa}(h:p∈l):sK l≤p.a.toNat:=by
 induction l with
 |nil=>cases h
 |cons x l ih=>
  show min x.a.toNat (sK l)≤_
  rcases List.mem_cons.1 h with e|e
  ·subst e;omega
  have:=ih e;omega
theorem vG(l:List Pa):sK l≤1048577:=by
 induction l with
 |nil=>exact Nat.le_refl _
 |cons x l ih=>show min x.a.toNat (sK l)≤_;omega
theorem yI{l:List Pa}{m:Nat}(hm:m≤1048577)(h:∀p∈l,m≤p.a.toNat):m≤sK l:=by
 induction l with
 |nil=>exact hm
 |cons x l ih=>
  show m≤min x.a.toNat (sK l)
  have h1:=h x (by simp)
  have h2:=ih (fun p hp=>h p (by simp[hp]))
  omega
theorem aGL{l:List Pa}(hok:∀x∈l,x.ok=true){p:Pa}(hp:p.ok=true)(hd:¬nM l p):co (kH l p)+1≤co l:=by
 have hno:∀x∈l,x.le p=false:=fun x hx=>by
  cases e:x.le p with
  |false=>rfl
  |true=>exact absurd ⟨x,hx,e⟩ hd
 have hpa:0≤p.a∧p.a≤1048576:=by simpa [Pa.ok] using hp
 --all of the list,and those that begin anew
 have h1:sK (kH l p)≤sK l:=by
  refine yI (vG _) fun x hx=>?_
  cases e:p.le x with
  |false=>exact sA ((lE l p x).2 (.inr ⟨hx,e⟩))
  |true=>
   have:=sA ((lE l p p).2 (.inl rfl))
   simp[Pa.le] at e
   omega
 have hall:∀q∈(kH l p).filter (fun p=>p.n),q∈kH l p∧q.n=true:=fun q hq=>by simpa using List.mem_filter.1 hq
 have h2:sK ((kH l p).filter fun p=>p.n)≤sK (l.filter fun p=>p.n):=by
  refine yI (vG _) fun x hx=>?_
  obtain⟨hx1,hx2⟩:=List.mem_filter.1 hx
  cases e:p.le x with
  |false=>exact sA (List.mem_filter.2 ⟨(lE l p x).2 (.inr ⟨hx1,e⟩),hx2⟩)
  |true=>
   have hx2':x.n=true:=hx2
   simp[Pa.le,hx2'] at e
   have:=sA (List.mem_filter.2 ⟨(lE l p p).2 (.inl rfl),by simpa using e.1⟩:p∈(kH l p).filter fun p=>p.n)
   omega
 unfold co
 cases hn:p.n with
 |false=>
  have h3:sK (kH l p)≤p.a.toNat:=sA ((lE l p p).2 (.inl rfl))
  have h4:p.a.toNat+1≤sK l:=yI (by omega) fun x hx=>by
   have:=hno x hx
   have hxo:=hok x hx
   simp[Pa.le,hn,Pa.ok] at this hxo
   omega
  omega
 |true=>
  have h3:sK ((kH l p).filter fun p=>p.n)≤p.a.toNat:=sA (List.mem_filter.2 ⟨(lE l p p).2 (.inl rfl),hn⟩)
  have h4:p.a.toNat+1≤sK (l.filter fun p=>p.n):=yI (by omega) fun x hx=>by
   obtain⟨hx1,hx2⟩:=List.mem_filter.1 hx
   have:=hno x hx1
   have hxo:=hok x hx1
   have hx2':x.n=true:=hx2
   simp[Pa.le,hn,hx2',Pa.ok] at this hxo
   omega
  omega
theorem Val.ok{ws:List We}{a k:Nat}{p:Pa}(h:Val ws a k p):p.ok=true:=by
 obtain⟨l,_,hr⟩:=h
 exact aGk l (by rfl) hr
theorem Val.step{ws:List We}{a:Nat}{p r:Pa}{w:We}(h:Val ws a w.f p)(hw:w∈ws)(e:p.thn w.p=some r):Val ws a w.t r:=by
 obtain⟨l,h1,h2⟩:=h
 refine⟨l++[w],h1.append ⟨hw,rfl,rfl⟩,?_⟩
 rw[yZ,h2]
 show((p.thn w.p).bind fun q=>run q [])=some r
 rw[e];rfl
theorem Val.nought(ws:List We)(a:Nat):Val ws a a Pa.nought:=⟨[],rfl,rfl⟩
def aHa(ws:List We)(out:List (List Pa))(k:Nat):Prop:=∀p∈out.getD k [],∀w∈ws,w.f=k→∀r,p.thn w.p=some r→nM (out.getD w.t []) r
structure aCl(ws:List We)(n a:Nat)(out:List (List Pa))(todo:List Nat):Prop where
 len:out.length=n
 can:∀k,Can (out.getD k [])
 val:∀k,∀p∈out.getD k [],Val ws a k p
 start:nM (out.getD a []) Pa.nought
 lt:∀x∈todo,x<n
 clo:∀k,k<n→k∉todo→aHa ws out k
structure oK(ws:List We)(n a k:Nat)(paths:List Pa)(D:We→Pa→Prop)(out:List (List Pa))(todo:List Nat):Prop where
 len:out.length=n
 can:∀k,Can (out.getD k [])
 val:∀k,∀p∈out.getD k [],Val ws a k p
 start:nM (out.getD a []) Pa.nought
 lt:∀x∈todo,x<n
 clo:∀j,j<n→j∉todo→j≠k→aHa ws out j
 pv:∀p∈paths,Val ws a k p
 me:k∈todo∨(out.getD k []=paths∧∀w∈ws,∀p∈paths,D w p→w.f=k→∀r,p.thn w.p=some r→nM (out.getD w.t []) r)
theorem aCl.begin{ws:List We}{n a k:Nat}{out:List (List Pa)}{todo:List Nat}(W:aCl ws n a out (k::todo)):oK ws n a k (out.getD k []) (fun _ _=>False) out todo:=
 ⟨W.len,W.can,W.val,W.start,fun x hx=>W.lt x (by simp[hx]),fun j hj hn hk=>W.clo j hj (by simp[hn,hk]),W.val k, .inr ⟨rfl,fun _ _ _ _ h=>h.elim⟩⟩
theorem oK.more{ws:List We}{n a k:Nat}{paths:List Pa}{D D':We→Pa→Prop}{out:List (List Pa)}{todo:List Nat}(W:oK ws n a k paths D out todo)
 (h:∀w∈ws,∀p∈paths,D' w p→w.f=k→D w p∨∀r,p.thn w.p=some r→nM (out.getD w.t []) r):oK ws n a k paths D' out todo:=
 ⟨W.len,W.can,W.val,W.start,W.lt,W.clo,W.pv,W.me.imp id fun⟨e,hd⟩=>⟨e,fun w hw p hp hD hf r hr=>(h w hw p hp hD hf).elim (fun hd'=>hd w hw p hp hd' hf r hr) (fun h=>h r hr)⟩⟩
theorem nO{α:Type}(l:List α)(i j:Nat)(v d:α)(h:i<l.length):(l.set i v).getD j d=if j=i then v else l.getD j d:=by
 rw[List.getD_eq_getElem?_getD,List.getD_eq_getElem?_getD]
 by_cases e:j=i
 ·subst e;simp[h]
 rw[List.getElem?_set_ne (by omega)];simp[e]
theorem oK.put{ws:List We}{n a k:Nat}{paths:List Pa}{D:We→Pa→Prop}{out:List (List Pa)}{todo:List Nat}(W:oK ws n a k paths D out todo){w:We}{p r:Pa}(hw:w∈ws)(hf:w.f=k)(ht:w.t<n)(hp:p∈paths)(e:p.thn w.p=some r)(hd:¬nM (out.getD w.t []) r):
 oK ws n a k paths (fun v q=>D v q∨(v=w∧q=p)) (out.set w.t (kH (out.getD w.t []) r)) (todo++[w.t]):=by
 have hset:∀j,(out.set w.t (kH (out.getD w.t []) r)).getD j []=if j=w.t then kH (out.getD w.t []) r else out.getD j []:=fun j=>nO _ _ _ _ _ (by rw[W.len];exact ht)
 have up:∀j x,nM (out.getD j []) x→nM ((out.set w.t (kH (out.getD w.t []) r)).getD j []) x:=fun j x h=>by
  rw[hset]
  split
  ·rename_i ej;rw[ej] at h;exact aCF.2 (.inl h)
  exact h
 refine⟨by simp[W.len],fun j=>?_,fun j q hq=>?_,up _ _ W.start,?_,?_,W.pv,?_⟩
 ·rw[hset]
  split
  ·exact(W.can _).put hd
  exact W.can j
 ·rw[hset] at hq
  split at hq
  ·rename_i ej
   subst ej
   rcases(lE _ _ _).1 hq with eq|⟨h1,_⟩
   ·subst eq;exact Val.step (by rw[hf];exact W.pv p hp) hw e
   exact W.val _ q h1
  exact W.val j q hq
 ·intro x hx
  rcases List.mem_append.1 hx with h|h
  ·exact W.lt x h
  simp at h;omega
 ·intro j hj hn hk q hq v hv hvf r' hr'
  have hjt:j≠w.t:=fun ej=>hn (by simp[ej])
  rw[hset,if_neg hjt] at hq
  exact up _ _ (W.clo j hj (fun h=>hn (by simp[h])) hk q hq v hv hvf r' hr')
 rcases W.me with h|⟨h1,h2⟩
 ·exact .inl (by simp[h])
 by_cases ek:k=w.t
 ·exact .inl (by simp[ek])
 refine .inr ⟨by rw[hset,if_neg ek];exact h1,?_⟩
 rintro v hv q hq (hD|⟨ev,eq⟩) hvf r' hr'
 ·exact up _ _ (h2 v hv q hq hD hvf r' hr')
 subst ev eq
 rw[e] at hr'
 injection hr' with hr'
 subst hr'
 rw[hset,if_pos rfl]
 exact aCF.2 (.inr (Pa.le_refl _))
theorem oK.finish{ws:List We}{n a k:Nat}{paths:List Pa}{out:List (List Pa)}{todo:List Nat}(W:oK ws n a k paths (fun _ _=>True) out todo):aCl ws n a out todo:=by
 refine⟨W.len,W.can,W.val,W.start,W.lt,fun j hj hn=>?_⟩
 by_cases e:j=k
 ·subst e
  rcases W.me with h|⟨h1,h2⟩
  ·exact absurd h hn
  intro p hp w hw hf r hr
  rw[h1] at hp
  exact h2 w hw p hp trivial hf r hr
 exact W.clo j hj hn e
structure mC(ws:List We)(a k:Nat)(l:List Pa):Prop where
 can:Can l
 val:∀p∈l,Val ws a k p
 dom:∀p,Val ws a k p→nM l p
theorem aCl.done{ws:List We}{n a:Nat}{out:List (List Pa)}(ht:∀w∈ws,w.t<n)(ha:a<n)(W:aCl ws n a out [])(k:Nat):mC ws a k (out.getD k []):=by
 refine⟨W.can k,W.val k,?_⟩
 have key:∀(l:List We) (j:Nat) (p r:Pa),j<n→nM (out.getD j []) p→run p l=some r→tZ ws j l k→nM (out.getD k []) r:=by
  intro l
  induction l with
  |nil=>
   intro j p r hj hd hr hw
   have hr:some p=some r:=hr
   injection hr with hr
   subst hr
   have hw:j=k:=hw
   subst hw
   exact hd
  |cons w l ih=>
   rintro j p r hj ⟨q,hq,hle⟩ hr ⟨h1,h2,h3⟩
   have hr:((p.thn w.p).bind fun q=>run q l)=some r:=hr
   cases e:p.thn w.p with
   |none=>rw[e] at hr;cases hr
   |some p'=>
    rw[e] at hr
    have hqo:=(W.val j q hq).ok
    obtain⟨q',k1,k2⟩:=Pa.thn_mono hqo hle e
    obtain⟨x,hx,hxl⟩:=W.clo j hj (by simp) q hq w h1 h2 q' k1
    exact ih w.t p' r (ht w h1) ⟨x,hx,Pa.le_trans hxl k2⟩ hr h3
 rintro p ⟨l,h1,h2⟩
 exact key l a Pa.nought p ha W.start h2 h1
theorem mC.unique{ws:List We}{a k:Nat}{l m:List Pa}(hl:mC ws a k l)(hm:mC ws a k m):l=m:=by
 have one:∀{l m:List Pa},mC ws a k l→mC ws a k m→∀x∈l,x∈m:=by
  intro l m hl hm x hx
  obtain⟨q,hq,hle⟩:=hm.dom x (hl.val x hx)
  obtain⟨y,hy,hle2⟩:=hl.dom q (hm.val q hq)
  have e:=hl.can.anti hy hx (Pa.le_trans hle2 hle)
  subst e
  rw[Pa.le_antisymm hle2 hle]
  exact hq
 exact hl.can.unique hm.can fun x=>⟨one hl hm x,one hm hl x⟩
structure aGX(ws:List We)(n a r:Nat)(at':List (List Pa)):Prop where
 len:at'.length=n
 can:∀k,k<n→Can (at'.getD k [])
 val:∀k,k<n→∀p∈at'.getD k [],Val ws a k p
 dom:∀k,k<n→∀l p,l.length≤r→tZ ws a l k→run Pa.nought l=some p→nM (at'.getD k []) p
structure aIv(l m:List Pa):Prop where
 can:Can m
 sub:∀p∈m,p∈l
 dom:∀p∈l,nM m p
theorem aGX.first{ws:List We}{n a:Nat}(ha:a<n):aGX ws n a 0 ((List.replicate n []).set a [Pa.nought]):=by
 have hset:∀j,((List.replicate n ([]:List Pa)).set a [Pa.nought]).getD j []=if j=a then [Pa.nought] else []:=fun j=>by
  rw[nO _ _ _ _ _ (by simpa using ha)]
  split
  ·rfl
  rw[List.getD_eq_getElem?_getD,List.getElem?_replicate];split<;>rfl
 refine⟨by simp,fun k _=>?_,fun k _ p hp=>?_,fun k _ l p hl hw hr=>?_⟩
 ·rw[hset];split<;>simp[Can]
 ·rw[hset] at hp
  split at hp
  ·rename_i e
   simp at hp
   subst e hp
   exact Val.nought ws k
  cases hp
 have e:l=[]:=List.length_eq_zero_iff.1 (by omega)
 subst e
 have hw:a=k:=hw
 have hr:some Pa.nought=some p:=hr
 injection hr with hr
 subst hw hr
 rw[hset,if_pos rfl]
 exact⟨Pa.nought,by simp,Pa.le_refl _⟩
theorem aCl.first{ws:List We}{n a:Nat}(ha:a<n):aCl ws n a ((List.replicate n []).set a [Pa.nought]) [a]:=by
 have hset:∀j,((List.replicate n ([]:List Pa)).set a [Pa.nought]).getD j []=if j=a then [Pa.nought] else []:=fun j=>by
  rw[nO _ _ _ _ _ (by simpa using ha)]
  split
  ·rfl
  rw[List.getD_eq_getElem?_getD,List.getElem?_replicate];split<;>rfl
 refine⟨by simp,fun k=>?_,fun k p hp=>?_,?_,by simpa using ha,fun k hk hn p hp=>?_⟩
 ·rw[hset];split<;>simp[Can]
 ·rw[hset] at hp
  split at hp
  ·rename_i e
   simp at hp
   subst e hp
   exact Val.nought ws k
  cases hp
 ·rw[hset,if_pos rfl]
  exact⟨Pa.nought,by simp,Pa.le_refl _⟩
 rw[hset,if_neg (by simpa using hn)] at hp
 cases hp
section
variable{α:Type} [DecidableEq α]{lt:α→α→Bool}
structure Ord(lt:α→α→Bool):Prop where
 irr:∀x,lt x x=false
 trans:∀x y z,lt x y=true→lt y z=true→lt x z=true
 tot:∀x y,lt x y=false→lt y x=false→x=y
theorem Ord.asym(O:Ord lt){x y:α}(h:lt x y=true):lt y x=false:=by
 cases e:lt y x with
 |false=>rfl
 |true=>have:=O.trans x y x h e;rw[O.irr] at this;cases this
def Inc(lt:α→α→Bool)(l:List α):Prop:=l.Pairwise fun x y=>lt x y=true
theorem Inc.unique(O:Ord lt):∀{l m:List α},Inc lt l→Inc lt m→(∀x,x∈l↔x∈m)→l=m
 | [],[],_,_,_=>rfl
 | [],y::m,_,_,h=>by have:=(h y).2 (by simp);cases this
 |x::l,[],_,_,h=>by have:=(h x).1 (by simp);cases this
 |x::l,y::m,hl,hm,h=>by
  have hl':=List.pairwise_cons.1 hl
  have hm':=List.pairwise_cons.1 hm
  have e:x=y:=by
   rcases List.mem_cons.1 ((h x).1 (by simp)) with e|e
   ·exact e
   rcases List.mem_cons.1 ((h y).2 (by simp)) with e2|e2
   ·exact e2.symm
   have h1:=O.asym (hm'.1 x e)
   rw[hl'.1 y e2] at h1
   cases h1
  subst e
  have hx1:x∉l:=fun hx=>by have:=hl'.1 x hx;rw[O.irr] at this;cases this
  have hx2:x∉m:=fun hx=>by have:=hm'.1 x hx;rw[O.irr] at this;cases this
  rw[Inc.unique O hl'.2 hm'.2 fun z=>?_]
  constructor
  ·intro hz
   rcases List.mem_cons.1 ((h z).1 (by simp[hz])) with e|e
   ·subst e;exact absurd hz hx1
   exact e
  intro hz
  rcases List.mem_cons.1 ((h z).2 (by simp[hz])) with e|e
  ·subst e;exact absurd hz hx2
  exact e
def csT(out:List α)(x:α):List α:=if out.getLast?=some x then out else out++[x]
def cs(l:List α):List α:=l.foldl csT []
theorem aCe(l:List α)(x:α):cs (l++[x])=csT (cs l) x:=by simp[cs]
theorem aHv(out:List α)(x:α):(csT out x).length≤out.length+1:=by unfold csT;split<;>simp
theorem aER:∀(l:List α),(cs l).getLast?=l.getLast?:=by
 intro l
 rcases List.eq_nil_or_concat l with h|⟨m,x,h⟩
 ·subst h;rfl
 subst h
 rw[List.concat_eq_append,aCe,List.getLast?_append]
 unfold csT
 split
 ·rename_i e;rw[e];rfl
 rw[List.getLast?_append];simp
theorem aFJ(l:List α):∀out:List α,(l.foldl csT out).length≤out.length+l.length:=by
 induction l with
 |nil=>intro out;simp
 |cons x l ih=>
  intro out
  have:=ih (csT out x)
  have h2:=aHv out x
  simp only[List.foldl_cons,List.length_cons]
  omega
theorem aHY(l:List α):(cs l).length≤l.length:=by simpa [cs] using aFJ l []
theorem aAn(O:Ord lt):∀(l out:List α),Inc lt out→l.Pairwise (fun x y=>lt y x=false)→(∀z∈out,∀y∈l,lt y z=false)→Inc lt (l.foldl csT out)∧∀x,x∈l.foldl csT out↔x∈out∨x∈l
 | [],out,h,_,_=>⟨h,fun x=>by simp⟩
 |x::l,out,h,hs,hb=>by
  obtain⟨h1,h2⟩:=List.pairwise_cons.1 hs
  have key:Inc lt (csT out x)∧(∀z,z∈csT out x↔z∈out∨z=x):=by
   unfold csT
   split
   ·rename_i e
    refine⟨h,fun z=>⟨.inl,fun hz=>?_⟩⟩
    rcases hz with hz|rfl
    ·exact hz
    exact List.mem_of_getLast? e
   rename_i e
   refine⟨List.pairwise_append.2 ⟨h,by simp,fun z hz y hy=>?_⟩,fun z=>by simp⟩
   simp at hy
   subst hy
   cases ez:lt z y with
   |true=>rfl
   |false=>
    have hzy:=O.tot z y ez (hb z hz y (by simp))
    subst hzy
    --it stands in the list,and not at its end
    exfalso
    obtain⟨a,b,rfl⟩:=List.append_of_mem hz
    cases b with
    |nil=>exact e (by simp)
    |cons u b=>
     have h3:=(List.pairwise_append.1 h).2.1
     have h4:=(List.pairwise_cons.1 h3).1 u (by simp)
     have h5:=hb u (by simp) z (by simp)
     rw[h4] at h5
     cases h5
  obtain⟨k1,k2⟩:=key
  have:=aAn O l (csT out x) k1 h2 (fun z hz y hy=>by
   rcases(k2 z).1 hz with hz|rfl
   ·exact hb z hz y (by simp[hy])
   exact h1 y hy)
  refine⟨this.1,fun z=>?_⟩
  rw[List.foldl_cons,this.2,k2]
  simp[or_assoc]
theorem aHZ(O:Ord lt){l:List α}(hs:l.Pairwise fun x y=>lt y x=false):Inc lt (cs l)∧∀x,x∈cs l↔x∈l:=by
 have:=aAn O l [] List.Pairwise.nil hs (by simp)
 exact⟨this.1,fun x=>by rw[show cs l=l.foldl csT [] from rfl,this.2];simp⟩
def zV(lt:α→α→Bool):List α→α→List α
 | [],w=>[w]
 |x::l,w=>if lt x w=true then x::zV lt l w else if x=w then x::l else w::x::l
theorem aDa(l:List α)(w z:α):z∈zV lt l w↔z=w∨z∈l:=by
 induction l with
 |nil=>simp[zV]
 |cons x l ih=>
  unfold zV
  split
  ·simp only[List.mem_cons,ih]
   constructor
   ·rintro(h|h|h)
    ·exact .inr (.inl h)
    ·exact .inl h
    exact .inr (.inr h)
   rintro(h|h|h)
   ·exact .inr (.inl h)
   ·exact .inl h
   exact .inr (.inr h)
  split
  ·rename_i e
   subst e
   simp
  simp
theorem aGw(O:Ord lt){l:List α}(h:Inc lt l)(w:α):Inc lt (zV lt l w):=by
 induction l with
 |nil=>simp[zV,Inc]
 |cons x l ih=>
  obtain⟨h1,h2⟩:=List.pairwise_cons.1 h
  unfold zV
  split
  ·rename_i e
   refine List.pairwise_cons.2 ⟨fun y hy=>?_,ih h2⟩
   rcases(aDa l w y).1 hy with rfl|hy
   ·exact e
   exact h1 y hy
  rename_i e
  split
  ·exact h
  rename_i e2
  have hwx:lt w x=true:=by
   cases e3:lt w x with
   |true=>rfl
   |false=>exact absurd (O.tot x w (by simpa using e) e3) e2
  refine List.pairwise_cons.2 ⟨fun y hy=>?_,h⟩
  rcases List.mem_cons.1 hy with rfl|hy
  ·exact hwx
  exact O.trans _ _ _ hwx (h1 y hy)
def aBY(lt:α→α→Bool)(l:List α):List α:=l.foldl (zV lt) []
theorem qF(O:Ord lt):∀(l out:List α),Inc lt out→Inc lt (l.foldl (zV lt) out)∧∀z,z∈l.foldl (zV lt) out↔z∈out∨z∈l
 | [],out,h=>⟨h,fun z=>by simp⟩
 |x::l,out,h=>by
  have:=qF O l (zV lt out x) (aGw O h x)
  refine⟨this.1,fun z=>?_⟩
  rw[List.foldl_cons,this.2,aDa]
  simp only[List.mem_cons]
  constructor
  ·rintro((h|h)|h)
   ·exact .inr (.inl h)
   ·exact .inl h
   exact .inr (.inr h)
  rintro(h|h|h)
  ·exact .inl (.inr h)
  ·exact .inl (.inl h)
  exact .inr h
theorem aFy(O:Ord lt){l m:List α}(hp:m.Perm l)(hs:m.Pairwise fun x y=>lt y x=false):cs m=aBY lt l:=by
 have h1:=aHZ O hs
 have h2:=qF O l [] List.Pairwise.nil
 exact Inc.unique O h1.1 h2.1 fun z=>by rw[h1.2,show z∈aBY lt l↔_ from h2.2 z,hp.mem_iff];simp
end
end Go.Proofs.YthikfnmcjipobaaGreat
/-
slices.Compact,at whatever structs:equal neighbours as one,in the array that is handed over. No conditions.
-/
namespace Go.Proofs.YthikfnmcjipobaaGreat
open Go.Proofs.YthikfnmcjipobaaGreat renaming iW→uA,gV→uB,fA→uC,fB→uD,dO→uE,iZ→uF,fQ→uG,fC→uH,fD→uI,dP→uJ,fZ→uK,fP→uL,gZ→uM,jS→uN,gB→uO,bT→uP,kK→uQ,iY→uR,gE→uS
open Nat renaming reduceAdd→jA,reduceSub→jB,reduceLT→jC,reduceLeDiff→jD,reduceEqDiff→jE
open Int renaming reduceToNat→jF,toNat_natCast→jG,natCast_add→jH,natCast_one→jI,natCast_zero→jJ
open List renaming length_map→jK,length_cons→jL,length_nil→jM,replicate_succ→jN,replicate_zero→jO,cons_append→jP,nil_append→jQ
set_option linter.unusedSimpArgs false
set_option linter.unusedVariables false
set_option linter.unusedSectionVars false
open Go.RowKit Go.Sort
attribute [local irreducible] IntKind.wrap
attribute [local go_sem] Option.some.injEq Prod.mk.injEq false_and and_false Bool.true_eq_false mP jR jX gG iV if_true Bool.true_and mF dS iH gL dQ aA.ok aA.next LOp.ok LOp.next bC.ok bC.out aQ.ev bN iI cH bO cO V.undef Sh.size gH fW cK aA.dok aA.dres LOp.dok LOp.dout lI iD gI eX List.take_succ_cons List.take_zero List.take_nil List.drop_succ_cons List.drop_zero List.drop_nil List.set_cons_succ List.set_cons_zero List.getD_cons_succ List.getD_cons_zero jL jM List.map_cons List.map_nil List.all_cons List.all_nil List.mem_cons List.not_mem_nil jN jO jP jQ List.append_nil List.isEmpty_cons List.isEmpty_nil dW fJ hM Option.getD_some Option.isSome_some Option.isSome_none Nat.add_eq Nat.zero_add Nat.add_zero true_and and_true and_self true_implies implies_true false_implies forall_const forall_eq forall_eq_or_imp ne_eq not_false_eq_true not_true_eq_false Bool.not_true Bool.not_false decide_true decide_false Bool.and_true Bool.true_and Bool.and_false Bool.false_and true_or or_true false_or or_false eq_self Bool.false_eq_true mK iO gC aD fH eT eB dU cL dT aZ aX dN jG Int.toNat_zero List.take_length Hp.set_app Hp.del_app gW fV aA.plain LOp.isCall aA.dplain LOp.isStop eM kT gY lY fN V.gd_true V.gd_false fM eK eL fL bG aY aU fK eS beq_true beq_false dD dE dF cB cC bH bI cP eQ cE dK dH bJ dI dL eN eO bK dJ bF cD eP bP dG bQ bB gQ gO gP gN dM cG dX cR eG eF eE eD eC bX bW cZ cY cX cA bZ bY eJ eI eH dC dB dA cQ cF bS kM Hp.turn fT Option.isNone_some Option.isNone_none oL gF fO aA.plain2 LOp.isApp oM lP lQ iQ fS fR
namespace LB
abbrev Compact_r0(k:Sh):List aA:=[
 ⟨some 2,none, .val (.move (.const (.sl k .nil [])))⟩]
abbrev Compact_r1:List aA:=[
 ⟨some 6,none, .val (.move (.slot 0))⟩,
 ⟨some 7,none, .val (.len (.slot 6))⟩,
 ⟨some 8,none, .val (.bin .lss (.slot 7) (.const (.int .i64 2)))⟩]
abbrev Compact_r2:List aA:=[
 ⟨some 9,none, .val (.move (.slot 0))⟩,
 ⟨some 2,none, .val (.move (.slot 9))⟩]
abbrev Compact_r3:List aA:=[
 ⟨some 3,none, .val (.move (.const (.int .i64 1)))⟩]
abbrev Compact_r4:List aA:=[
 ⟨some 10,none, .val (.move (.slot 3))⟩,
 ⟨some 11,none, .val (.move (.slot 0))⟩,
 ⟨some 12,none, .val (.len (.slot 11))⟩,
 ⟨some 13,none, .val (.bin .lss (.slot 10) (.slot 12))⟩]
abbrev Compact_r5(k:Sh)(e:uT):List (aA×List Nat):=[
 (⟨some 16,none, .val (.move (.slot 0))⟩,[]),
 (⟨some 17,none, .val (.move (.slot 3))⟩,[]),
 (⟨some 18,none, .val (.idxA k (.slot 16) (.slot 17))⟩,[0,1]),
 (⟨some 19,none, .val (.load k (.slot 18))⟩,[0,1,2]),
 (⟨some 20,none, .val (.move (.slot 0))⟩,[]),
 (⟨some 21,none, .val (.move (.slot 3))⟩,[]),
 (⟨some 22,none, .val (.bin .sub (.slot 21) (.const (.int .i64 1)))⟩,[5]),
 (⟨some 23,none, .val (.idxA k (.slot 20) (.slot 22))⟩,[4,5,6]),
 (⟨some 24,none, .val (.load k (.slot 23))⟩,[4,5,6,7]),
 (⟨some 25,none, .val (.eq false e (.slot 19) (.slot 24))⟩,[0,1,2,3,4,5,6,7,8])]
abbrev Compact_r5t:List aA:=[]
abbrev Compact_r6(k:Sh):List aA:=[
 ⟨some 26,none, .val (.move (.slot 0))⟩,
 ⟨some 27,none, .val (.move (.slot 3))⟩,
 ⟨some 28,none, .val (.slc k (.slot 26) (.some (.slot 27)) .none .none)⟩,
 ⟨some 4,none, .val (.move (.slot 28))⟩]
abbrev Compact_r7:List aA:=[
 ⟨some 5,none, .val (.move (.const (.int .i64 1)))⟩]
abbrev Compact_r8:List aA:=[
 ⟨some 29,none, .val (.move (.slot 5))⟩,
 ⟨some 30,none, .val (.move (.slot 4))⟩,
 ⟨some 31,none, .val (.len (.slot 30))⟩,
 ⟨some 32,none, .val (.bin .lss (.slot 29) (.slot 31))⟩]
abbrev Compact_r9(k:Sh)(e:uT):List (aA×List Nat):=[
 (⟨some 35,none, .val (.move (.slot 4))⟩,[]),
 (⟨some 36,none, .val (.move (.slot 5))⟩,[]),
 (⟨some 37,none, .val (.idxA k (.slot 35) (.slot 36))⟩,[0,1]),
 (⟨some 38,none, .val (.load k (.slot 37))⟩,[0,1,2]),
 (⟨some 39,none, .val (.move (.slot 4))⟩,[]),
 (⟨some 40,none, .val (.move (.slot 5))⟩,[]),
 (⟨some 41,none, .val (.bin .sub (.slot 40) (.const (.int .i64 1)))⟩,[5]),
 (⟨some 42,none, .val (.idxA k (.slot 39) (.slot 41))⟩,[4,5,6]),
 (⟨some 43,none, .val (.load k (.slot 42))⟩,[4,5,6,7]),
 (⟨some 44,none, .val (.eq true e (.slot 38) (.slot 43))⟩,[0,1,2,3,4,5,6,7,8])]
abbrev Compact_r9t:List aA:=[]
abbrev Compact_r10(k:Sh):List aA:=[
 ⟨some 45,none, .val (.move (.slot 0))⟩,
 ⟨some 46,none, .val (.move (.slot 3))⟩,
 ⟨some 47,none, .val (.move (.slot 4))⟩,
 ⟨some 48,none, .val (.move (.slot 5))⟩,
 ⟨some 49,none, .val (.idxA k (.slot 47) (.slot 48))⟩,
 ⟨some 50,none, .val (.load k (.slot 49))⟩,
 ⟨some 51,none, .val (.idxA k (.slot 45) (.slot 46))⟩,
 ⟨none,none, .store k (.slot 51) (.slot 50)⟩]
abbrev Compact_r11:List aA:=[
 ⟨some 52,none, .val (.move (.slot 3))⟩,
 ⟨some 53,none, .val (.bin .add (.slot 52) (.const (.int .i64 1)))⟩,
 ⟨some 3,none, .val (.move (.slot 53))⟩]
abbrev Compact_r12:List aA:=[
 ⟨some 33,none, .val (.move (.slot 5))⟩,
 ⟨some 34,none, .val (.bin .add (.slot 33) (.const (.int .i64 1)))⟩,
 ⟨some 5,none, .val (.move (.slot 34))⟩]
abbrev Compact_l0(k:Sh)(e:uT):cU:=(.seq (.seq (.ops Compact_r8) (.cond (.slot 32) .skip (.exit 2))) (.seq (.block 3 (.seq (.draw 10 (Compact_r9 k e) Compact_r9t) (.cond (.slot 44) (.seq (.ops (Compact_r10 k)) (.ops Compact_r11)) .skip))) (.ops Compact_r12)))
abbrev Compact_r13(k:Sh)(z:V):List aA:=[
 ⟨some 54,none, .val (.move (.slot 0))⟩,
 ⟨some 55,none, .val (.move (.slot 3))⟩,
 ⟨some 56,none, .val (.slc k (.slot 54) (.some (.slot 55)) .none .none)⟩,
 ⟨none,none, .clear k (.slot 56) z⟩]
abbrev Compact_r14(k:Sh):List aA:=[
 ⟨some 57,none, .val (.move (.slot 0))⟩,
 ⟨some 58,none, .val (.move (.slot 3))⟩,
 ⟨some 59,none, .val (.slc k (.slot 57) .none (.some (.slot 58)) .none)⟩,
 ⟨some 2,none, .val (.move (.slot 59))⟩]
abbrev Compact_r15:List aA:=[
 ⟨some 14,none, .val (.move (.slot 3))⟩,
 ⟨some 15,none, .val (.bin .add (.slot 14) (.const (.int .i64 1)))⟩,
 ⟨some 3,none, .val (.move (.slot 15))⟩]
abbrev Compact_l1(k:Sh)(z:V)(e:uT):cU:=(.seq (.seq (.ops Compact_r4) (.cond (.slot 13) .skip (.exit 0))) (.seq (.block 1 (.seq (.draw 10 (Compact_r5 k e) Compact_r5t) (.cond (.slot 25) (.seq (.ops (Compact_r6 k)) (.seq (.seq (.ops Compact_r7) (.block 2 (.loop (Compact_l0 k e)))) (.seq (.ops (Compact_r13 k z)) (.seq (.ops (Compact_r14 k)) .ret)))) .skip))) (.ops Compact_r15)))
abbrev Compact_r16:List aA:=[
 ⟨some 60,none, .val (.move (.slot 0))⟩,
 ⟨some 2,none, .val (.move (.slot 60))⟩]
def Compact(k:Sh)(z:V)(e:uT):LFn:=⟨(.seq (.ops (Compact_r0 k)) (.seq (.seq (.ops Compact_r1) (.cond (.slot 8) (.seq (.ops Compact_r2) .ret) .skip)) (.seq (.seq (.ops Compact_r3) (.block 0 (.loop (Compact_l1 k z e)))) (.seq (.ops Compact_r16) .ret)))),61,[.slot 2]⟩
end LB
section
variable{P:Program}{α:Type} [DecidableEq α] [Inhabited α](e:α→V){k:Sh}{z:V}{q:uT}
theorem aGK{out:List α}{x:α}(h:out.getLast?=some x):csT out x=out:=by unfold csT;rw[if_pos h]
theorem aHu{out:List α}{x y:α}(h:out.getLast?=some y)(hne:x≠y):csT out x=out++[x]:=by
 unfold csT
 rw[if_neg]
 rw[h]
 intro e2
 injection e2 with e2
 exact hne e2.symm
theorem vX(ds:List α)(j:Nat)(h1:0<j)(h2:j<ds.length)(he:ds[j]=ds[j-1]):cs (ds.take (j+1))=cs (ds.take j):=by
 rw[List.take_succ_eq_append_getElem h2,aCe]
 refine aGK ?_
 rw[aER,List.getLast?_eq_getElem?,List.getElem?_take,if_pos (by simp;omega),List.length_take,he,show min j ds.length-1=j-1 by omega,List.getElem?_eq_getElem (by omega)]
theorem xT(ds:List α)(j:Nat)(h1:0<j)(h2:j<ds.length)(he:ds[j]≠ds[j-1]):cs (ds.take (j+1))=cs (ds.take j)++[ds[j]]:=by
 rw[List.take_succ_eq_append_getElem h2,aCe]
 refine aHu (y:=ds[j-1]) ?_ he
 rw[aER,List.getLast?_eq_getElem?,List.getElem?_take,if_pos (by simp;omega),List.length_take,show min j ds.length-1=j-1 by omega,List.getElem?_eq_getElem (by omega)]
set_option maxHeartbeats 1000000 in
theorem aAR{f:Nat}(hL:aH P f=some (LB.Compact k z q))(hz:z.fits k=true)(hfit:∀x,(e x).fits k=true)(heq:∀x y,veq q (e x) (e y)=some (decide (x=y)))(n:Nat)(ds:List α)(hlen:ds.length≤1000000)(h:Hp)(nx:Nat)(hn:h n=some (.arr k (ds.map e))):
 bM P f [.rs n k 0 ds.length] h nx fun v h' _=>∃off len es,v= .rs n k off len∧off+len≤es.length∧h'=h.set n (.arr k es)∧(es.drop off).take len=(cs ds).map e:=by
 have hsetn:h.set n (.arr k (ds.map e))=h:=by
  funext x
  unfold Hp.set
  split
  ·rename_i hx;rw[hx,hn]
  rfl
 have hall:∀hp:Hp,hp=h→cs ds=ds→∃off len es,V.rs n k 0 ds.length= .rs n k off len∧off+len≤es.length∧hp=h.set n (.arr k es)∧(es.drop off).take len=(cs ds).map e:=by
  rintro hp rfl hc
  exact⟨0,ds.length,ds.map e,rfl,by simp,hsetn.symm,by rw[hc,List.drop_zero];exact List.take_of_length_le (by simp)⟩
 refine aG hL fun hd=>?_
 simp only[jL,jM,jA,jB,jN,jO,jP,jQ,V.undef]
 rcases Nat.lt_or_ge ds.length 2 with h2|h2
 ·have hc:decide ((ds.length:Int)<2)=true:=decide_eq_true (by omega)
  (repeat' (first|(with_reducible first|refine stp ?_|refine uP (by decide) ?_|refine uQ (fun _=>?_) (fun _=>?_))|((first|(with_reducible refine uA ?_;first|refine uB rfl ?_ ?_|(first|refine uC rfl ?_|refine uD rfl ?_)|refine uE rfl ?_)|(with_reducible refine uF ?_;first|refine uG rfl ?_ ?_|(first|refine uH rfl ?_|refine uI rfl ?_)|refine uJ rfl ?_|refine uK (uL ?_)|refine uK (uM ?_))|(with_reducible refine uN ?_;refine uO rfl ?_))<;>try simp only[hc,go_sem,reduceIte,jA,jB,jC,jD,reduceCtorEq,jE,jF])|(with_reducible refine uR ?_;refine uS rfl ?_)|omega))
  refine aM h (Hp.le_refl _) ?_
  simp only[go_sem,reduceIte,jA,jB,jC,jD,reduceCtorEq,jE,jF]
  refine hall h rfl ?_
  match ds,h2 with
  | [],_=>rfl
  | [x],_=>rfl
 have hc:decide ((ds.length:Int)<2)=false:=decide_eq_false (by omega)
 (repeat' (first|(with_reducible first|refine stp ?_|refine uP (by decide) ?_|refine uQ (fun _=>?_) (fun _=>?_))|((first|(with_reducible refine uA ?_;first|refine uB rfl ?_ ?_|(first|refine uC rfl ?_|refine uD rfl ?_)|refine uE rfl ?_)|(with_reducible refine uF ?_;first|refine uG rfl ?_ ?_|(first|refine uH rfl ?_|refine uI rfl ?_)|refine uJ rfl ?_|refine uK (uL ?_)|refine uK (uM ?_))|(with_reducible refine uN ?_;refine uO rfl ?_))<;>try simp only[hc,go_sem,reduceIte,jA,jB,jC,jD,reduceCtorEq,jE,jF])|(with_reducible refine uR ?_;refine uS rfl ?_)|omega))
 refine cI (fun i:Nat=>aD 61 0 [(0, .rs n k 0 ds.length),(3, .int .i64 i)]) (fun i hp _=>1≤i∧i≤ds.length∧hp=h∧cs (ds.take i)=ds.take i) (fun i=>ds.length-i) 1 ⟨Nat.le_refl _,by omega,rfl,?_⟩ ?_ ?_
 ·match ds,h2 with
  |x::l,_=>rfl
 ·simp only[WkL,aD,jH,jI,jJ,go_sem,reduceIte,jA,jB,jC,jD,reduceCtorEq,jE,jF]
 rintro i hp nx1 ⟨hi1,hi,rfl,hcs⟩
 generalize hQ:fF _ _ _ _ _=Q0
 simp only[aD,go_sem,reduceIte,jA,jB,jC,jD,reduceCtorEq,jE,jF]
 rcases Nat.lt_or_ge i ds.length with hlt|hge
 ·have hc:decide ((i:Int)<(ds.length:Int))=true:=decide_eq_true (by omega)
  have hg:=fE e ds i hlt
  have hg1:=fE e ds (i-1) (by omega)
  have hw1:IntKind.i64.wrap ((i:Int)-1)=((i-1:Nat):Int):=by rw[cS]<;>omega
  have hw:IntKind.i64.wrap ((i:Int)+1)=((i+1:Nat):Int):=by rw[cS]<;>omega
  have hlt1:i-1<ds.length:=by omega
  have hne:(i=ds.length)=False:=eq_false (by omega)
  (repeat' (first|(with_reducible first|refine stp ?_|refine uP (by decide) ?_|refine uQ (fun _=>?_) (fun _=>?_))|((first|(with_reducible refine uA ?_;first|refine uB rfl ?_ ?_|(first|refine uC rfl ?_|refine uD rfl ?_)|refine uE rfl ?_)|(with_reducible refine uF ?_;first|refine uG rfl ?_ ?_|(first|refine uH rfl ?_|refine uI rfl ?_)|refine uJ rfl ?_|refine uK (uL ?_)|refine uK (uM ?_))|(with_reducible refine uN ?_;refine uO rfl ?_))<;>try simp only[hc,hg,hg1,hw1,hw,hlt,hlt1,hn,hne,heq,hfit,jK,jG,go_sem,reduceIte,jA,jB,jC,jD,reduceCtorEq,jE,jF])|(with_reducible refine uR ?_;refine uS rfl ?_)|omega))
  ·rename_i hx
   have hx:ds[i]=ds[i-1]:=of_decide_eq_true hx
   refine cI (fun p:Nat×Nat×List α=>aD 61 0 [(0, .rs n k 0 ds.length),(3, .int .i64 p.1),(4, .rs n k i (ds.length-i)),(5, .int .i64 p.2.1)])
    (fun p hp2 _=>i≤p.1∧p.1+1≤i+p.2.1∧1≤p.2.1∧i+p.2.1≤ds.length∧p.2.2.length=ds.length∧p.2.2.take p.1=cs (ds.take (i+p.2.1))∧p.2.2.drop p.1=ds.drop p.1∧hp2 n=some (.arr k (p.2.2.map e))∧∀x,x≠n→hp2 x=hp x)
    (fun p=>ds.length-p.2.1) (i,1,ds) ⟨Nat.le_refl _,Nat.le_refl _,Nat.le_refl _,by dsimp only;omega,rfl,?_,rfl,hn,fun _ _=>rfl⟩ ?_ ?_
   ·dsimp only;rw[vX ds i (by omega) hlt hx,hcs]
   ·simp only[WkL,aD,jH,jI,jJ,go_sem,reduceIte,jA,jB,jC,jD,reduceCtorEq,jE,jF]
   rintro⟨m,k2,xs⟩ hp2 nx2 ⟨a1,a2,a3,a4,a5,a6,a7,a8,a9⟩
   generalize hQ2:fF _ _ _ _ _=Q2
   dsimp only at a1 a2 a3 a4 a5 a6 a7 a8
   simp only[aD,go_sem,reduceIte,jA,jB,jC,jD,reduceCtorEq,jE,jF]
   have hat:∀j,m≤j→(hj:j<ds.length)→xs[j]'(by omega)=ds[j]:=fun j hm hj=>by
    have e1:xs[j]'(by omega)=(xs.drop m)[j-m]'(by simp;omega):=by simp[show m+(j-m)=j by omega]
    have e2:ds[j]=(ds.drop m)[j-m]'(by simp;omega):=by simp[show m+(j-m)=j by omega]
    rw[e1,e2]
    congr 1
   rcases Nat.lt_or_ge k2 (ds.length-i) with hlt2|hge2
   ·have hcc:decide ((k2:Int)<((ds.length-i:Nat):Int))=true:=decide_eq_true (by omega)
    have hj:i+k2<ds.length:=by omega
    have g1:(xs.map e).getD (i+k2) (.tup [])=e ds[i+k2]:=by rw[fE e xs (i+k2) (by omega),hat _ (by omega) hj]
    have g2:(xs.map e).getD (i+(k2-1)) (.tup [])=e ds[i+k2-1]:=by
     rw[fE e xs (i+(k2-1)) (by omega)]
     rw[show e xs[i+(k2-1)]=e (xs[i+k2-1]'(by omega)) by congr 2;omega,hat _ (by omega) (by omega)]
    have w1:IntKind.i64.wrap ((k2:Int)-1)=((k2-1:Nat):Int):=by rw[cS]<;>omega
    have w2:IntKind.i64.wrap ((k2:Int)+1)=((k2+1:Nat):Int):=by rw[cS]<;>omega
    have w3:IntKind.i64.wrap ((m:Int)+1)=((m+1:Nat):Int):=by rw[cS]<;>omega
    have b1:i+(k2-1)<ds.length:=by omega
    have b2:k2-1<ds.length-i:=by omega
    have b3:m<ds.length:=by omega
    (repeat' (first|(with_reducible first|refine stp ?_|refine uP (by decide) ?_|refine uQ (fun _=>?_) (fun _=>?_))|((first|(with_reducible refine uA ?_;first|refine uB rfl ?_ ?_|(first|refine uC rfl ?_|refine uD rfl ?_)|refine uE rfl ?_)|(with_reducible refine uF ?_;first|refine uG rfl ?_ ?_|(first|refine uH rfl ?_|refine uI rfl ?_)|refine uJ rfl ?_|refine uK (uL ?_)|refine uK (uM ?_))|(with_reducible refine uN ?_;refine uO rfl ?_))<;>try simp only[hcc,g1,g2,w1,w2,w3,hj,b1,b2,b3,hlt2,a8,a5,heq,hfit,jK,jG,go_sem,reduceIte,jA,jB,jC,jD,reduceCtorEq,jE,jF])|(with_reducible refine uR ?_;refine uS rfl ?_)|omega))
    ·rename_i hy
     have hy:ds[i+k2]≠ds[i+k2-1]:=by simpa using hy
     rw[←hQ2]
     refine aL (m+1,k2+1,xs.set m ds[i+k2]) (by dsimp only;omega) ⟨by dsimp only;omega,by dsimp only;omega,by dsimp only;omega,by dsimp only;omega,by simpa using a5,?_,?_,?_,?_⟩ ?_
     ·dsimp only
      rw[show i+(k2+1)=(i+k2)+1 by omega,xT ds (i+k2) (by omega) hj hy,←a6,List.take_succ_eq_append_getElem (by simp;omega),List.getElem_set_self,List.take_set_of_le (Nat.le_refl _)]
     ·dsimp only
      rw[List.drop_set_of_lt (by omega)]
      have:=congrArg (List.drop 1) a7
      rwa [List.drop_drop,List.drop_drop] at this
     ·simp only[go_sem,reduceIte,jA,jB,jC,jD,reduceCtorEq,jE,jF]
      rw[List.map_set,fE e xs m (by omega),aU (hfit _) (hfit _)]
     ·intro x hx
      simp only[hx,go_sem,reduceIte,jA,jB,jC,jD,reduceCtorEq,jE,jF]
      exact a9 x hx
     simp only[WkL,aD,jH,jI,jJ,go_sem,reduceIte,jA,jB,jC,jD,reduceCtorEq,jE,jF]
    rename_i hy
    have hy:ds[i+k2]=ds[i+k2-1]:=by simpa using hy
    rw[←hQ2]
    refine aL (m,k2+1,xs) (by dsimp only;omega) ⟨a1,by dsimp only;omega,by dsimp only;omega,by dsimp only;omega,a5,?_,a7,a8,a9⟩ ?_
    ·dsimp only
     rw[show i+(k2+1)=(i+k2)+1 by omega,vX ds (i+k2) (by omega) hj hy,a6]
    simp only[WkL,aD,jH,jI,jJ,go_sem,reduceIte,jA,jB,jC,jD,reduceCtorEq,jE,jF]
   have hcc:decide ((k2:Int)<((ds.length-i:Nat):Int))=false:=decide_eq_false (by omega)
   have hend:i+k2=ds.length:=by omega
   rw[hend,List.take_length] at a6
   have hm1:m<ds.length:=by omega
   have hml:(m=ds.length)=False:=eq_false (by omega)
   (repeat' (first|(with_reducible first|refine stp ?_|refine uP (by decide) ?_|refine uQ (fun _=>?_) (fun _=>?_))|((first|(with_reducible refine uA ?_;first|refine uB rfl ?_ ?_|(first|refine uC rfl ?_|refine uD rfl ?_)|refine uE rfl ?_)|(with_reducible refine uF ?_;first|refine uG rfl ?_ ?_|(first|refine uH rfl ?_|refine uI rfl ?_)|refine uJ rfl ?_|refine uK (uL ?_)|refine uK (uM ?_))|(with_reducible refine uN ?_;refine uO rfl ?_))<;>try simp only[hcc,go_sem,reduceIte,jA,jB,jC,jD,reduceCtorEq,jE,jF])|(with_reducible refine uR ?_;refine uS rfl ?_)|omega))
   rw[←hQ2]
   (repeat' (first|(with_reducible first|refine stp ?_|refine uP (by decide) ?_|refine uQ (fun _=>?_) (fun _=>?_))|((first|(with_reducible refine uA ?_;first|refine uB rfl ?_ ?_|(first|refine uC rfl ?_|refine uD rfl ?_)|refine uE rfl ?_)|(with_reducible refine uF ?_;first|refine uG rfl ?_ ?_|(first|refine uH rfl ?_|refine uI rfl ?_)|refine uJ rfl ?_|refine uK (uL ?_)|refine uK (uM ?_))|(with_reducible refine uN ?_;refine uO rfl ?_))<;>try simp only[hml,hm1,a8,a5,hz,jK,jG,go_sem,reduceIte,jA,jB,jC,jD,reduceCtorEq,jE,jF])|(with_reducible refine uR ?_;refine uS rfl ?_)|omega))
   rw[←hQ]
   (repeat' (first|(with_reducible first|refine stp ?_|refine uP (by decide) ?_|refine uQ (fun _=>?_) (fun _=>?_))|((first|(with_reducible refine uA ?_;first|refine uB rfl ?_ ?_|(first|refine uC rfl ?_|refine uD rfl ?_)|refine uE rfl ?_)|(with_reducible refine uF ?_;first|refine uG rfl ?_ ?_|(first|refine uH rfl ?_|refine uI rfl ?_)|refine uJ rfl ?_|refine uK (uL ?_)|refine uK (uM ?_))|(with_reducible refine uN ?_;refine uO rfl ?_))<;>try simp only[ go_sem,reduceIte,jA,jB,jC,jD,reduceCtorEq,jE,jF])|(with_reducible refine uR ?_;refine uS rfl ?_)|omega))
   refine aM _ (Hp.le_refl _) ⟨0,m,(xs.map e).take m++List.replicate (ds.length-m) z++(xs.map e).drop (m+(ds.length-m)),?_,?_,?_,?_⟩
   ·simp only[Nat.sub_zero,go_sem,reduceIte,jA,jB,jC,jD,reduceCtorEq,jE,jF]
   ·simp;omega
   ·funext x
    by_cases hx:x=n
    ·subst hx;simp only[go_sem,reduceIte,jA,jB,jC,jD,reduceCtorEq,jE,jF]
    simp only[hx,go_sem,reduceIte,jA,jB,jC,jD,reduceCtorEq,jE,jF];exact a9 x hx
   rw[List.drop_zero,List.append_assoc,List.take_append_of_le_length (by simp;omega),List.take_take,Nat.min_self,←List.map_take,a6]
  rename_i hx
  have hx:ds[i]≠ds[i-1]:=of_decide_eq_false hx
  rw[←hQ]
  refine aL (i+1) (by omega) ⟨by omega,by omega,rfl,?_⟩ ?_
  ·rw[xT ds i (by omega) hlt hx,hcs,←List.take_succ_eq_append_getElem hlt]
  simp only[WkL,aD,jH,jI,jJ,go_sem,reduceIte,jA,jB,jC,jD,reduceCtorEq,jE,jF]
 have hc:decide ((i:Int)<(ds.length:Int))=false:=decide_eq_false (by omega)
 (repeat' (first|(with_reducible first|refine stp ?_|refine uP (by decide) ?_|refine uQ (fun _=>?_) (fun _=>?_))|((first|(with_reducible refine uA ?_;first|refine uB rfl ?_ ?_|(first|refine uC rfl ?_|refine uD rfl ?_)|refine uE rfl ?_)|(with_reducible refine uF ?_;first|refine uG rfl ?_ ?_|(first|refine uH rfl ?_|refine uI rfl ?_)|refine uJ rfl ?_|refine uK (uL ?_)|refine uK (uM ?_))|(with_reducible refine uN ?_;refine uO rfl ?_))<;>try simp only[hc,go_sem,reduceIte,jA,jB,jC,jD,reduceCtorEq,jE,jF])|(with_reducible refine uR ?_;refine uS rfl ?_)|omega))
 rw[←hQ]
 (repeat' (first|(with_reducible first|refine stp ?_|refine uP (by decide) ?_|refine uQ (fun _=>?_) (fun _=>?_))|((first|(with_reducible refine uA ?_;first|refine uB rfl ?_ ?_|(first|refine uC rfl ?_|refine uD rfl ?_)|refine uE rfl ?_)|(with_reducible refine uF ?_;first|refine uG rfl ?_ ?_|(first|refine uH rfl ?_|refine uI rfl ?_)|refine uJ rfl ?_|refine uK (uL ?_)|refine uK (uM ?_))|(with_reducible refine uN ?_;refine uO rfl ?_))<;>try simp only[ go_sem,reduceIte,jA,jB,jC,jD,reduceCtorEq,jE,jF])|(with_reducible refine uR ?_;refine uS rfl ?_)|omega))
 refine aM hp (Hp.le_refl _) ?_
 simp only[go_sem,reduceIte,jA,jB,jC,jD,reduceCtorEq,jE,jF]
 refine hall hp rfl ?_
 rw[show i=ds.length by omega,List.take_length] at hcs
 exact hcs
end
/-
slices.IndexFunc,ContainsFunc,Clone,DeleteFunc at an array that the caller owns. No conditions.
-/
namespace LB
abbrev DeleteFunc_r0(k:Sh):List aA:=[
 ⟨some 4,none, .val (.move (.const (.sl k .nil [])))⟩]
abbrev DeleteFunc_r1(f0:Nat):List aA:=[
 ⟨some 8,none, .val (.move (.slot 0))⟩,
 ⟨some 9,none, .val (.move (.slot 1))⟩,
 ⟨some 10,none, .call f0 [(.slot 8),(.slot 9)]⟩,
 ⟨some 5,none, .val (.move (.slot 10))⟩]
abbrev DeleteFunc_r2:List aA:=[
 ⟨some 11,none, .val (.move (.slot 5))⟩,
 ⟨some 12,none, .val (.bin .eql (.slot 11) (.const (.int .i64 (-1))))⟩]
abbrev DeleteFunc_r3:List aA:=[
 ⟨some 13,none, .val (.move (.slot 0))⟩,
 ⟨some 4,none, .val (.move (.slot 13))⟩]
abbrev DeleteFunc_r4:List aA:=[
 ⟨some 14,none, .val (.move (.slot 5))⟩,
 ⟨some 15,none, .val (.bin .add (.slot 14) (.const (.int .i64 1)))⟩,
 ⟨some 6,none, .val (.move (.slot 15))⟩]
abbrev DeleteFunc_r5:List aA:=[
 ⟨some 16,none, .val (.move (.slot 6))⟩,
 ⟨some 17,none, .val (.move (.slot 0))⟩,
 ⟨some 18,none, .val (.len (.slot 17))⟩,
 ⟨some 19,none, .val (.bin .lss (.slot 16) (.slot 18))⟩]
abbrev DeleteFunc_r6(k:Sh)(z:V):List aA:=[
 ⟨some 22,none, .val (.move (.slot 0))⟩,
 ⟨some 23,none, .val (.move (.slot 6))⟩,
 ⟨some 24,none, .val (.idxA k (.slot 22) (.slot 23))⟩,
 ⟨some 25,none, .val (.load k (.slot 24))⟩,
 ⟨some 7,none, .box k (.const z)⟩,
 ⟨none,none, .store k (.slot 7) (.slot 25)⟩]
abbrev DeleteFunc_r7(k:Sh):List aA:=[
 ⟨some 26,none, .val (.move (.slot 1))⟩,
 ⟨some 27,none, .val (.load k (.slot 7))⟩,
 ⟨some 28,none, .callv (.slot 26) [(.slot 27)]⟩,
 ⟨some 29,none, .val (.not (.slot 28))⟩]
abbrev DeleteFunc_r8(k:Sh):List aA:=[
 ⟨some 30,none, .val (.move (.slot 0))⟩,
 ⟨some 31,none, .val (.move (.slot 5))⟩,
 ⟨some 32,none, .val (.load k (.slot 7))⟩,
 ⟨some 33,none, .val (.idxA k (.slot 30) (.slot 31))⟩,
 ⟨none,none, .store k (.slot 33) (.slot 32)⟩]
abbrev DeleteFunc_r9:List aA:=[
 ⟨some 34,none, .val (.move (.slot 5))⟩,
 ⟨some 35,none, .val (.bin .add (.slot 34) (.const (.int .i64 1)))⟩,
 ⟨some 5,none, .val (.move (.slot 35))⟩]
abbrev DeleteFunc_r10:List aA:=[
 ⟨some 20,none, .val (.move (.slot 6))⟩,
 ⟨some 21,none, .val (.bin .add (.slot 20) (.const (.int .i64 1)))⟩,
 ⟨some 6,none, .val (.move (.slot 21))⟩]
abbrev DeleteFunc_l0(k:Sh)(z:V):cU:=(.seq (.seq (.ops DeleteFunc_r5) (.cond (.slot 19) .skip (.exit 0))) (.seq (.block 1 (.seq (.ops (DeleteFunc_r6 k z)) (.seq (.ops (DeleteFunc_r7 k)) (.cond (.slot 29) (.seq (.ops (DeleteFunc_r8 k)) (.ops DeleteFunc_r9)) .skip)))) (.ops DeleteFunc_r10)))
abbrev DeleteFunc_r11(k:Sh)(z:V):List aA:=[
 ⟨some 36,none, .val (.move (.slot 0))⟩,
 ⟨some 37,none, .val (.move (.slot 5))⟩,
 ⟨some 38,none, .val (.slc k (.slot 36) (.some (.slot 37)) .none .none)⟩,
 ⟨none,none, .clear k (.slot 38) z⟩]
abbrev DeleteFunc_r12(k:Sh):List aA:=[
 ⟨some 39,none, .val (.move (.slot 0))⟩,
 ⟨some 40,none, .val (.move (.slot 5))⟩,
 ⟨some 41,none, .val (.slc k (.slot 39) .none (.some (.slot 40)) .none)⟩,
 ⟨some 4,none, .val (.move (.slot 41))⟩]
def DeleteFunc(k:Sh)(z:V)(f0:Nat):LFn:=⟨(.seq (.ops (DeleteFunc_r0 k)) (.seq (.ops (DeleteFunc_r1 f0)) (.seq (.seq (.ops DeleteFunc_r2) (.cond (.slot 12) (.seq (.ops DeleteFunc_r3) .ret) .skip)) (.seq (.seq (.ops DeleteFunc_r4) (.block 0 (.loop (DeleteFunc_l0 k z)))) (.seq (.ops (DeleteFunc_r11 k z)) (.seq (.ops (DeleteFunc_r12 k)) .ret)))))),42,[.slot 4]⟩
end LB
theorem aGz{hc h:Hp}{n:Nat}(hh:Hp.has hc h)(hn:hc n=none)(b:Blk):Hp.has hc (h.set n b):=fun m k e hb=>by
 unfold Hp.set
 rw[if_neg (fun e2=>by rw[e2,hn] at e;cases e)]
 exact hh m k e hb
section
variable{P:Program}{α:Type} [Inhabited α](e:α→V){k:Sh}{z:V}
theorem qG{f:Nat}(hfit:∀x,(e x).fits k=true)(hL:aH P f=some (LB.IndexFunc k))(p:α→Bool)(n:Nat)(l:List α)(g:Nat)(caps:List V)(h:Hp)(hn:h n=some (.arr k (l.map e)))(hp:∀x∈l,cM P g ([e x]++caps) h (.bool (p x)))(hl:l.length≤1000000000):
 cM P f [.rs n k 0 l.length, .fn (.func g) [] caps] h (.int .i64 (iX p l)):=by
 refine bL (fun L=>trivial) fun h' nx hh=>aG hL fun hd=>?_
 have hn':=hh n _ hn rfl
 simp only[jL,jM,jA,jB,jN,jO,jP,jQ,V.undef]
 (repeat' (first|(with_reducible first|refine stp ?_|refine uP (by decide) ?_|refine uQ (fun _=>?_) (fun _=>?_))|((first|(with_reducible refine uA ?_;first|refine uB rfl ?_ ?_|(first|refine uC rfl ?_|refine uD rfl ?_)|refine uE rfl ?_)|(with_reducible refine uF ?_;first|refine uG rfl ?_ ?_|(first|refine uH rfl ?_|refine uI rfl ?_)|refine uJ rfl ?_|refine uK (uL ?_)|refine uK (uM ?_))|(with_reducible refine uN ?_;refine uO rfl ?_))<;>try simp only[ go_sem,reduceIte,jA,jB,jC,jD,reduceCtorEq,jE,jF])|(with_reducible refine uR ?_;refine uS rfl ?_)|omega))
 refine cI (fun i:Nat=>aD 19 0 [(0, .rs n k 0 l.length),(1, .fn (.func g) [] caps),(7, .int .i64 l.length),(8, .int .i64 i)]) (fun i hp2 _=>i≤l.length∧hp2=h'∧∀x∈l.take i,p x=false) (fun i=>l.length-i) 0 ⟨Nat.zero_le _,rfl,by simp⟩ ?_ ?_
 ·simp only[WkL,aD,jH,jI,jJ,go_sem,reduceIte,jA,jB,jC,jD,reduceCtorEq,jE,jF]
 rintro i hp2 nx1 ⟨hi,rfl,hno⟩
 generalize hQ:fF _ _ _ _ _=Q0
 simp only[aD,go_sem,reduceIte,jA,jB,jC,jD,reduceCtorEq,jE,jF]
 rcases Nat.lt_or_ge i l.length with hlt|hge
 ·have hc:decide ((i:Int)<(l.length:Int))=true:=decide_eq_true (by omega)
  have hg:=fE e l i hlt
  have hw:IntKind.i64.wrap ((i:Int)+1)=((i+1:Nat):Int):=by rw[cS]<;>omega
  have htk:l.take (i+1)=l.take i++[l[i]]:=List.take_succ_eq_append_getElem hlt
  (repeat' (first|(with_reducible first|refine stp ?_|refine uP (by decide) ?_|refine uQ (fun _=>?_) (fun _=>?_))|((first|(with_reducible refine uA ?_;first|refine uB rfl ?_ ?_|refine qB rfl (hp l[i] (List.getElem_mem _)) (by simp only[go_sem,reduceIte,jA,jB,jC,jD,reduceCtorEq,jE,jF]) hh ?_|(first|refine uC rfl ?_|refine uD rfl ?_)|refine uE rfl ?_)|(with_reducible refine uF ?_;first|refine uG rfl ?_ ?_|(first|refine uH rfl ?_|refine uI rfl ?_)|refine uJ rfl ?_|refine uK (uL ?_)|refine uK (uM ?_))|(with_reducible refine uN ?_;refine uO rfl ?_))<;>try simp only[hc,hg,hw,hlt,hn',hfit,jK,jG,jQ,go_sem,reduceIte,jA,jB,jC,jD,reduceCtorEq,jE,jF])|(with_reducible refine uR ?_;refine uS rfl ?_)|omega))
  ·rename_i hx
   rw[←hQ]
   (repeat' (first|(with_reducible first|refine stp ?_|refine uP (by decide) ?_|refine uQ (fun _=>?_) (fun _=>?_))|((first|(with_reducible refine uA ?_;first|refine uB rfl ?_ ?_|(first|refine uC rfl ?_|refine uD rfl ?_)|refine uE rfl ?_)|(with_reducible refine uF ?_;first|refine uG rfl ?_ ?_|(first|refine uH rfl ?_|refine uI rfl ?_)|refine uJ rfl ?_|refine uK (uL ?_)|refine uK (uM ?_))|(with_reducible refine uN ?_;refine uO rfl ?_))<;>try simp only[ go_sem,reduceIte,jA,jB,jC,jD,reduceCtorEq,jE,jF])|(with_reducible refine uR ?_;refine uS rfl ?_)|omega))
   refine aM hp2 (Hp.le_refl _) ⟨?_,rfl⟩
   simp only[go_sem,reduceIte,jA,jB,jC,jD,reduceCtorEq,jE,jF]
   rw[iX,(List.findIdx?_eq_some_iff_getElem (p:=p) (xs:=l) (i:=i)).2 ⟨hlt,hx,fun j hj=>by simp[hno l[j] (List.mem_take_iff_getElem.2 ⟨j,by omega,rfl⟩)]⟩]
  rename_i hx
  rw[←hQ]
  refine aL (i+1) (by omega) ⟨hlt,rfl,fun x hx2=>?_⟩ ?_
  ·rw[htk] at hx2
   rcases List.mem_append.1 hx2 with h1|h1
   ·exact hno x h1
   simp at h1;rw[h1];exact hx
  simp only[WkL,aD,jH,jI,jJ,go_sem,reduceIte,jA,jB,jC,jD,reduceCtorEq,jE,jF]
 have hc:decide ((i:Int)<(l.length:Int))=false:=decide_eq_false (by omega)
 (repeat' (first|(with_reducible first|refine stp ?_|refine uP (by decide) ?_|refine uQ (fun _=>?_) (fun _=>?_))|((first|(with_reducible refine uA ?_;first|refine uB rfl ?_ ?_|(first|refine uC rfl ?_|refine uD rfl ?_)|refine uE rfl ?_)|(with_reducible refine uF ?_;first|refine uG rfl ?_ ?_|(first|refine uH rfl ?_|refine uI rfl ?_)|refine uJ rfl ?_|refine uK (uL ?_)|refine uK (uM ?_))|(with_reducible refine uN ?_;refine uO rfl ?_))<;>try simp only[hc,go_sem,reduceIte,jA,jB,jC,jD,reduceCtorEq,jE,jF])|(with_reducible refine uR ?_;refine uS rfl ?_)|omega))
 rw[←hQ]
 (repeat' (first|(with_reducible first|refine stp ?_|refine uP (by decide) ?_|refine uQ (fun _=>?_) (fun _=>?_))|((first|(with_reducible refine uA ?_;first|refine uB rfl ?_ ?_|(first|refine uC rfl ?_|refine uD rfl ?_)|refine uE rfl ?_)|(with_reducible refine uF ?_;first|refine uG rfl ?_ ?_|(first|refine uH rfl ?_|refine uI rfl ?_)|refine uJ rfl ?_|refine uK (uL ?_)|refine uK (uM ?_))|(with_reducible refine uN ?_;refine uO rfl ?_))<;>try simp only[ go_sem,reduceIte,jA,jB,jC,jD,reduceCtorEq,jE,jF])|(with_reducible refine uR ?_;refine uS rfl ?_)|omega))
 refine aM hp2 (Hp.le_refl _) ⟨?_,rfl⟩
 simp only[go_sem,reduceIte,jA,jB,jC,jD,reduceCtorEq,jE,jF]
 rw[show i=l.length by omega,List.take_length] at hno
 rw[iX,List.findIdx?_eq_none_iff.2 (fun x hx=>by simp[hno x hx])]
theorem qQ{f f0:Nat}(hfit:∀x,(e x).fits k=true)(hL:aH P f=some (LB.ContainsFunc k f0))(hL0:aH P f0=some (LB.IndexFunc k))(p:α→Bool)(n:Nat)(l:List α)(g:Nat)(caps:List V)(h:Hp)(hn:h n=some (.arr k (l.map e)))(hp:∀x∈l,cM P g ([e x]++caps) h (.bool (p x)))(hl:l.length≤1000000000):
 cM P f [.rs n k 0 l.length, .fn (.func g) [] caps] h (.bool (l.any p)):=by
 refine bL (fun L=>trivial) fun h' nx hh=>aG hL fun hd=>?_
 simp only[jL,jM,jA,jB,jN,jO,jP,jQ,V.undef]
 (repeat' (first|(with_reducible first|refine stp ?_|refine uP (by decide) ?_|refine uQ (fun _=>?_) (fun _=>?_))|((first|(with_reducible refine uA ?_;first|refine uB rfl ?_ ?_|refine aJ (qG e hfit hL0 p n l g caps h hn hp hl) (by simp only[go_sem,reduceIte,jA,jB,jC,jD,reduceCtorEq,jE,jF]) hh ?_|(first|refine uC rfl ?_|refine uD rfl ?_)|refine uE rfl ?_)|(with_reducible refine uF ?_;first|refine uG rfl ?_ ?_|(first|refine uH rfl ?_|refine uI rfl ?_)|refine uJ rfl ?_|refine uK (uL ?_)|refine uK (uM ?_))|(with_reducible refine uN ?_;refine uO rfl ?_))<;>try simp only[ go_sem,reduceIte,jA,jB,jC,jD,reduceCtorEq,jE,jF])|(with_reducible refine uR ?_;refine uS rfl ?_)|omega))
 refine aM h' (Hp.le_refl _) ⟨?_,rfl⟩
 simp only[go_sem,reduceIte,jA,jB,jC,jD,reduceCtorEq,jE,jF]
 rw[←xS]
theorem aDm(p:α→Bool)(l:List α):((iX p l==-1)=true↔∀x∈l,p x=false)∧∀i:Nat,iX p l=i→∃h:i<l.length,p l[i]=true∧∀x∈l.take i,p x=false:=by
 unfold iX
 cases hf:l.findIdx? p with
 |none=>
  have:=List.findIdx?_eq_none_iff.1 hf
  refine⟨by simpa using this,fun i hi=>?_⟩
  exact absurd hi (by simp only;omega)
 |some j=>
  obtain⟨h1,h2,h3⟩:=List.findIdx?_eq_some_iff_getElem.1 hf
  refine⟨⟨fun h=>?_,fun h=>?_⟩,fun i hi=>?_⟩
  ·exfalso;simp at h<;>omega
  ·have:=h l[j] (List.getElem_mem _);rw[this] at h2;cases h2
  have:j=i:=by simp only at hi;omega
  subst this
  refine⟨h1,h2,fun x hx=>?_⟩
  obtain⟨q,hq,rfl⟩:=List.mem_take_iff_getElem.1 hx
  have:=h3 q (by omega)
  simpa using this
set_option maxHeartbeats 1000000 in
theorem wZ{f f0:Nat}(hL:aH P f=some (LB.DeleteFunc k z f0))(hL0:aH P f0=some (LB.IndexFunc k))(hz:z.fits k=true)(hfit:∀x,(e x).fits k=true)(p:α→Bool)(n:Nat)(l:List α)(g:Nat)(caps:List V)(h hc:Hp)(nx:Nat)(hn:h n=some (.arr k (l.map e)))
 (hcn:hc n=none) (hch:Hp.has hc h) (hcd:aT hc nx) (hp:∀x∈l,cM P g ([e x]++caps) hc (.bool (p x))) (hl:l.length≤1000000):
 bM P f [.rs n k 0 l.length, .fn (.func g) [] caps] h nx fun v h' nx'=>∃zs,v= .rs n k 0 (l.filter fun x=> !(p x)).length∧h'=h.set n (.arr k ((l.filter fun x=> !(p x)).map e++zs)):=by
 have hsetn:h.set n (.arr k (l.map e))=h:=by
  funext x
  unfold Hp.set
  split
  ·rename_i hx;rw[hx,hn]
  rfl
 refine aG hL fun hd=>?_
 have hnlt:n<nx:=hd n _ hn
 obtain⟨k1,k2⟩:=aDm p l
 simp only[jL,jM,jA,jB,jN,jO,jP,jQ,V.undef]
 cases hneg:(iX p l==-1) with
 |true=>
  have hall:=k1.1 hneg
  (repeat' (first|(with_reducible first|refine stp ?_|refine uP (by decide) ?_|refine uQ (fun _=>?_) (fun _=>?_))|((first|(with_reducible refine uA ?_;first|refine uB rfl ?_ ?_|refine aJ (qG e hfit hL0 p n l g caps h hn (fun x hx=>(hp x hx).mono hch) (by omega)) (by simp only[go_sem,reduceIte,jA,jB,jC,jD,reduceCtorEq,jE,jF]) (aS _) ?_|(first|refine uC rfl ?_|refine uD rfl ?_)|refine uE rfl ?_)|(with_reducible refine uF ?_;first|refine uG rfl ?_ ?_|(first|refine uH rfl ?_|refine uI rfl ?_)|refine uJ rfl ?_|refine uK (uL ?_)|refine uK (uM ?_))|(with_reducible refine uN ?_;refine uO rfl ?_))<;>try simp only[hneg,go_sem,reduceIte,jA,jB,jC,jD,reduceCtorEq,jE,jF])|(with_reducible refine uR ?_;refine uS rfl ?_)|omega))
  have hfl:(l.filter fun x=> !(p x))=l:=List.filter_eq_self.2 (fun x hx=>by simp[hall x hx])
  refine aM h (Hp.le_refl _) ⟨[],?_,?_⟩
  ·simp only[hfl,go_sem,reduceIte,jA,jB,jC,jD,reduceCtorEq,jE,jF]
  rw[hfl,List.append_nil,hsetn]
 |false=>
  obtain⟨i0,hi0⟩:∃i:Nat,iX p l=i:=by
   cases hf:l.findIdx? p with
   |none=>exact absurd (k1.2 (by simpa using List.findIdx?_eq_none_iff.1 hf)) (by rw[hneg];simp)
   |some j=>exact⟨j,by unfold iX;rw[hf]⟩
  obtain⟨b1,b2,b3⟩:=k2 i0 hi0
  have hw0:IntKind.i64.wrap ((i0:Int)+1)=((i0+1:Nat):Int):=by rw[cS]<;>omega
  rw[hi0] at hneg
  (repeat' (first|(with_reducible first|refine stp ?_|refine uP (by decide) ?_|refine uQ (fun _=>?_) (fun _=>?_))|((first|(with_reducible refine uA ?_;first|refine uB rfl ?_ ?_|refine aJ (qG e hfit hL0 p n l g caps h hn (fun x hx=>(hp x hx).mono hch) (by omega)) (by simp only[go_sem,reduceIte,jA,jB,jC,jD,reduceCtorEq,jE,jF]) (aS _) ?_|(first|refine uC rfl ?_|refine uD rfl ?_)|refine uE rfl ?_)|(with_reducible refine uF ?_;first|refine uG rfl ?_ ?_|(first|refine uH rfl ?_|refine uI rfl ?_)|refine uJ rfl ?_|refine uK (uL ?_)|refine uK (uM ?_))|(with_reducible refine uN ?_;refine uO rfl ?_))<;>try simp only[hneg,hi0,hw0,go_sem,reduceIte,jA,jB,jC,jD,reduceCtorEq,jE,jF])|(with_reducible refine uR ?_;refine uS rfl ?_)|omega))
  refine cI (fun q:Nat×Nat×List α=>aD 42 0 [(0, .rs n k 0 l.length),(1, .fn (.func g) [] caps),(5, .int .i64 q.1),(6, .int .i64 q.2.1)])
   (fun q hp2 nx1=>q.1+1≤q.2.1∧q.2.1≤l.length∧q.2.2.length=l.length∧q.2.2.take q.1=(l.take q.2.1).filter (fun x=> !(p x))∧q.2.2.drop q.1=l.drop q.1∧hp2 n=some (.arr k (q.2.2.map e))∧nx≤nx1∧∀x,x≠n→x<nx→hp2 x=h x)
   (fun q=>l.length-q.2.1) (i0,i0+1,l) ⟨Nat.le_refl _,b1,rfl,?_,rfl,hn,Nat.le_refl _,fun _ _ _=>rfl⟩ ?_ ?_
  ·dsimp only
   rw[List.take_succ_eq_append_getElem b1,List.filter_append,List.filter_eq_self.2 (fun x hx=>by simp[b3 x hx])]
   simp[b2]
  ·simp only[WkL,aD,jH,jI,jJ,go_sem,reduceIte,jA,jB,jC,jD,reduceCtorEq,jE,jF]
  rintro⟨i,j,xs⟩ hp2 nx1 ⟨a1,a2,a3,a4,a5,a6,a7,a8⟩
  generalize hQ:fF _ _ _ _ _=Q0
  dsimp only at a1 a2 a3 a4 a5 a6
  simp only[aD,go_sem,reduceIte,jA,jB,jC,jD,reduceCtorEq,jE,jF]
  have hhas2:Hp.has hc hp2:=fun m kk hm hbm=>by
   have hmn:m≠n:=fun e2=>by rw[e2,hcn] at hm;cases hm
   rw[a8 m hmn (hcd m _ hm)]
   exact hch m kk hm hbm
  have hcf:∀m,nx≤m→hc m=none:=fun m hm=>aT.none hcd hm
  rcases Nat.lt_or_ge j l.length with hlt|hge
  ·have hcc:decide ((j:Int)<(l.length:Int))=true:=decide_eq_true (by omega)
   have hxj:xs[j]'(by omega)=l[j]:=by
    have e1:xs[j]'(by omega)=(xs.drop i)[j-i]'(by simp;omega):=by simp[show i+(j-i)=j by omega]
    have e2:l[j]=(l.drop i)[j-i]'(by simp;omega):=by simp[show i+(j-i)=j by omega]
    rw[e1,e2]
    congr 1
   have hg:(xs.map e).getD j (.tup [])=e l[j]:=by rw[fE e xs j (by omega),hxj]
   have hw:IntKind.i64.wrap ((j:Int)+1)=((j+1:Nat):Int):=by rw[cS]<;>omega
   have hw2:IntKind.i64.wrap ((i:Int)+1)=((i+1:Nat):Int):=by rw[cS]<;>omega
   have hnl:n<nx1:=by omega
   have hil:i<l.length:=by omega
   have htk:l.take (j+1)=l.take j++[l[j]]:=List.take_succ_eq_append_getElem hlt
   (repeat' (first|(with_reducible first|refine stp ?_|refine uP (by decide) ?_|refine uQ (fun _=>?_) (fun _=>?_))|((first|(with_reducible refine uA ?_;first|refine uB rfl ?_ ?_|refine qB rfl (hp l[j] (List.getElem_mem _)) (by simp only[go_sem,reduceIte,jA,jB,jC,jD,reduceCtorEq,jE,jF]) (by repeat (first|exact hhas2|refine aGz ?_ (by first|exact hcn|exact hcf _ (by omega)) _)) ?_|(first|refine uC rfl ?_|refine uD rfl ?_)|refine uE rfl ?_)|(with_reducible refine uF ?_;first|refine uG rfl ?_ ?_|(first|refine uH rfl ?_|refine uI rfl ?_)|refine uJ rfl ?_|refine uK (uL ?_)|refine uK (uM ?_))|(with_reducible refine uN ?_;refine uO rfl ?_))<;>try simp only[hcc,hg,hw,hw2,hnl,hil,hlt,a6,a3,hz,hfit,jK,jG,go_sem,reduceIte,jA,jB,jC,jD,reduceCtorEq,jE,jF])|(with_reducible refine uR ?_;refine uS rfl ?_)|omega))
   ·rename_i hx
    have hx:p l[j]=false:=by simpa using hx
    rw[←hQ]
    refine aL (i+1,j+1,xs.set i l[j]) (by dsimp only;omega) ⟨by dsimp only;omega,by dsimp only;omega,by simpa using a3,?_,?_,?_,by omega,fun x hxn hxl=>?_⟩ ?_
    ·dsimp only
     rw[htk,List.filter_append,←a4,List.take_succ_eq_append_getElem (by simp;omega),List.getElem_set_self,List.take_set_of_le (Nat.le_refl _)]
     simp[hx]
    ·dsimp only
     rw[List.drop_set_of_lt (by omega)]
     have:=congrArg (List.drop 1) a5
     rwa [List.drop_drop,List.drop_drop] at this
    ·simp only[hnl,go_sem,reduceIte,jA,jB,jC,jD,reduceCtorEq,jE,jF]
     rw[List.map_set,fE e xs i (by omega),aU (hfit _) (hfit _)]
    ·have h1:(x=nx1)=False:=eq_false (by omega)
     simp only[hxn,h1,go_sem,reduceIte,jA,jB,jC,jD,reduceCtorEq,jE,jF]
     exact a8 x hxn hxl
    simp only[WkL,aD,jH,jI,jJ,go_sem,reduceIte,jA,jB,jC,jD,reduceCtorEq,jE,jF]
   rename_i hx
   have hx:p l[j]=true:=by simpa using hx
   rw[←hQ]
   refine aL (i,j+1,xs) (by dsimp only;omega) ⟨by dsimp only;omega,by dsimp only;omega,a3,?_,a5,?_,by omega,fun x hxn hxl=>?_⟩ ?_
   ·dsimp only
    rw[htk,List.filter_append,←a4]
    simp[hx]
   ·simp only[hnl,a6,go_sem,reduceIte,jA,jB,jC,jD,reduceCtorEq,jE,jF]
   ·have h1:(x=nx1)=False:=eq_false (by omega)
    simp only[hxn,h1,go_sem,reduceIte,jA,jB,jC,jD,reduceCtorEq,jE,jF]
    exact a8 x hxn hxl
   simp only[WkL,aD,jH,jI,jJ,go_sem,reduceIte,jA,jB,jC,jD,reduceCtorEq,jE,jF]
  have hcc:decide ((j:Int)<(l.length:Int))=false:=decide_eq_false (by omega)
  rw[show j=l.length by omega,List.take_length] at a4
  have hil:i<l.length:=by omega
  have hine:(i=l.length)=False:=eq_false (by omega)
  (repeat' (first|(with_reducible first|refine stp ?_|refine uP (by decide) ?_|refine uQ (fun _=>?_) (fun _=>?_))|((first|(with_reducible refine uA ?_;first|refine uB rfl ?_ ?_|(first|refine uC rfl ?_|refine uD rfl ?_)|refine uE rfl ?_)|(with_reducible refine uF ?_;first|refine uG rfl ?_ ?_|(first|refine uH rfl ?_|refine uI rfl ?_)|refine uJ rfl ?_|refine uK (uL ?_)|refine uK (uM ?_))|(with_reducible refine uN ?_;refine uO rfl ?_))<;>try simp only[hcc,go_sem,reduceIte,jA,jB,jC,jD,reduceCtorEq,jE,jF])|(with_reducible refine uR ?_;refine uS rfl ?_)|omega))
  rw[←hQ]
  (repeat' (first|(with_reducible first|refine stp ?_|refine uP (by decide) ?_|refine uQ (fun _=>?_) (fun _=>?_))|((first|(with_reducible refine uA ?_;first|refine uB rfl ?_ ?_|(first|refine uC rfl ?_|refine uD rfl ?_)|refine uE rfl ?_)|(with_reducible refine uF ?_;first|refine uG rfl ?_ ?_|(first|refine uH rfl ?_|refine uI rfl ?_)|refine uJ rfl ?_|refine uK (uL ?_)|refine uK (uM ?_))|(with_reducible refine uN ?_;refine uO rfl ?_))<;>try simp only[hine,hil,a6,a3,hz,jK,jG,go_sem,reduceIte,jA,jB,jC,jD,reduceCtorEq,jE,jF])|(with_reducible refine uR ?_;refine uS rfl ?_)|omega))
  have hlen:(l.filter fun x=> !(p x)).length=i:=by rw[←a4];simp;omega
  refine aM (h.set n (.arr k ((l.filter fun x=> !(p x)).map e++(List.replicate (l.length-i) z++(xs.map e).drop (i+(l.length-i)))))) ?_ ⟨_,?_,rfl⟩
  ·intro x b hxb
   by_cases hxn:x=n
   ·subst hxn
    simp only[go_sem,reduceIte,jA,jB,jC,jD,reduceCtorEq,jE,jF] at hxb⊢
    rw[←hxb,←a4,List.map_take,List.append_assoc]
   have hxl:x<nx:=hd x b (by simpa only[Hp.set,if_neg hxn] using hxb)
   simp only[hxn,go_sem,reduceIte,jA,jB,jC,jD,reduceCtorEq,jE,jF] at hxb⊢
   rw[a8 x hxn hxl];exact hxb
  simp only[hlen,Nat.sub_zero,go_sem,reduceIte,jA,jB,jC,jD,reduceCtorEq,jE,jF]
theorem aAm{f f0:Nat}(hfit:∀x,(e x).fits k=true)(hL:aH P f=some (LB.DeleteFunc k z f0))(hL0:aH P f0=some (LB.IndexFunc k))(p:α→Bool)(g:Nat)(caps:List V)(h:Hp):
 cM P f [.sl k .nil [], .fn (.func g) [] caps] h (.sl k .nil []):=by
 refine bL (fun L=>by simp[V.names,dY]) fun h' nx hh=>aG hL fun hd=>?_
 have hneg:(iX p ([]:List α)==-1)=true:=by simp[iX]
 have hi:cM P f0 [.sl k .nil [], .fn (.func g) [] caps] h' (.int .i64 (iX p [])):=by
  have:=sS e hfit hL0 p .nil [] g caps h' (fun x hx=>by cases hx) (by simp)
  simpa using this
 simp only[jL,jM,jA,jB,jN,jO,jP,jQ,V.undef]
 (repeat' (first|(with_reducible first|refine stp ?_|refine uP (by decide) ?_|refine uQ (fun _=>?_) (fun _=>?_))|((first|(with_reducible refine uA ?_;first|refine uB rfl ?_ ?_|refine aJ (hi) rfl (aS _) ?_|(first|refine uC rfl ?_|refine uD rfl ?_)|refine uE rfl ?_)|(with_reducible refine uF ?_;first|refine uG rfl ?_ ?_|(first|refine uH rfl ?_|refine uI rfl ?_)|refine uJ rfl ?_|refine uK (uL ?_)|refine uK (uM ?_))|(with_reducible refine uN ?_;refine uO rfl ?_))<;>try simp only[hneg,go_sem,reduceIte,jA,jB,jC,jD,reduceCtorEq,jE,jF])|(with_reducible refine uR ?_;refine uS rfl ?_)|omega))
 exact aM h' (Hp.le_refl _) ⟨rfl,rfl⟩
end
end Go.Proofs.YthikfnmcjipobaaGreat
