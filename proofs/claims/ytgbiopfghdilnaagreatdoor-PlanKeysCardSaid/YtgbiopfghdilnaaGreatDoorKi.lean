/-
Texts of this proof,one behind the other. No conditions.
-/
import Derived.Test.YtgbiopfghdilnaaGreatDoorKe
import Derived.Test.YtgbiopfghdilnaaGreatDoorKd
import Derived.Test.YtgbiopfghdilnaaGreatDoorKh
import Derived.Test.YtgbiopfghdilnaaGreatDoorKdb
import Derived.Test.YtgbiopfghdilnaaGreatDoorKg
import Derived.Test.YtgbiopfghdilnaaGreatDoorKf
open Go.Proofs.YtgbiopfghdilnaaGreatDoor.Hp renaming le_refl→Ka,set→Kc,same→Kd
open Go.Proofs.YtgbiopfghdilnaaGreatDoor.V renaming undef→Kb
open List renaming take_succ_eq_append_getElem→Ke,findIdx?_eq_some_iff_getElem→Kf,take_length→Kg,length_append→Kh,take_of_length_le→Ki,getElem_mem→Km,flatMap_append→Ko,mem_take_iff_getElem→Kp,findIdx?_eq_none_iff→Kq,getElem?_eq_getElem→Kt,length_eq_zero_iff→Ku,take_append_drop→Kv,append_nil→Kz,mem_append→KA,map_cons→KC,map_nil→KE,length→KH
open Nat renaming le_refl→Kj,zero_le→Kk,lt_or_ge→Ks,zero_add→Kx,add_zero→Ky,add_assoc→KD,sub_zero→KF,sub_self→KG
open Int renaming toNat_zero→Kw
open Bool renaming true_and→KB
open Nat renaming reduceAdd→jA,reduceSub→jB,reduceLT→jC,reduceLeDiff→jD,reduceEqDiff→jE
open Int renaming reduceToNat→jF,toNat_natCast→jG,natCast_add→jH,natCast_one→jI,natCast_zero→jJ
open List renaming length_map→jK,length_cons→jL,length_nil→jM,replicate_succ→jN,replicate_zero→jO,cons_append→jP,nil_append→jQ
set_option linter.unusedSimpArgs false
set_option linter.unusedVariables false
set_option linter.unusedSectionVars false
set_option maxHeartbeats 8000000
namespace Go.Proofs.YtgbiopfghdilnaaGreatDoor
open Go.RowKit
attribute [local go_sem] Option.some.injEq Prod.mk.injEq false_and and_false Bool.true_eq_false B0 As BA ry y0 if_true KB Ap oV zJ oH gL aA.ok aA.next LOp.ok LOp.next aR.ok aR.out aI.ev bF oi mI kI tP Kb Sh.size nR tY fR aA.dok aA.aCa LOp.dok LOp.aDm nj np fL fN List.take_succ_cons List.take_zero List.take_nil List.drop_succ_cons List.drop_zero List.drop_nil List.set_cons_succ List.set_cons_zero List.getD_cons_succ List.getD_cons_zero jL jM KC KE List.all_cons List.all_nil List.mem_cons List.not_mem_nil jN jO jP jQ Kz List.isEmpty_cons List.isEmpty_nil eA eT oY Option.getD_some Option.isSome_some Option.isSome_none Nat.add_eq Kx Ky true_and and_true and_self true_implies implies_true false_implies forall_const forall_eq forall_eq_or_imp ne_eq not_false_eq_true not_true_eq_false Bool.not_true Bool.not_false decide_true decide_false Bool.and_true KB Bool.and_false Bool.false_and true_or or_true false_or or_false eq_self Bool.false_eq_true BN yu gI aF cH dF fO sQ pQ sP iG kX dA jG Kw Kg Hp.aAN Hp.aAx sK qV aA.plain LOp.aAV aA.aBk LOp.aBd lz BX Ae Cp ra V.aCv V.aCC s6 kv kw s5 eC bC eU mA nI beq_true beq_false dg dh di yN yO rJ rK mO my yU eu ef sD ei ew mb mc sE ep qD yT mf vL ed vM oM pc yb yc ya fm zW nw jY jj ji jh jg jf wY wX bw bv bu xB xA wZ jm jl jk b8 bz bx pR zR dD wV Hp.aBI kW Option.isNone_some Option.isNone_none
namespace LB
abbrev aFf(k:Sh):List aA:=[
 ⟨some 4,none, .val (.move (.const (.sl k .nil [])))⟩]
abbrev aFe:List aA:=[
 ⟨some 5,none, .val (.move (.slot 1))⟩,
 ⟨some 6,none, .val (.bin .lss (.slot 5) (.const (.int .i64 0)))⟩]
abbrev aFd(ts:Nat):List aA:=[
 ⟨some 7,none, .val (.mkif ts (.const (.str ⟨#[99,97,110,110,111,116,32,98,101,32,110,101,103,97,116,105,118,101]⟩)))⟩,
 ⟨none,none, .val (.never)⟩]
abbrev aFc:List aA:=[
 ⟨some 8,none, .val (.move (.slot 1))⟩,
 ⟨some 9,none, .val (.move (.slot 0))⟩,
 ⟨some 10,none, .val (.capv (.slot 9))⟩,
 ⟨some 11,none, .val (.move (.slot 0))⟩,
 ⟨some 12,none, .val (.len (.slot 11))⟩,
 ⟨some 13,none, .val (.bin .sub (.slot 10) (.slot 12))⟩,
 ⟨some 14,none, .val (.bin .sub (.slot 8) (.slot 13))⟩,
 ⟨some 1,none, .val (.move (.slot 14))⟩]
abbrev aFb:List aA:=[
 ⟨some 15,none, .val (.move (.slot 1))⟩,
 ⟨some 16,none, .val (.bin .gtr (.slot 15) (.const (.int .i64 0)))⟩]
abbrev aFa(k:Sh)(z:V)(bs:Nat):List aA:=[
 ⟨some 17,none, .val (.move (.slot 0))⟩,
 ⟨some 18,none, .val (.move (.slot 0))⟩,
 ⟨some 19,none, .val (.capv (.slot 18))⟩,
 ⟨some 20,none, .val (.slc k (.slot 17) .none (.some (.slot 19)) .none)⟩,
 ⟨some 21,none, .val (.move (.slot 1))⟩,
 ⟨some 22,none, .appz k bs (.slot 20) (.slot 21) z⟩,
 ⟨some 23,none, .val (.move (.slot 0))⟩,
 ⟨some 24,none, .val (.len (.slot 23))⟩,
 ⟨some 25,none, .val (.slc k (.slot 22) .none (.some (.slot 24)) .none)⟩,
 ⟨some 0,none, .val (.move (.slot 25))⟩]
abbrev aFZ:List aA:=[
 ⟨some 26,none, .val (.move (.slot 0))⟩,
 ⟨some 4,none, .val (.move (.slot 26))⟩]
def Grow(k:Sh)(z:V)(bs:Nat)(ts:Nat):LFn:=⟨(.seq (.ops (aFf k)) (.seq (.seq (.ops aFe) (.cond (.slot 6) (.ops (aFd ts)) .skip)) (.seq (.seq (.ops aFc) (.seq (.ops aFb) (.cond (.slot 16) (.ops (aFa k z bs)) .skip))) (.seq (.ops aFZ) .ret)))),27,[.slot 4]⟩
abbrev aDF(k:Sh):List aA:=[
 ⟨some 2,none, .val (.move (.const (.sl k .nil [])))⟩]
abbrev aDE:List aA:=[
 ⟨some 3,none, .val (.move (.const (.int .i64 0)))⟩]
abbrev aDD:List aA:=[
 ⟨some 9,none, .val (.move (.slot 0))⟩,
 ⟨some 10,none, .val (.len (.slot 9))⟩,
 ⟨some 11,none, .val (.move (.const (.int .i64 0)))⟩]
abbrev aDC:List aA:=[
 ⟨some 12,none, .val (.bin .lss (.slot 11) (.slot 10))⟩]
abbrev aDB:List aA:=[
 ⟨some 13,none, .val (.idxA .leaf (.slot 9) (.slot 11))⟩,
 ⟨some 14,none, .val (.load .leaf (.slot 13))⟩,
 ⟨some 5,none, .val (.move (.slot 14))⟩]
abbrev aDA:List aA:=[
 ⟨some 15,none, .val (.move (.slot 3))⟩,
 ⟨some 16,none, .val (.move (.slot 5))⟩,
 ⟨some 17,none, .val (.len (.slot 16))⟩,
 ⟨some 18,none, .val (.bin .add (.slot 15) (.slot 17))⟩,
 ⟨some 3,none, .val (.move (.slot 18))⟩]
abbrev aC9:List aA:=[
 ⟨some 19,none, .val (.move (.slot 3))⟩,
 ⟨some 20,none, .val (.bin .lss (.slot 19) (.const (.int .i64 0)))⟩]
abbrev aC8(ts:Nat):List aA:=[
 ⟨some 21,none, .val (.mkif ts (.const (.str ⟨#[108,101,110,32,111,117,116,32,111,102,32,114,97,110,103,101]⟩)))⟩,
 ⟨none,none, .val (.never)⟩]
abbrev aC7:List aA:=[
 ⟨some 22,none, .val (.bin .add (.slot 11) (.const (.int .i64 1)))⟩,
 ⟨some 11,none, .val (.move (.slot 22))⟩]
abbrev aDH(ts:Nat):aU:=(.seq (.ops aDC) (.seq (.cond (.slot 12) .skip (.exit 0)) (.seq (.block 1 (.seq (.ops aDB) (.seq (.ops aDA) (.seq (.ops aC9) (.cond (.slot 20) (.ops (aC8 ts)) .skip))))) (.ops aC7))))
abbrev aC6(k:Sh)(f0:Nat):List aA:=[
 ⟨some 23,none, .val (.move (.slot 3))⟩,
 ⟨some 24,none, .call f0 [(.const (.sl k .nil [])),(.slot 23)]⟩,
 ⟨some 6,none, .val (.move (.slot 24))⟩]
abbrev aCS:List aA:=[
 ⟨some 25,none, .val (.move (.slot 0))⟩,
 ⟨some 26,none, .val (.len (.slot 25))⟩,
 ⟨some 27,none, .val (.move (.const (.int .i64 0)))⟩]
abbrev aCR:List aA:=[
 ⟨some 28,none, .val (.bin .lss (.slot 27) (.slot 26))⟩]
abbrev aCQ:List aA:=[
 ⟨some 29,none, .val (.idxA .leaf (.slot 25) (.slot 27))⟩,
 ⟨some 30,none, .val (.load .leaf (.slot 29))⟩,
 ⟨some 8,none, .val (.move (.slot 30))⟩]
abbrev aCP(k:Sh)(bs:Nat):List aA:=[
 ⟨some 31,none, .val (.move (.slot 6))⟩,
 ⟨some 32,none, .val (.move (.slot 8))⟩,
 ⟨some 33,none, .append k bs (.slot 31) (.slot 32)⟩,
 ⟨some 6,none, .val (.move (.slot 33))⟩]
abbrev aCO:List aA:=[
 ⟨some 34,none, .val (.bin .add (.slot 27) (.const (.int .i64 1)))⟩,
 ⟨some 27,none, .val (.move (.slot 34))⟩]
abbrev aDG(k:Sh)(bs:Nat):aU:=(.seq (.ops aCR) (.seq (.cond (.slot 28) .skip (.exit 2)) (.seq (.block 3 (.seq (.ops aCQ) (.ops (aCP k bs)))) (.ops aCO))))
abbrev aCN:List aA:=[
 ⟨some 35,none, .val (.move (.slot 6))⟩,
 ⟨some 2,none, .val (.move (.slot 35))⟩]
def Concat(k:Sh)(bs:Nat)(ts:Nat)(f0:Nat):LFn:=⟨(.seq (.ops (aDF k)) (.seq (.ops aDE) (.seq (.seq (.ops aDD) (.block 0 (.loop (aDH ts)))) (.seq (.ops (aC6 k f0)) (.seq (.seq (.ops aCS) (.block 2 (.loop (aDG k bs)))) (.seq (.ops aCN) .ret)))))),36,[.slot 2]⟩
end LB
section
variable{P:Program}{k:Sh}{bs ts:Nat}
theorem Ab{f:Nat}{z:V}(hL:aD P f=some (LB.Grow k z bs ts))(m:Nat)(hm:m≤1000000000)(hbs:bs≤140737)(h':Hp)(nx:Nat):
 aQ P f [.sl k .nil [], .int .i64 m] h' nx fun v h'' _=>(m=0∧v= .sl k .nil []∧h''=h')∨(0<m∧∃id es,nx≤id∧v= .rs id k 0 0∧h''=h'.set id (.arr k es)):=by
 have hb:=pS hm hbs;refine aB hL fun hd=>?_;simp only[jL,jM,jA,jB,jN,jO,jP,jQ,Kb];have w1:IntKind.i64.wrap ((m:Int)-0)=m:=by rw[eR]<;>omega
 have w2:IntKind.i64.wrap ((0:Int)-0)=0:=by rw[eR]<;>omega
 repeat (first|with_reducible refine bQ ?_|with_reducible refine bA ?_|with_reducible refine bS ?_|with_reducible refine aP ?_|with_reducible refine aO ?_|with_reducible refine bZ ?_|(refine bT rfl (by simp only[ go_sem,reduceIte,jA,jB,jC,jD,reduceCtorEq,jE,jF];try omega) ?_;simp only[ go_sem,reduceIte,jA,jB,jC,jD,reduceCtorEq,jE,jF])|(with_reducible refine bM ?_))
 refine cQ _ rfl (fun hc=>?_) (fun hc=>?_)
 ·have:=of_decide_eq_true hc;omega
 repeat (first|with_reducible refine bQ ?_|with_reducible refine bA ?_|with_reducible refine bS ?_|with_reducible refine aP ?_|with_reducible refine aO ?_|with_reducible refine bZ ?_|(refine bT rfl (by simp only[w1,w2,jJ,go_sem,reduceIte,jA,jB,jC,jD,reduceCtorEq,jE,jF];try omega) ?_;simp only[w1,w2,jJ,go_sem,reduceIte,jA,jB,jC,jD,reduceCtorEq,jE,jF])|(with_reducible refine bM ?_))
 refine cQ _ rfl (fun hc=>?_) (fun hc=>?_)
 ·have aAl:0<m:=by have:=of_decide_eq_true hc;omega
  have aF6:(0<(m:Int)):=or;repeat (first|with_reducible refine bQ ?_|with_reducible refine bA ?_|with_reducible refine bS ?_|with_reducible refine aP ?_|with_reducible refine aO ?_|with_reducible refine bZ ?_|(refine bT rfl (by simp only[w1,w2,jJ,hb,aF6,aAl,Kw,KF,KG,go_sem,reduceIte,jA,jB,jC,jD,reduceCtorEq,jE,jF];try omega) ?_;simp only[w1,w2,jJ,hb,aF6,aAl,Kw,KF,KG,go_sem,reduceIte,jA,jB,jC,jD,reduceCtorEq,jE,jF])|(with_reducible refine bM ?_))
  refine cT (aC _ (Ka _) ⟨nx,List.replicate m z,Kj _,?_,?_⟩)
  ·simp only[go_sem,reduceIte,jA,jB,jC,jD,reduceCtorEq,jE,jF]
  rfl
 have hz:m=0:=by have:=of_decide_eq_false hc;omega
 repeat (first|with_reducible refine bQ ?_|with_reducible refine bA ?_|with_reducible refine bS ?_|with_reducible refine aP ?_|with_reducible refine aO ?_|with_reducible refine bZ ?_|(refine bT rfl (by simp only[ go_sem,reduceIte,jA,jB,jC,jD,reduceCtorEq,jE,jF];try omega) ?_;simp only[ go_sem,reduceIte,jA,jB,jC,jD,reduceCtorEq,jE,jF])|(with_reducible refine bM ?_))
 refine cT (aC h' (Ka _) (.inl ⟨hz,?_,rfl⟩));simp only[go_sem,reduceIte,jA,jB,jC,jD,reduceCtorEq,jE,jF]
def bX(L:List (Own×List V)):List V:=L.flatMap (·.2)
theorem xF(L:List (Own×List V))(i:Nat)(h:i<L.length):bX (L.take (i+1))=bX (L.take i)++L[i].2:=by
 unfold bX;rw[Ke h,Ko];simp
theorem ck(L:List (Own×List V))(i:Nat):(bX (L.take i)).length≤(bX L).length:=by
 have:bX L=bX (L.take i)++bX (L.drop i):=by
  unfold bX;rw[←Ko,Kv]
 rw[this];simp
set_option maxHeartbeats 1000000 in
theorem ix{f f0:Nat}{z:V}(hL:aD P f=some (LB.Concat k bs ts f0))(hL0:aD P f0=some (LB.Grow k z bs ts))(hbs:bs≤140737)(own:Own)(L:List (Own×List V))(hl:L.length≤1000000)(ht:(bX L).length≤100000000)(h':Hp)(nx:Nat):
 aQ P f [.sl .leaf own (L.map fun p=> .sl k p.1 p.2)] h' nx fun v h'' _=>ja nx h' k (bX L) v h'':=by
 refine aB hL fun hd=>?_;simp only[jL,jM,jA,jB,jN,jO,jP,jQ,Kb];repeat (first|with_reducible refine bQ ?_|with_reducible refine bA ?_|with_reducible refine bS ?_|with_reducible refine aP ?_|with_reducible refine aO ?_|with_reducible refine bZ ?_|(refine bT rfl (by simp only[ go_sem,reduceIte,jA,jB,jC,jD,reduceCtorEq,jE,jF];try omega) ?_;simp only[ go_sem,reduceIte,jA,jB,jC,jD,reduceCtorEq,jE,jF])|(with_reducible refine bM ?_))
 refine aS (fun i:Nat=>aF 36 0 [(0, .sl .leaf own (L.map fun p=> .sl k p.1 p.2)),(3, .int .i64 (bX (L.take i)).length),(9, .sl .leaf own (L.map fun p=> .sl k p.1 p.2)),(10, .int .i64 L.length),(11, .int .i64 i)]) (fun i h2 nx2=>i≤L.length∧h2=h'∧nx≤nx2) (fun i=>L.length-i) 0 ⟨Kk _,rfl,Kj _⟩ ?_ ?_
 ·have e0:bX ([]:List (Own×List V))=[]:=rfl;simp only[WkL,aF,jH,jI,jJ,e0,jK,go_sem,reduceIte,jA,jB,jC,jD,reduceCtorEq,jE,jF]
 rintro i h2 nx2 ⟨hi,rfl,hnx⟩;generalize hQ:bK _ _ _ _ _=Q0;simp only[aF,go_sem,reduceIte,jA,jB,jC,jD,reduceCtorEq,jE,jF];repeat (first|with_reducible refine bQ ?_|with_reducible refine bA ?_|with_reducible refine bS ?_|with_reducible refine aP ?_|with_reducible refine aO ?_|with_reducible refine bZ ?_|(refine bT rfl (by simp only[ go_sem,reduceIte,jA,jB,jC,jD,reduceCtorEq,jE,jF];try omega) ?_;simp only[ go_sem,reduceIte,jA,jB,jC,jD,reduceCtorEq,jE,jF])|(with_reducible refine bM ?_))
 refine cQ _ rfl (fun hc=>?_) (fun hc=>?_)
 ·have hlt:i<L.length:=by have:=of_decide_eq_true hc;omega
  have hg:=aN (fun p:Own×List V=>V.sl k p.1 p.2) L i hlt;have hlen:(i:Int)<((L.map fun p=>V.sl k p.1 p.2).length:Int):=by simp;omega
  have h0:=ck L (i+1);have h1:=congrArg KH (xF L i hlt);rw[Kh] at h1;have hw:IntKind.i64.wrap (((bX (L.take i)).length:Int)+(L[i].2.length:Int))=((bX (L.take (i+1))).length:Int):=by rw[eR]<;>omega
  repeat (first|with_reducible refine bQ ?_|with_reducible refine bA ?_|with_reducible refine bS ?_|with_reducible refine aP ?_|with_reducible refine aO ?_|with_reducible refine bZ ?_|(refine bT rfl (by simp only[hg,hlen,hlt,hw,jG,jK,go_sem,reduceIte,jA,jB,jC,jD,reduceCtorEq,jE,jF];try omega) ?_;simp only[hg,hlen,hlt,hw,jG,jK,go_sem,reduceIte,jA,jB,jC,jD,reduceCtorEq,jE,jF])|(with_reducible refine bM ?_))
  refine cQ _ rfl (fun hc2=>?_) (fun hc2=>?_)
  ·have:=of_decide_eq_true hc2;omega
  repeat (first|with_reducible refine bQ ?_|with_reducible refine bA ?_|with_reducible refine bS ?_|with_reducible refine aP ?_|with_reducible refine aO ?_|with_reducible refine bZ ?_|(refine bT rfl (by simp only[ go_sem,reduceIte,jA,jB,jC,jD,reduceCtorEq,jE,jF];try omega) ?_;simp only[ go_sem,reduceIte,jA,jB,jC,jD,reduceCtorEq,jE,jF])|(with_reducible refine bM ?_))
  rw[eR or or,←hQ];refine aG (i+1) or ⟨or,rfl,or⟩ ?_;simp only[WkL,aF,jH,jI,jJ,go_sem,reduceIte,jA,jB,jC,jD,reduceCtorEq,jE,jF]
 have hge:i=L.length:=by have:=of_decide_eq_false hc;omega
 rw[←hQ];refine oJ ?_;repeat (first|with_reducible refine jX ?_|with_reducible refine iK ?_|with_reducible refine iL ?_|with_reducible refine cA ZM ?_|with_reducible refine gD ?_|with_reducible refine aP ?_)
 have hT:bX (L.take i)=bX L:=by rw[hge,Kg]
 rw[hT];repeat (first|with_reducible refine bQ ?_|with_reducible refine bA ?_|with_reducible refine bS ?_|with_reducible refine aP ?_|with_reducible refine aO ?_|with_reducible refine bZ ?_|(refine bT rfl (by simp only[ go_sem,reduceIte,jA,jB,jC,jD,reduceCtorEq,jE,jF];try omega) ?_;simp only[ go_sem,reduceIte,jA,jB,jC,jD,reduceCtorEq,jE,jF])|(with_reducible refine bM ?_))
 refine bG ((Ab hL0 (bX L).length or hbs _ _).dom.mono ?_);rintro v h3 nx3 aSK ⟨hv,aTM,_⟩;unfold cN;refine Zn ?_;repeat (first|with_reducible refine bQ ?_|with_reducible refine bA ?_|with_reducible refine bS ?_|with_reducible refine aP ?_|with_reducible refine aO ?_|with_reducible refine bZ ?_|(refine bT rfl (by simp only[jK,go_sem,reduceIte,jA,jB,jC,jD,reduceCtorEq,jE,jF];try omega) ?_;simp only[jK,go_sem,reduceIte,jA,jB,jC,jD,reduceCtorEq,jE,jF])|(with_reducible refine bM ?_))
 obtain⟨I,hI⟩:∃I:Nat×V→Hp→Nat→Prop,∀i u h4 nx4,I (i,u) h4 nx4↔(i≤L.length∧nx≤nx4∧((bX L=[]∧u= .sl k .nil []∧h4=h2)∨(bX L≠ []∧∃id es,nx≤id∧id<nx4∧u= .rs id k 0 (bX (L.take i)).length∧(bX (L.take i)=[]∨es=bX (L.take i))∧h4 id=some (.arr k es)∧h2.le (h4.del id)))):=⟨fun p h4 nx4=>p.1≤L.length∧nx≤nx4∧((bX L=[]∧p.2= .sl k .nil []∧h4=h2)∨(bX L≠ []∧∃id es,nx≤id∧id<nx4∧p.2= .rs id k 0 (bX (L.take p.1)).length∧(bX (L.take p.1)=[]∨es=bX (L.take p.1))∧h4 id=some (.arr k es)∧h2.le (h4.del id))),fun _ _ _ _=>Iff.rfl⟩;simp only at aSK hv;have e0:bX ([]:List (Own×List V))=[]:=rfl;have aAc:∀n,nx≤n→h2 n=none:=fun n hn=>aW.none hd hn;refine aS (fun p:Nat×V=>aF 36 0 [(6,p.2),(25, .sl .leaf own (L.map fun p=> .sl k p.1 p.2)),(26, .int .i64 L.length),(27, .int .i64 p.1)]) I (fun p=>L.length-p.1) (0,v) ((hI _ _ _ _).2 ⟨Kk _,(by show nx≤nx3;omega),?_⟩) ?_ ?_
 ·rcases hv with⟨q1,rfl,rfl⟩|⟨q1,id,es,q2,rfl,rfl⟩
  ·exact .inl ⟨Ku.1 q1,rfl,rfl⟩
  refine .inr ⟨fun e=>by rw[e] at q1;simp at q1,id,es,or,aTM id (.arr k es) (by simp[Kc]),?_, .inl rfl,by simp[Kc],nE (fY (Ka _) (aAc id or) _) (aAc id or)⟩;simp[bX]
 ·simp only[WkL,aF,jH,jI,jJ,jK,go_sem,reduceIte,jA,jB,jC,jD,reduceCtorEq,jE,jF]
 rintro⟨i,u⟩ h4 nx4 hii;generalize hQ2:bK _ _ _ _ _=Q2;obtain⟨q1,q2,q3⟩:=(hI _ _ _ _).1 hii;simp only[aF,go_sem,reduceIte,jA,jB,jC,jD,reduceCtorEq,jE,jF];repeat (first|with_reducible refine bQ ?_|with_reducible refine bA ?_|with_reducible refine bS ?_|with_reducible refine aP ?_|with_reducible refine aO ?_|with_reducible refine bZ ?_|(refine bT rfl (by simp only[ go_sem,reduceIte,jA,jB,jC,jD,reduceCtorEq,jE,jF];try omega) ?_;simp only[ go_sem,reduceIte,jA,jB,jC,jD,reduceCtorEq,jE,jF])|(with_reducible refine bM ?_))
 refine cQ _ rfl (fun hc4=>?_) (fun hc4=>?_)
 ·have hlt:i<L.length:=by have:=of_decide_eq_true hc4;omega
  have hg:=aN (fun p:Own×List V=>V.sl k p.1 p.2) L i hlt;have hlen:(i:Int)<((L.map fun p=>V.sl k p.1 p.2).length:Int):=by simp;omega
  have aBS:=xF L i hlt;have h1:=ck L (i+1);have h2':=congrArg KH aBS;rw[Kh] at h2';have hw:IntKind.i64.wrap ((i:Int)+1)=((i+1:Nat):Int):=by rw[eR]<;>omega
  repeat (first|with_reducible refine bQ ?_|with_reducible refine bA ?_|with_reducible refine bS ?_|with_reducible refine aP ?_|with_reducible refine aO ?_|with_reducible refine bZ ?_|with_reducible refine bM ?_)
  refine bT rfl (by simp only[hg,hlen,hlt,jG,jK,go_sem,reduceIte,jA,jB,jC,jD,reduceCtorEq,jE,jF];try omega) ?_;simp only[hg,hlen,hlt,jG,jK,go_sem,reduceIte,jA,jB,jC,jD,reduceCtorEq,jE,jF];repeat (first|with_reducible refine bQ ?_|with_reducible refine bA ?_|with_reducible refine bS ?_|with_reducible refine aP ?_|with_reducible refine aO ?_|with_reducible refine bZ ?_|with_reducible refine bM ?_)
  rcases q3 with⟨q4,rfl,rfl⟩|⟨q4,id,es,q5,q6,rfl,q7,q8,q9⟩
  ·have hy:L[i].2=[]:=by
    rw[q4] at h1;exact Ku.1 (by simp at h1;rw[h1] at h2';simp at h2';omega)
   refine bT rfl (by simp only[hy,go_sem,reduceIte,jA,jB,jC,jD,reduceCtorEq,jE,jF];try omega) ?_;simp only[hy,go_sem,reduceIte,jA,jB,jC,jD,reduceCtorEq,jE,jF];rw[←hQ2];repeat (first|with_reducible refine bQ ?_|with_reducible refine bA ?_|with_reducible refine bS ?_|with_reducible refine aP ?_|with_reducible refine aO ?_|with_reducible refine bZ ?_|with_reducible refine bM ?_)
   refine bT rfl (by simp only[hw,go_sem,reduceIte,jA,jB,jC,jD,reduceCtorEq,jE,jF];try omega) ?_;simp only[hw,go_sem,reduceIte,jA,jB,jC,jD,reduceCtorEq,jE,jF];repeat (first|with_reducible refine bQ ?_|with_reducible refine bA ?_|with_reducible refine bS ?_|with_reducible refine aP ?_|with_reducible refine aO ?_|with_reducible refine bZ ?_|with_reducible refine bM ?_)
   refine aG (i+1, .sl k .nil []) (by(try simp only);omega) ((hI _ _ _ _).2 ⟨or,by(try simp only[go_sem,reduceIte,jA,jB,jC,jD,reduceCtorEq,jE,jF]);omega, .inl ⟨q4,rfl,rfl⟩⟩) ?_;simp only[WkL,aF,jH,jI,jJ,hw,go_sem,reduceIte,jA,jB,jC,jD,reduceCtorEq,jE,jF]
  refine d6 2 rfl (by simp only[go_sem,reduceIte,jA,jB,jC,jD,reduceCtorEq,jE,jF]) ?_;refine Zn ?_;by_cases hy:L[i].2=[]
  ·refine pU rfl q8 (by simp only[dA,hy,go_sem,reduceIte,jA,jB,jC,jD,reduceCtorEq,jE,jF]) ?_;refine bT rfl (by simp only[ go_sem,reduceIte,jA,jB,jC,jD,reduceCtorEq,jE,jF];try omega) ?_;refine Zn ?_;rw[←hQ2];repeat (first|with_reducible refine bQ ?_|with_reducible refine bA ?_|with_reducible refine bS ?_|with_reducible refine aP ?_|with_reducible refine aO ?_|with_reducible refine bZ ?_|with_reducible refine bM ?_)
   refine bT rfl (by simp only[hw,go_sem,reduceIte,jA,jB,jC,jD,reduceCtorEq,jE,jF];try omega) ?_;simp only[hw,go_sem,reduceIte,jA,jB,jC,jD,reduceCtorEq,jE,jF];repeat (first|with_reducible refine bQ ?_|with_reducible refine bA ?_|with_reducible refine bS ?_|with_reducible refine aP ?_|with_reducible refine aO ?_|with_reducible refine bZ ?_|with_reducible refine bM ?_)
   have aA9:bX (L.take (i+1))=bX (L.take i):=by rw[aBS,hy,Kz]
   refine aG (i+1, .rs id k 0 (bX (L.take i)).length) (by(try simp only);omega) ((hI _ _ _ _).2 ⟨or,by(try simp only[go_sem,reduceIte,jA,jB,jC,jD,reduceCtorEq,jE,jF]);omega, .inr ⟨q4,id,es,q5,by(try simp only[go_sem,reduceIte,jA,jB,jC,jD,reduceCtorEq,jE,jF]);omega,by rw[aA9],by rw[aA9];exact q7,q8,q9⟩⟩) ?_;simp only[WkL,aF,jH,jI,jJ,hw,go_sem,reduceIte,jA,jB,jC,jD,reduceCtorEq,jE,jF]
  have aMy:es.take (bX (L.take i)).length=bX (L.take i):=by
   rcases q7 with q7|q7
   ·rw[q7];rfl
   rw[q7,Kg]
  have hcl:(bX (L.take i)).length≤es.length:=by
   rcases q7 with q7|q7
   ·rw[q7];exact Kk _
   rw[q7];exact Kj _
  refine wC rfl q8 hcl (by simp only[dA,go_sem,reduceIte,jA,jB,jC,jD,reduceCtorEq,jE,jF]) hy (pS or hbs) ?_;refine bT rfl (by simp only[ go_sem,reduceIte,jA,jB,jC,jD,reduceCtorEq,jE,jF];try omega) ?_;refine Zn ?_;rw[←hQ2];repeat (first|with_reducible refine bQ ?_|with_reducible refine bA ?_|with_reducible refine bS ?_|with_reducible refine aP ?_|with_reducible refine aO ?_|with_reducible refine bZ ?_|with_reducible refine bM ?_)
  refine bT rfl (by simp only[hw,go_sem,reduceIte,jA,jB,jC,jD,reduceCtorEq,jE,jF];try omega) ?_;simp only[hw,go_sem,reduceIte,jA,jB,jC,jD,reduceCtorEq,jE,jF];repeat (first|with_reducible refine bQ ?_|with_reducible refine bA ?_|with_reducible refine bS ?_|with_reducible refine aP ?_|with_reducible refine aO ?_|with_reducible refine bZ ?_|with_reducible refine bM ?_)
  refine aG (i+1, .rs nx4 k 0 ((bX (L.take i)).length+L[i].2.length)) (by(try simp only);omega) ((hI _ _ _ _).2 ⟨or,by(try simp only[go_sem,reduceIte,jA,jB,jC,jD,reduceCtorEq,jE,jF]);omega, .inr ⟨q4,nx4,bX (L.take (i+1)),q2,by(try simp only[go_sem,reduceIte,jA,jB,jC,jD,reduceCtorEq,jE,jF]);omega,by rw[h2'], .inr rfl,?_,?_⟩⟩) ?_
  ·simp only[aMy,aBS,go_sem,reduceIte,jA,jB,jC,jD,reduceCtorEq,jE,jF]
  ·try simp only[go_sem,reduceIte,jA,jB,jC,jD,reduceCtorEq,jE,jF]
   intro m b e;have h5:=q9 m b e;have h6:=hd m b e;simp only[Hp.aAN,Hp.aAx] at h5⊢;split at h5
   ·cases h5
   rename_i hne;rw[if_neg or,if_neg or,if_neg hne];exact h5
  simp only[WkL,aF,jH,jI,jJ,hw,go_sem,reduceIte,jA,jB,jC,jD,reduceCtorEq,jE,jF]
 have aTI:i=L.length:=by have:=of_decide_eq_false hc4;omega
 rw[←hQ2];refine oJ ?_;repeat (first|with_reducible refine jX ?_|with_reducible refine iK ?_|with_reducible refine iL ?_|with_reducible refine cA ZM ?_|with_reducible refine gD ?_|with_reducible refine aP ?_)
 repeat (first|with_reducible refine bQ ?_|with_reducible refine bA ?_|with_reducible refine bS ?_|with_reducible refine aP ?_|with_reducible refine aO ?_|with_reducible refine bZ ?_|(refine bT rfl (by simp only[ go_sem,reduceIte,jA,jB,jC,jD,reduceCtorEq,jE,jF];try omega) ?_;simp only[ go_sem,reduceIte,jA,jB,jC,jD,reduceCtorEq,jE,jF])|(with_reducible refine bM ?_))
 have hT2:bX (L.take i)=bX L:=by rw[aTI,Kg]
 rw[hT2] at q3;rcases q3 with⟨q4,rfl,rfl⟩|⟨q4,id,es,q5,q6,rfl,q7,q8,q9⟩
 ·exact cT (aC _ (Ka _) (.inl ⟨q4,rfl,rfl⟩))
 refine cT (aC (h2.set id (.arr k (bX L))) ?_ (.inr ⟨q4,id,q5,rfl,rfl⟩));have hes:es=bX L:=q7.resolve_left q4;subst hes;refine tI ?_ q8;intro m b e;have h5:=q9 m b e;simp only[Hp.aAx] at h5;split at h5
 ·cases h5
 exact h5
end
end Go.Proofs.YtgbiopfghdilnaaGreatDoor
namespace Go.Proofs.YtgbiopfghdilnaaGreatDoor
open Go.RowKit Go.Sort
attribute [local irreducible] IntKind.wrap
set_option maxHeartbeats 4000000
theorem rT{P:Program}{f:FuncId}{args:List V}{h:Hp}{v:V}(hv:∀L,bD L args→v.names L)(hc:∀h' nx,h.has h'→aQ P f args h' nx fun v' h'' _=>v'=v∧h''=h'):aM P f args h v:=by
 intro h' nx hh;have c:=hc h' nx hh;refine⟨c.1,fun K cargs hlv hrel aBj=>(c.2 K cargs hlv hrel aBj).mono ?_⟩;rintro e w' ⟨K',v',cv,h'',nx',rfl,he,hle,hvr,aB3,aFo,hnx,rfl,rfl⟩;have aCB:K.le (K'.only fun n=>K'.live n∧n<nx):=⟨fun n hn=>⟨hle.live n hn,hlv n hn⟩,hle.mu,hle.tp,hle.fro,hle.imm,hle.cell,hle.shape,hle.below⟩;have hna:bD (fun n=>K'.live n∧n<nx) args:=dM fun i hi=>eH (fun m hm=>⟨hle.live m hm,hlv m hm⟩) (aBj.2 i hi).names;exact⟨K'.only fun n=>K'.live n∧n<nx,v',cv,h'',nx,rfl,he,aCB,hvr.only _ (hv _ hna),hrel.back aB3 aCB.toV (fun n hn=>⟨hle.live n hn,hlv n hn⟩),fun n hn=>⟨hn.2,(aFo n hn.1).2⟩,Kj _,rfl,rfl,rfl⟩
theorem aQ.wk{P:Program}{f:FuncId}{args:List V}{h h2:Hp}{nx:Nat}{R:V→Hp→Nat→Prop}(c:aQ P f args h nx R)(hle:h.le h2):aQ P f args h2 nx R:=⟨c.1,fun K cargs hl hrel hv=>c.2 K cargs hl (hrel.weaken hle) hv⟩
theorem vD{yn:Nat}{J:Nat→Hp→Nat→Prop}{D:Hp→Nat→Prop}{xs:List (List V)}
 (hJ:∀i h nx nx',J i h nx→nx≤nx'→J i h nx') (hD:∀h nx nx',D h nx→nx≤nx'→D h nx')
 (hy:∀i (hi:i<xs.length) h nx,J i h nx→aW h nx→cY Tryz.prog yn xs[i] h nx fun v h' nx'=>(v= .bool true∧J (i+1) h' nx')∨(v= .bool false∧D h' nx')):
 ∀(n:Nat) (e:Ex),SizeOf.sizeOf e≤n→(∃m,zZ m e=true)→∀i,(∀j (hj:j<e.ts.length),xs[i+j]?=some [e.ts[j].v])→∀h nx,J i h nx→aW h nx→
  aQ Tryz.prog 139 [e.v, .yld yn] h nx fun v h' nx'=>(v= .bool true∧J (i+e.ts.length) h' nx')∨(v= .bool false∧D h' nx')
 |0, .mk op t o ks,hn,_,_,_,_,_,_,_=>by simp at hn
 |n+1, .mk op t o ks,hn,⟨m,hm⟩,i,hx,h,nx,hj,hdm=>by
  refine aB L.aTr fun hd=>?_;rw[Ex.aAs];simp only[jL,jM,jA,jB,jN,jO,jP,jQ,Kb];have k0:=kl0 ks;cases ks with
  |nil=>
   have hx0:=hx 0 (by simp[Ex.ts]);have e0:(Ex.mk op t o []).ts=[t]:=by simp[Ex.ts]
   have hi:i<xs.length:=by
    rcases Ks i xs.length with h1|h1
    ·exact h1
    rw[Ky,List.getElem?_eq_none h1] at hx0;cases hx0
   have hxi:xs[i]=[t.v]:=by
    rw[Ky,Kt hi] at hx0;simpa [e0] using hx0
   have Y:=hy i hi h (nx+1) (hJ _ _ _ _ hj or) (hdm.up or);rw[hxi] at Y;have k1:(((0:Nat):Int)==0)=true:=rfl;refine aue (e6 Ex.cs.eq_1 Ex.op.eq_1 Ex.t.eq_1 Ex.o.eq_1 Ex.kids.eq_1 k1) ?_;refine nB rfl ((Y.weaken (leo hdm)).mono ?_);rintro v h' nx' hle (⟨rfl,hv⟩|⟨rfl,hv⟩)
   ·unfold cN;refine Zn ?_;refine au ?_;refine aC h' (Ka _) (.inl ⟨rfl,?_⟩);rw[e0];exact hv
   unfold cN;refine Zn ?_;refine au ?_;exact aC h' (Ka _) (.inr ⟨rfl,hv⟩)
  |cons k r=>
   obtain⟨ks,hks⟩:∃ks,ks=k::r:=⟨_,rfl⟩;have hne:ks≠ []:=by rw[hks];simp
   have k1:((ks.length:Int)==0)=false:=by cases ks with|nil=>exact absurd rfl hne|cons a b=>exact bqf (by simp only[jL];omega)
   have e0:(Ex.mk op t o (k::r)).ts=ks.flatMap Ex.ts:=by rw[Ex.aFv,if_neg (by simp[Ex.kids]),hks];rfl
   rw[←hks] at hn hm⊢;obtain⟨hk2,hkr⟩:=xp hm;rw[e0] at hx;rw[←hks] at e0;rw[e0];have hsz:∀e∈ks,SizeOf.sizeOf e≤n:=fun e he=>by
    have:=List.sizeOf_lt_of_mem he;simp only[Ex.mk.sizeOf_spec] at hn;omega
   refine aue (e7 Ex.cs.eq_1 Ex.op.eq_1 Ex.t.eq_1 Ex.o.eq_1 Ex.kids.eq_1 k1 (@jK Ex V)) ?_
   refine aS (fun q:Nat=>aF 27 0 [(1, .yld yn),(16, .sl (.agg 6) o (ks.map Ex.v)),(17, .int .i64 ks.length),(18, .int .i64 q)])
    (fun q hp nx1=>q≤ks.length∧aW hp nx1∧∃hq,J (i+((ks.take q).flatMap Ex.ts).length) hq nx1∧hq.le hp)
    (fun q=>ks.length-q) 0 ⟨Kk _,by exact dmo hdm,h,hJ _ _ _ _ hj Zw,leo hdm⟩ (by simp only[WkL,aF,jH,jI,jJ,jK,go_sem,reduceIte,jA,jB,jC,jD,reduceCtorEq,jE,jF]) ?_
   rintro q hp nx1 ⟨hq,aSQ,hq0,hj1,aAn⟩;generalize hQ:bK _ _ _ _ _=Q0;simp only[aF,go_sem,reduceIte,jA,jB,jC,jD,reduceCtorEq,jE,jF];rcases Ks q ks.length with hlt|hge
   ·have hc:decide ((q:Int)<(ks.length:Int))=true:=dct;have hg:=aN Ex.v ks q hlt;have hw:IntKind.i64.wrap ((q:Int)+1)=((q+1:Nat):Int):=wrp;have hf:=Ex.aAD ks[q];have htk:(ks.take (q+1)).flatMap Ex.ts=(ks.take q).flatMap Ex.ts++ks[q].ts:=by rw[Ke hlt,Ko];simp
    have aAj:ks.flatMap Ex.ts=(ks.take q).flatMap Ex.ts++(ks[q].ts++(ks.drop (q+1)).flatMap Ex.ts):=by
     conv=>lhs;rw[←Kv q ks,List.drop_eq_getElem_cons hlt]
     rw[Ko,List.flatMap_cons]
    have aSJ:=vD hJ hD hy n ks[q] (hsz _ (Km _)) (hkr _ (Km _)) (i+((ks.take q).flatMap Ex.ts).length) (fun j hj=>by
     have h2:=hx (((ks.take q).flatMap Ex.ts).length+j) (by rw[aAj];simp only[Kh];omega);rw[KD,h2];have e3:(ks.flatMap Ex.ts)[((ks.take q).flatMap Ex.ts).length+j]'(by rw[aAj];simp only[Kh];omega)=ks[q].ts[j]:=by
      simp only[aAj];rw[List.getElem_append_right or,List.getElem_append_left or];congr 1;omega
     rw[e3])
    obtain⟨e,he⟩:∃e,ks[q]=e:=⟨_,rfl⟩;rw[he] at hg hf aSJ htk;refine aue (e6 hc hg hlt hf (@jK Ex V) jG) ?_;refine bG (((aSJ hq0 (nx1+2) (hJ _ _ _ _ hj1 or) ((aSQ.le aAn).up or)).wk (Hp.le_trans aAn (leo aSQ))).dom.mono ?_);rintro v h2 nx2 aAd ⟨hv,aFp,_⟩;rcases hv with⟨rfl,hv⟩|⟨rfl,hv⟩
    ·unfold cN;refine Zn ?_;refine aue hw ?_;rw[←hQ];refine aG (q+1) or ⟨hlt,aFp,h2,?_,Ka _⟩ (by simp only[WkL,aF,jH,jI,jJ,go_sem,reduceIte,jA,jB,jC,jD,reduceCtorEq,jE,jF]);rw[htk,Kh,←KD];exact hv
    unfold cN;refine Zn ?_;refine au ?_;rw[←hQ];refine au ?_;exact aC h2 (Ka _) (.inr ⟨rfl,hv⟩)
   have hc:decide ((q:Int)<(ks.length:Int))=false:=dcf;refine aue hc ?_;rw[←hQ];refine au ?_;rw[Ki or] at hj1;exact aC hq0 aAn (.inl ⟨rfl,hj1⟩)
theorem AK(e:Ex)(he:oh e=true):AG Tryz.prog 138 [.ept (.agg 6) [e.v] 0 0] Hp.none (e.ts.map fun t=>[t.v]):=by
 intro yn J D h1 h2 h3 h4 h nx hj hdm;refine aB L.aTs fun hd=>?_;obtain⟨ev,hev⟩:∃ev,e.v=ev:=⟨_,rfl⟩;have hf:=Ex.aAD e;have c:=vD h2 h3 h4 _ e (Kj _) ⟨20,he⟩ 0 (fun j hj=>by simp[Kt hj]) h nx hj hdm;rw[hev] at hf c⊢;simp only[jL,jM,jA,jB,jN,jO,jP,jQ,Kb];refine aue hf ?_;refine bG (c.mono ?_);rintro v h' nx' hle (⟨rfl,hv⟩|⟨rfl,hv⟩)
 ·unfold cN;refine Zn ?_;refine au ?_;refine⟨h',Ka _, .inl ?_⟩;simp only[jK];rw[Kx] at hv;exact hv
 unfold cN;refine Zn ?_;refine au ?_;exact⟨h',Ka _, .inr hv⟩
theorem rF(e:Ex)(h:Hp):aM Tryz.prog 89 [e.v] h (.fn (.func 138) [] [.ept (.agg 6) [e.v] 0 0]):=by
 have hf:=Ex.aAD e;refine rT (fun L hL=>by simpa [V.names,bD] using hL) fun h' nx hh=>aB L.aUf fun hd=>?_;obtain⟨ev,hev⟩:∃ev,e.v=ev:=⟨_,rfl⟩;rw[hev] at hf⊢;simp only[jL,jM,jA,jB,jN,jO,jP,jQ,Kb];refine bQ ?_;generalize hR:lP _ _=R;refine aue hf ?_;rw[←hR];refine fF (xH (t:=1) (n:=nx) (k:= .agg 6) (i:=0) (o:=0) (es:=[ev]) rfl (by simp only[go_sem,reduceIte,jA,jB,jC,jD,reduceCtorEq,jE,jF])) ?_;refine Zn ?_;refine au ?_;refine aC h' (fun m b e=>?_) ⟨rfl,rfl⟩;have:=hd _ _ e;simp only[Hp.del,Kc];rw[if_neg or,if_neg or];exact e
theorem A6:aD Tryz.prog 88=some (LB.Collect (.agg 4) 137):=Zz
theorem Ba:aD Tryz.prog 137=some (LB.aBE (.agg 4) (.agg [.str ⟨#[]⟩, .int .i64 0, .int .i64 0, .str ⟨#[]⟩]) 48):=Zz
theorem A9:aD Tryz.prog 87=some (LB.Concat (.agg 4) 48 9 136):=Zz
theorem A5:aD Tryz.prog 136=some (LB.Grow (.agg 4) (.agg [.str ⟨#[]⟩, .int .i64 0, .int .i64 0, .str ⟨#[]⟩]) 48 9):=Zz
theorem oF{P:Program}{f:FuncId}{args:List V}{h:Hp}{k:Sh}{es:List V}(hn:∀L,bD L es)(c:∀h' nx,h.has h'→aQ P f args h' nx fun v h'' _=>ja nx h' k es v h''):aM P f args h (lst k es):=by
 refine lU (fun L=>cZ hn L) fun h' nx hh=>?_;have c2:=aQ.aFX (k:=k) (G:=fun es'=>es'=es) ((c h' nx hh).mono fun v h'' _ _ hv=>⟨_,rfl,hv⟩);refine⟨c2.1,fun K cargs hlv hr hv=>((c2.mono (R':=fun v' h'' _=>v'.loose=lst k es∧h'.le h'') ?_).2 K cargs hlv hr hv)⟩;rintro v h'' nx' hnx ⟨es',rfl,hf⟩;exact⟨hf.loose,hf.le (fun m b hm=>hlv m (hr.lt m b hm))⟩
theorem nM(e:Ex)(he:oh e=true)(h:Hp):aM Tryz.prog 88 [.fn (.func 138) [] [.ept (.agg 6) [e.v] 0 0]] h (lst (.agg 4) (e.ts.map Tr.v)):=by
 refine oF (fun L=>bB (Tr.aAQ L) _) fun h' nx hh=>?_;have hl:=lK he;refine(nq Tr.v Tr.aAD A6 Ba rfl or _ _ Hp.none e.ts (AK e he) or h' nx (aZ _)).mono ?_;rintro v h'' nx' _ (⟨h1,h2,h3⟩|⟨h1,id,h2,h3,h4⟩)
 ·rw[h1];exact .inl ⟨rfl,h2,h3⟩
 exact .inr ⟨by simpa using h1,id,h2,by rw[h3,jK],h4⟩
theorem jb(own o1 o2 o3:Own)(a b c:List Tr)(hl:a.length+b.length+c.length≤10000000)(h:Hp):aM Tryz.prog 87 [.sl .leaf own [trs o1 a,trs o2 b,trs o3 c]] h (lst (.agg 4) ((a++(b++c)).map Tr.v)):=by
 refine oF (fun L=>bB (Tr.aAQ L) _) fun h' nx hh=>?_;have hT:bX [(o1,a.map Tr.v),(o2,b.map Tr.v),(o3,c.map Tr.v)]=(a++(b++c)).map Tr.v:=by simp[bX]
 have c:=ix A9 A5 or own [(o1,a.map Tr.v),(o2,b.map Tr.v),(o3,c.map Tr.v)] Zm (by rw[hT];simp;omega) h' nx;exact c.mono fun v h'' _ _ hv=>by rw[hT] at hv;exact hv
end Go.Proofs.YtgbiopfghdilnaaGreatDoor
namespace Go.Proofs.YtgbiopfghdilnaaGreatDoor
open Go.RowKit Go.Sort
attribute [local irreducible] IntKind.wrap
namespace LB
end LB
section
variable{P:Program}{α:Type} [DecidableEq α] [Inhabited α](e:α→V){k:Sh}{z:V}{q:mS}
end
namespace LB
end LB
theorem Aa{hc h:Hp}{n:Nat}(hh:Hp.has hc h)(hn:hc n=none)(b:Blk):Hp.has hc (h.set n b):=fun m k e hb=>by
 unfold Kc;rw[if_neg (fun e2=>by rw[e2,hn] at e;cases e)];exact hh m k e hb
section
variable{P:Program}{α:Type} [Inhabited α](e:α→V){k:Sh}{z:V}
theorem sI{f:Nat}(aAK:∀x,(e x).fits k=true)(hL:aD P f=some (LB.aAU k))(p:α→Bool)(n:Nat)(l:List α)(g:Nat)(caps:List V)(h:Hp)(hn:h n=some (.arr k (l.map e)))(hp:∀x∈l,aM P g ([e x]++caps) h (.bool (p x)))(hl:l.length≤1000000000):
 aM P f [.rs n k 0 l.length, .fn (.func g) [] caps] h (.int .i64 (bE p l)):=by
 refine aJ (fun L=>trivial) fun h' nx hh=>aB hL fun hd=>?_;have hn':=hh n _ hn rfl;simp only[jL,jM,jA,jB,jN,jO,jP,jQ,Kb];refine au ?_;refine aS (fun i:Nat=>aF 19 0 [(0, .rs n k 0 l.length),(1, .fn (.func g) [] caps),(7, .int .i64 l.length),(8, .int .i64 i)]) (fun i hp2 _=>i≤l.length∧hp2=h'∧∀x∈l.take i,p x=false) (fun i=>l.length-i) 0 ⟨Kk _,rfl,Zm⟩ ?_ ?_
 ·simp only[WkL,aF,jH,jI,jJ,go_sem,reduceIte,jA,jB,jC,jD,reduceCtorEq,jE,jF]
 rintro i hp2 nx1 ⟨hi,rfl,hno⟩;generalize hQ:bK _ _ _ _ _=Q0;simp only[aF,go_sem,reduceIte,jA,jB,jC,jD,reduceCtorEq,jE,jF];rcases Ks i l.length with hlt|hge
 ·have hc:decide ((i:Int)<(l.length:Int))=true:=decide_eq_true or;have hg:=aN e l i hlt;have hw:IntKind.i64.wrap ((i:Int)+1)=((i+1:Nat):Int):=by rw[eR]<;>omega
  have htk:l.take (i+1)=l.take i++[l[i]]:=Ke hlt
  (repeat' (first|(with_reducible first|refine stp ?_|refine cA ZM ?_|refine sT (fun _=>?_) (fun _=>?_))|((first|(with_reducible refine nC ?_;first|refine kO rfl ?_ ?_|refine fX rfl (hp l[i] (Km _)) (by simp only[go_sem,reduceIte,jA,jB,jC,jD,reduceCtorEq,jE,jF]) hh ?_|refine Zx ?_)|(with_reducible refine nH ?_;first|refine kU rfl ?_ ?_|refine ZX ?_)|refine Zy ?_)<;>try simp only[hc,hg,hw,hlt,hn',aAK,jK,jG,jQ,go_sem,reduceIte,jA,jB,jC,jD,reduceCtorEq,jE,jF])|refine ZY ?_|omega))
  ·rename_i hx;rw[←hQ];refine au ?_;refine aC hp2 (Ka _) ⟨?_,rfl⟩;refine Zn ?_;rw[bE,(Kf (p:=p) (xs:=l) (i:=i)).2 ⟨hlt,hx,fun j hj=>by simp[hno l[j] (Kp.2 ⟨j,or,rfl⟩)]⟩]
  rename_i hx;rw[←hQ];refine aG (i+1) or ⟨hlt,rfl,fun x hx2=>?_⟩ ?_
  ·rw[htk] at hx2;rcases KA.1 hx2 with h1|h1
   ·exact hno x h1
   simp at h1;rw[h1];exact hx
  simp only[WkL,aF,jH,jI,jJ,go_sem,reduceIte,jA,jB,jC,jD,reduceCtorEq,jE,jF]
 have hc:decide ((i:Int)<(l.length:Int))=false:=decide_eq_false or;refine aue hc ?_;rw[←hQ];refine au ?_;refine aC hp2 (Ka _) ⟨?_,rfl⟩;refine Zn ?_;rw[show i=l.length by omega,Kg] at hno;rw[bE,Kq.2 (fun x hx=>by simp[hno x hx])]
theorem mz(p:α→Bool)(l:List α):((bE p l==-1)=true↔∀x∈l,p x=false)∧∀i:Nat,bE p l=i→∃h:i<l.length,p l[i]=true∧∀x∈l.take i,p x=false:=by
 unfold bE;cases hf:l.findIdx? p with
 |none=>
  have:=Kq.1 hf;refine⟨by simpa using this,fun i hi=>?_⟩;exact absurd hi (by simp only;omega)
 |some j=>
  obtain⟨h1,h2,h3⟩:=Kf.1 hf;refine⟨⟨fun h=>?_,fun h=>?_⟩,fun i hi=>?_⟩
  ·exfalso;simp at h<;>omega
  ·have:=h l[j] (Km _);rw[this] at h2;cases h2
  have:j=i:=by simp only at hi;omega
  subst this;refine⟨h1,h2,fun x hx=>?_⟩;obtain⟨q,hq,rfl⟩:=Kp.1 hx;have:=h3 q or;simpa using this
end
set_option maxHeartbeats 4000000
theorem aun{G B p:Prop}(E:p)(k:B)(h:p→PLift B→G:=by
 intro E k
 (repeat' (first|(with_reducible first|refine stp ?_|refine cA (by decide) ?_)|((first|(with_reducible refine nC ?_;first|refine kO rfl ?_ ?_|refine aH (C1 _) rfl (aK _) ?_|refine aH (C2 _) rfl (aK _) ?_|refine aH (C3 _) rfl (aK _) ?_|refine aH (C4 _) rfl (aK _) ?_|refine aH C5 rfl (aK _) ?_|refine aH C6 rfl (aK _) ?_|(first|refine eZ rfl ?_|refine fA rfl ?_)|refine dN rfl ?_)|(with_reducible refine nH ?_;first|refine kU rfl ?_ ?_|refine bH (D1 _) rfl (aZ _) ?_|refine bH (D2 _) rfl (aZ _) ?_|refine bH (D3 _) rfl (aZ _) ?_|refine bH (D4 _) rfl (aZ _) ?_|refine bH (D5 _) rfl (aZ _) ?_|refine bH (D6 _) rfl (aZ _) ?_|refine zO rfl rfl (by decide) (by(simp only[dD,go_sem,reduceIte,jA,jB,jC,jD,reduceCtorEq,jE,jF])<;>try omega) (by simp only[go_sem,reduceIte,jA,jB,jC,jD,reduceCtorEq,jE,jF]) (by simp only[go_sem,reduceIte,jA,jB,jC,jD,reduceCtorEq,jE,jF]) (by simp only[E,go_sem,reduceIte,jA,jB,jC,jD,reduceCtorEq,jE,jF]) ?_|(first|refine fC rfl ?_|refine fD rfl ?_)|refine dQ rfl ?_|refine gO (hZ ?_)|refine gO (kR ?_))|(with_reducible refine nJ ?_;refine gY rfl ?_))<;>try simp only[E,jK,go_sem,reduceIte,jA,jB,jC,jD,reduceCtorEq,jE,jF])|(with_reducible refine nG ?_;refine iM rfl ?_)|omega))
 exact k.down):G:=h E ⟨k⟩
def OwL(h:Hp)(n0:Nat)(k:Sh)(es:List V)(v:V):Prop:=(es=[]∧v= .sl k .nil [])∨(es≠ []∧∃id,n0≤id∧v= .rs id k 0 es.length∧h id=some (.arr k es))
theorem OwL.le{h h':Hp}{n0:Nat}{k:Sh}{es:List V}{v:V}(o:OwL h n0 k es v)(hle:h.le h'):OwL h' n0 k es v:=o.imp id fun⟨a,i,b,c,d⟩=>⟨a,i,b,c,hle _ _ d⟩
theorem wu(n:Nat)(l:List ByteArray)(hl:l.length≤1000000000)(x:ByteArray)(h:Hp)(hn:h n=some (.arr .leaf (l.map V.str))):aM Tryz.prog 82 [.rs n .leaf 0 l.length, .str x] h (.int .i64 (bE (fun y=>decide (x=y)) l)):=by
 refine aJ (fun L=>trivial) fun h' nx hh=>aB L.aPz fun hd=>?_;simp only[jL,jM,jA,jB,jN,jO,jP,jQ,Kb];have hn1:=hh _ _ hn rfl;have hn2:n<nx:=hd _ _ hn1;refine aue trivial ?_;refine aS (fun i:Nat=>aF 19 0 [(0, .rs n .leaf 0 l.length),(1, .str x),(7, .int .i64 l.length),(8, .int .i64 i)]) (fun i hp nx1=>i≤l.length∧hp=h'∧∀y∈l.take i,decide (x=y)=false) (fun i=>l.length-i) 0 ⟨Kk _,rfl,Zm⟩ (by simp only[WkL,aF,jH,jI,jJ,go_sem,reduceIte,jA,jB,jC,jD,reduceCtorEq,jE,jF]) ?_;rintro i hp nx1 ⟨hi,rfl,hno⟩;generalize hQ:bK _ _ _ _ _=Q0;simp only[aF,go_sem,reduceIte,jA,jB,jC,jD,reduceCtorEq,jE,jF];rcases Ks i l.length with hlt|hge
 ·have hc:decide ((i:Int)<(l.length:Int))=true:=dct;have hg:=aN V.str l i hlt;have hw:IntKind.i64.wrap ((i:Int)+1)=((i+1:Nat):Int):=wrp;have hbe:=eN x l[i];have z0:0+i=i:=Kx _;cases k:decide (x=l[i]) with
  |true=>
   rw[k] at hbe;refine aue (e8 hc hg hbe hlt (jG i) hn1 z0 (@jK ByteArray V)) ?_;rw[←hQ];refine au ?_;have:l.findIdx? (fun y=>decide (x=y))=some i:=by
    rw[Kf];refine⟨hlt,k,fun j hj=>?_⟩;have:=hno l[j] (Kp.2 ⟨j,or,rfl⟩);simp[this]
   exact aC hp (leo hd) ⟨by simp only[bE,this];rfl,rfl⟩
  |false=>
   rw[k] at hbe;refine aue (e9 hc hg hbe hlt (jG i) hw hn1 z0 (@jK ByteArray V)) ?_;rw[←hQ];refine aG (i+1) or ⟨or,rfl,fun y hy=>?_⟩ (by simp only[WkL,aF,jH,jI,jJ,go_sem,reduceIte,jA,jB,jC,jD,reduceCtorEq,jE,jF]);rw[Ke hlt,KA,List.mem_singleton] at hy;rcases hy with hy|rfl
   ·exact hno y hy
   exact k
 have hc:decide ((i:Int)<(l.length:Int))=false:=dcf;refine aue hc ?_;rw[←hQ];refine au ?_;have hi':i=l.length:=or;rw[hi',Kg] at hno;have:l.findIdx? (fun y=>decide (x=y))=none:=by
  rw[Kq];exact fun y hy=>hno y hy
 exact aC hp (leo hd) ⟨by simp only[bE,this];rfl,rfl⟩
theorem bh{h:Hp}{n0:Nat}{l:List ByteArray}{v:V}(hv:OwL h n0 .leaf (l.map V.str) v)(hl:l.length≤1000000000)(x:ByteArray):aM Tryz.prog 41 [v, .str x] h (.bool (cD x l)):=by
 rcases hv with⟨h1,rfl⟩|⟨h1,id,h2,rfl,h3⟩
 ·have:l=[]:=by simpa using h1
  subst this;exact gP .nil [] Zm x h
 refine aJ (fun L=>trivial) fun h' nx hh=>aB L.aSj fun hd=>?_;have C5:=wu id l hl x h' (hh _ _ h3 rfl);simp only[jK,jL,jM,jA,jB,jN,jO,jP,jQ,Kb];refine au ?_;exact aC h' (leo hd) ⟨by unfold cD;rw[←oR];rfl,rfl⟩
theorem tL(o:Own)(ts:List Tr)(ht:ts.length≤100000000)(l:List ByteArray)(hl:l.length≤100000000)(v0:V)(h:Hp)(nx n0:Nat)(hn0:n0≤nx)(hv0:OwL h n0 .leaf (l.map V.str) v0):
 aQ Tryz.prog 44 [v0,trs o ts] h nx fun v h' nx'=>OwL h' n0 .leaf ((nmL l ts).map V.str) v∧Kd n0 h h':=by
 refine aB L.aVG fun hd=>?_;simp only[jL,jM,jA,jB,jN,jO,jP,jQ,Kb];refine aue (e2 trs.eq_1 (@jK Tr V)) ?_
 refine aS (fun q:Nat×V×List ByteArray=>aF 30 0 [(0,q.2.1),(7, .sl (.agg 4) o (ts.map Tr.v)),(8, .int .i64 ts.length),(9, .int .i64 q.1)])
  (fun q hp nx1=>q.1≤ts.length∧nx≤nx1∧aW hp nx1∧Kd n0 h hp∧OwL hp n0 .leaf (q.2.2.map V.str) q.2.1∧q.2.2=nmL l (ts.take q.1)∧q.2.2.length≤l.length+q.1)
  (fun q=>ts.length-q.1) (0,v0,l) ⟨Kk _,Kj _,hd,Hp.same.aBb,hv0,rfl,Kj _⟩ (by simp only[WkL,aF,jH,jI,jJ,jK,go_sem,reduceIte,jA,jB,jC,jD,reduceCtorEq,jE,jF]) ?_
 rintro⟨i,v,l1⟩ hp nx1 ⟨hi,hnx,hdm,hsm,aA2,hl1,hlen⟩;generalize hQ:bK _ _ _ _ _=Q0;dsimp only at hi aA2 hl1 hlen;simp only[aF,go_sem,reduceIte,jA,jB,jC,jD,reduceCtorEq,jE,jF];rcases Ks i ts.length with hlt|hge
 ·have hc:decide ((i:Int)<(ts.length:Int))=true:=dct;have hg:=aN Tr.v ts i hlt;have hw:IntKind.i64.wrap ((i:Int)+1)=((i+1:Nat):Int):=wrp;have aAZ:nmL l (ts.take (i+1))=nmT l1 ts[i]:=by rw[Ke hlt,AY,←hl1];rfl
  generalize ts[i]=T at hg aAZ;have hTf:=Tr.aAD T;have h0:=rI T.x;have hne:(!(T.x.toList==(⟨#[]⟩:ByteArray).toList))= !decide (T.x.size=0):=by rw[h0]
  unfold nmT at aAZ;by_cases hz:T.x.size=0
  ·have g1:decide (T.x.size=0)=true:=dct;rw[if_neg (by simp[hz])] at aAZ;refine aue (e9 hc hg hlt Tr.v.eq_1 h0 g1 hw (@jK Tr V) jG) ?_;rw[←hQ];exact aG (i+1,v,l1) Zw ⟨hlt,or,dmo hdm,kep hsm,aA2.le (leo hdm),aAZ.symm,Zw⟩ (by simp only[WkL,aF,jH,jI,jJ,go_sem,reduceIte,jA,jB,jC,jD,reduceCtorEq,jE,jF])
  have g1:decide (T.x.size=0)=false:=dcf;have C:=bh aA2 or T.x;cases hb:cD T.x l1 with
  |true=>
   rw[hb] at C;rw[if_neg (by simp[hb])] at aAZ;refine aue (e8 hc hg hlt Tr.v.eq_1 h0 g1 (@jK Tr V) jG) ?_;refine aH C rfl (tS (leo hdm)) ?_;refine Zn ?_;refine aue (e2 hw hc) ?_;rw[←hQ];exact aG (i+1,v,l1) Zw ⟨hlt,or,dmo hdm,kep hsm,aA2.le (leo hdm),aAZ.symm,Zw⟩ (by simp only[WkL,aF,jH,jI,jJ,go_sem,reduceIte,jA,jB,jC,jD,reduceCtorEq,jE,jF])
  |false=>
   rw[hb] at C;rw[if_pos (by simp[hb,hz])] at aAZ;refine aue (e8 hc hg hlt Tr.v.eq_1 h0 g1 (@jK Tr V) jG) ?_;refine aH C rfl (tS (leo hdm)) ?_;refine Zn ?_;rcases aA2 with⟨q1,rfl⟩|⟨q1,id,q2,rfl,q3⟩
   ·have hl0:l1=[]:=by simpa using q1
    subst hl0;refine aun (e4 hc Tr.v.eq_1 (@jK Tr V) hw) ?_;refine fT rfl rfl Zm (by simp only[jL,jM];omega) ?_;refine Zn ?_;refine aue hw ?_;rw[←hQ];refine aG (i+1, .rs (nx1+3) .leaf 0 1,[T.x]) Zw ⟨hlt,or,dmo hdm,kep hsm, .inr ⟨Zm,nx1+3,or,Zm,by simp only[go_sem,reduceIte,jA,jB,jC,jD,reduceCtorEq,jE,jF]⟩,aAZ.symm,by simp;omega⟩ (by simp only[WkL,aF,jH,jI,jJ,go_sem,reduceIte,jA,jB,jC,jD,reduceCtorEq,jE,jF])
   have hid:id<nx1:=hdm _ _ q3;have hlm:(l1.map V.str).length=l1.length:=jK ..;have htk:(l1.map V.str).take l1.length=l1.map V.str:=Ki Zm;refine aue (e10 hc Tr.v.eq_1 (@jK Tr V) hw q3 hid hlm htk hlen (@jK ByteArray V)) ?_;rw[←hQ];refine aG (i+1, .rs (nx1+3) .leaf 0 (l1.length+1),l1++[T.x]) Zw ⟨hlt,or,dmo hdm,kep hsm, .inr ⟨Zm,nx1+3,or,Zm,by simp only[List.map_append,KC,KE,go_sem,reduceIte,jA,jB,jC,jD,reduceCtorEq,jE,jF]⟩,aAZ.symm,by simp;omega⟩ (by simp only[WkL,aF,jH,jI,jJ,go_sem,reduceIte,jA,jB,jC,jD,reduceCtorEq,jE,jF])
 have hc:decide ((i:Int)<(ts.length:Int))=false:=dcf;refine aue hc ?_;rw[←hQ];refine au ?_;rw[Ki or] at hl1;exact aC hp (Ka _) ⟨by rw[←hl1];exact aA2,hsm⟩
end Go.Proofs.YtgbiopfghdilnaaGreatDoor
namespace Go.Proofs.YtgbiopfghdilnaaGreatDoor
open Go.RowKit Go.Sort
attribute [local irreducible] IntKind.wrap
set_option maxHeartbeats 4000000
theorem aQ.down{P:Program}{f:FuncId}{args:List V}{h:Hp}{nx:Nat}{R R':V→Hp→Nat→Prop}(c:aQ P f args h nx R)(hc:∀v h' nx',nx≤nx'→aW h' nx'→R v h' nx'→∃h2,h2.le h'∧R' v h2 nx'):aQ P f args h nx R':=
 ⟨c.1,fun K cargs hlv hrel hv=>(c.2 K cargs hlv hrel hv).mono fun _ _ ⟨K',v,cv,h',nx',a,b,q,d,e,g,i,j⟩=>by
   obtain⟨h2,k1,k2⟩:=hc v h' nx' i (fun m b hm=>(g m (e.lt m b hm)).1) j;exact⟨K',v,cv,h2,nx',a,b,q,d,e.weaken k1,g,i,k2⟩⟩
theorem ki{P:Program}{f:FuncId}{args:List V}{h:Hp}{k:Sh}{es:List V}(hn:∀L,bD L es)(c:∀h' nx,h.has h'→aQ P f args h' nx fun v h'' _=>OwL h'' nx k es v∧Kd nx h' h''):aM P f args h (lst k es):=by
 refine oF hn fun h' nx hh=>⟨(c h' nx hh).1,fun K cargs hlv hrel aBj=>?_⟩;have hd:aW h' nx:=fun m b e=>hlv m (hrel.lt m b e);refine((c h' nx hh).down (R':=fun v h'' _=>ja nx h' k es v h'') ?_).2 K cargs hlv hrel aBj;rintro v h'' nx' hnx hdm ⟨⟨h1,h2⟩|⟨h1,id,h2,h3,h4⟩,hs⟩
 ·exact⟨h',hs.le hd (Ka _), .inl ⟨h1,h2,rfl⟩⟩
 refine⟨h'.set id (.arr k es),fun m b e=>?_, .inr ⟨h1,id,h2,h3,rfl⟩⟩;simp only[Kc] at e;split at e
 ·rename_i hm;rw[hm,h4];exact e
 exact hs.le hd (Ka _) m b e
theorem vV(l:Li)(hl:cF l=true)(h:Hp):aM Tryz.prog 45 [l.v] h (lst (.agg 4) (l.ts.map Tr.v)):=by
 refine aJ (fun L=>cZ (fun L=>bB (Tr.aAQ L) _) L) fun h' nx hh=>aB L.aVF fun hd=>?_;have b0:=gW hl;obtain⟨b1,b2,b3⟩:=kE hl;have b4:=lK b2;have b5:=lK b3;obtain⟨o2,ho2⟩:=cL (.agg 4) (l.x.ts.map Tr.v);obtain⟨o3,ho3⟩:=cL (.agg 4) (l.y.ts.map Tr.v);have D1:∀h:Hp,aM Tryz.prog 89 [.agg [.int .i64 l.x.op, .str l.x.t.x, .int .i64 l.x.t.w.k, .int .i64 l.x.t.w.n, .str l.x.t.w.s, .sl (.agg 6) l.x.o (l.x.kids.map Ex.v)]] h (.fn (.func 138) [] [.ept (.agg 6) [l.x.v] 0 0]):=fun h=>(show V.agg l.x.cs=_ from rfl)▸Ex.aAs l.x▸rF l.x h;have D3:∀h:Hp,aM Tryz.prog 89 [.agg [.int .i64 l.y.op, .str l.y.t.x, .int .i64 l.y.t.w.k, .int .i64 l.y.t.w.n, .str l.y.t.w.s, .sl (.agg 6) l.y.o (l.y.kids.map Ex.v)]] h (.fn (.func 138) [] [.ept (.agg 6) [l.y.v] 0 0]):=fun h=>(show V.agg l.y.cs=_ from rfl)▸Ex.aAs l.y▸rF l.y h;have D2:∀h:Hp,aM Tryz.prog 88 [.fn (.func 138) [] [.ept (.agg 6) [l.x.v] 0 0]] h (.sl (.agg 4) o2 (l.x.ts.map Tr.v)):=fun h=>ho2▸nM l.x b2 h;have D4:∀h:Hp,aM Tryz.prog 88 [.fn (.func 138) [] [.ept (.agg 6) [l.y.v] 0 0]] h (.sl (.agg 4) o3 (l.y.ts.map Tr.v)):=fun h=>ho3▸nM l.y b3 h;have D5:∀(n:Nat) (h:Hp),aM Tryz.prog 87 [.sl .leaf (.tok n) [trs l.a.o l.a.l,trs o2 l.x.ts,trs o3 l.y.ts]] h (lst (.agg 4) (l.ts.map Tr.v)):=fun n h=>jb _ _ _ _ _ _ _ or h;obtain⟨X,hX⟩:∃X,l.x.v=X:=⟨_,rfl⟩;obtain⟨Y,hY⟩:∃Y,l.y.v=Y:=⟨_,rfl⟩;rw[hX] at D1 D2;rw[hY] at D3 D4;rw[Li.aAs];simp only[jL,jM,jA,jB,jN,jO,jP,jQ,Kb];have D5:=D5 (nx+12);refine aue trs.eq_1 ?_;exact aC h' (leo hd) ⟨rfl,rfl⟩
theorem vG(o:Own)(ts:List Tr)(ht:ts.length≤100000000)(h:Hp):aM Tryz.prog 44 [.sl .leaf .nil [],trs o ts] h (lst .leaf ((nmL [] ts).map V.str)):=by
 exact ki (fun L=>bB (f:=V.str) (fun x=>trivial) _) fun h' nx hh=>tL o ts ht [] Zm _ h' nx nx (Kj _) (.inl ⟨rfl,rfl⟩)
theorem tC(l:Li)(hl:cF l=true)(h:Hp):aM Tryz.prog 40 [l.v] h (lst .leaf (l.vars.map V.str)):=by
 refine aJ (fun L=>cZ (fun L=>bB (f:=V.str) (fun x=>trivial) _) L) fun h' nx hh=>aB L.aVJ fun hd=>?_;have b0:=gW hl;obtain⟨o2,ho2⟩:=cL (.agg 4) (l.ts.map Tr.v);have C1:=fun h=>ho2▸vV l hl h;have C2:=fun h=>vG o2 l.ts or h;obtain⟨X,hX⟩:∃X,l.v=X:=⟨_,rfl⟩;have hf:=Li.aAD l;rw[hX] at C1 hf⊢;simp only[jL,jM,jA,jB,jN,jO,jP,jQ,Kb];refine aue hf ?_;exact aC h' (leo hd) ⟨rfl,rfl⟩
theorem uj(e:Ex)(he:oh e=true)(h:Hp):aM Tryz.prog 176 [e.v] h (lst .leaf ((nmL [] e.ts).map V.str)):=by
 refine aJ (fun L=>cZ (fun L=>bB (f:=V.str) (fun x=>trivial) _) L) fun h' nx hh=>aB L.aR4 fun hd=>?_;have b0:=lK he;obtain⟨o2,ho2⟩:=cL (.agg 4) (e.ts.map Tr.v);have C1:=fun h=>rF e h;have C2:=fun h=>ho2▸nM e he h;have C3:=fun h=>vG o2 e.ts or h;obtain⟨X,hX⟩:∃X,e.v=X:=⟨_,rfl⟩;have hf:=Ex.aAD e;rw[hX] at C1 C2 hf⊢;simp only[jL,jM,jA,jB,jN,jO,jP,jQ,Kb];refine aue hf ?_;exact aC h' (leo hd) ⟨rfl,rfl⟩
theorem se(r:Ru)(hr:eQ r=true)(h:Hp)(nx:Nat):aQ Tryz.prog 12 [r.v] h nx fun v h' nx'=>OwL h' nx .leaf (r.vars.map V.str) v∧Kd nx h h':=by
 refine aB L.g6z fun hd=>?_;obtain⟨b1,b2,b3⟩:=dI hr;have hlen:=jn hr;simp only[jL,jM,jA,jB,jN,jO,jP,jQ,Kb];refine aue (e3 Ru.v.eq_1 trs.eq_1 (@jK Li V)) ?_;refine bG ((tL r.h.o r.h.l or [] Zm _ _ (nx+1) (nx+1) or (.inl ⟨rfl,rfl⟩)).dom.mono ?_);rintro v1 h1 nx1 aAn ⟨⟨ho1,hs1⟩,hd1,_⟩;unfold cN;refine Zn ?_;have hb1:h1 nx=some (.arr (.agg 6) [.agg [.str r.h.r, .sl (.agg 4) r.h.o (r.h.l.map Tr.v), .int .i64 r.g, .int .i64 r.c, .sl (.agg 17) r.o (r.b.map Li.v), .int .i64 r.at_]]):=by rw[hs1 nx or];simp only[go_sem,reduceIte,jA,jB,jC,jD,reduceCtorEq,jE,jF]
 have n1:nx<nx1:=hd1 _ _ hb1;refine aue (e3 hb1 n1 (@jK Li V)) ?_;have hs0:Kd nx h h1:=fun m hm=>by rw[hs1 m or];simp only[Kc];rw[if_neg or]
 refine aS (fun q:Nat×V=>aF 23 0 [(3,q.2),(11, .sl (.agg 17) r.o (r.b.map Li.v)),(12, .int .i64 r.b.length),(13, .int .i64 q.1)])
  (fun q hp nx2=>q.1≤r.b.length∧nx1≤nx2∧aW hp nx2∧Kd nx h hp∧OwL hp (nx+1) .leaf ((vA (r.b.take q.1) (nmL [] r.h.l)).map V.str) q.2)
  (fun q=>r.b.length-q.1) (0,v1) ⟨Kk _,Zw,dmo hd1,hs0,ho1⟩ (by simp only[WkL,aF,jH,jI,jJ,jK,go_sem,reduceIte,jA,jB,jC,jD,reduceCtorEq,jE,jF]) ?_
 rintro⟨i,v⟩ hp nx2 ⟨hi,hnx,hdm,hsm,aA2⟩;generalize hQ:bK _ _ _ _ _=Q0;dsimp only at hi aA2;simp only[aF,go_sem,reduceIte,jA,jB,jC,jD,reduceCtorEq,jE,jF];rcases Ks i r.b.length with hlt|hge
 ·have hc:decide ((i:Int)<(r.b.length:Int))=true:=dct;have hg:=aN Li.v r.b i hlt;have hw:IntKind.i64.wrap ((i:Int)+1)=((i+1:Nat):Int):=wrp;have aAZ:=pd r.b (nmL [] r.h.l) i hlt;have hrl:=b3 r.b[i] (Km _);have hlv:=hlen i;generalize r.b[i]=T at hg aAZ hrl;have b0:=gW hrl;obtain⟨o2,ho2⟩:=cL (.agg 4) (T.ts.map Tr.v);have C1:=fun h=>ho2▸vV T hrl h;obtain⟨X,hX⟩:∃X,T.v=X:=⟨_,rfl⟩;have hTf:=Li.aAD T;rw[hX] at hg C1 hTf;refine aue (e6 hc hg hlt hTf (@jK Li V) jG) ?_;refine bG ((tL o2 T.ts or _ or v _ (nx2+2) (nx+1) or (aA2.le (leo hdm))).dom.mono ?_);rintro v2 h2 nx3 aAd ⟨⟨ho3,hs3⟩,hd3,_⟩;unfold cN;refine Zn ?_;refine aue hw ?_;rw[←hQ];refine aG (i+1,v2) Zw ⟨hlt,or,dmo hd3,fun m hm=>?_,by rw[aAZ];exact ho3⟩ (by simp only[WkL,aF,jH,jI,jJ,go_sem,reduceIte,jA,jB,jC,jD,reduceCtorEq,jE,jF]);rw[hs3 m or,←hsm m hm];simp only[Kc];rw[if_neg or,if_neg or]
 have hc:decide ((i:Int)<(r.b.length:Int))=false:=dcf;refine aue hc ?_;rw[←hQ];refine au ?_;rw[Ki or] at aA2;refine aC hp (Ka _) ⟨aA2.imp id fun⟨a,i,b,c,d⟩=>⟨a,i,or,c,d⟩,hsm⟩
end Go.Proofs.YtgbiopfghdilnaaGreatDoor
