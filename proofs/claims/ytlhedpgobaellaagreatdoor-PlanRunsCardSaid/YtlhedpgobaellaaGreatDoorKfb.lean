/-
Texts of this proof,one behind the other. No conditions.
-/
import Derived.Test.YtlhedpgobaellaaGreatDoorKf
import Derived.Laws.IdiomCopy
import Derived.Shelf.SlSortCmp.Whole1
import Derived.Lib.Overlaps
import Derived.Lib.AppendZerosOnto
import Derived.Laws.Externs
open Go.Proofs.YtlhedpgobaellaaGreatDoor.Hp renaming set→Ka,le_refl→Kd,same→Ks,none→Kw
open Go.Proofs.YtlhedpgobaellaaGreatDoor.V renaming undef→Kb,fits→Kh,loose→Km
open Go.Proofs.YtlhedpgobaellaaGreatDoor.Sh renaming size→Kc
open List renaming getD_eq_getElem?_getD→Ke,take_succ_eq_append_getElem→Kf,drop_eq_getElem_cons→Kg,replicate→Ki,getElem?_append_left→Kk,drop_of_length_le→Ko,getElem?_append_right→Kq,append_assoc→Ku,getElem?_eq_getElem→Kv,mem_append→Kz,take_append_of_le_length→KA,take_length→KC,getElem_mem→KD,mem_cons→KG,length_append→KM,mem_map→KO,mem_of_mem_take→KP,nil_append→KR,getElem?_take→KV,length_eq_zero_iff→KX,findIdx?_eq_some_iff_getElem→KZ,getElem?_map→Qa,take_of_length_le→Qb,map_cons→Qc,take_append_drop→Qe,getElem?_toArray→Qg,append_nil→Qh,length_map→Qi,nodup_cons→Qj,take_succ_cons→Qk,replicate_succ→Qm,replicate_zero→Qo,drop_zero→Qp,getElem?_drop→Qq,mem_take_iff_getElem→Qr,findIdx?_eq_none_iff→Qt,size_toArray→Qu,length_cons→Qx,cons_append→Qy,length_nil→QA,take_left'→QD,length_singleton→QG,take_zero→QI,drop_drop→QK,mem_of_mem_drop→QM,flatMap_append→QN,getElem?_range→QO,pairwise_map→QS,length_take→QW,length_drop→QX,drop_length→QY,drop_append→Wa,take_take→Wd,map_nil→Wi,length→Wl,range→Wo
open Array renaming getD_eq_getD_getElem?→Kj,getElem?_append_left→KE,length_toList→Ql,getElem?_eq_getElem→Qv,getElem?_eq_none→QB,getElem?_modify→QF,size_append→QT,ext→Wg,getD→Wp
open Nat renaming le_refl→Kp,lt_or_ge→Kt,zero_le→Kx,zero_add→KB,mul_one→KF,mul_le_mul_right→KH,zero_mul→KL,add_zero→KW,add_mul→Qf,lt_succ_of_lt→Qw,lt_succ_self→Qz,min_def→QH,reduceAdd→QP,reduceSub→QQ,sub_zero→QR,le_succ→QZ,lt_irrefl→Wh,sub_self→Wj,mod_one→Wm,sub_mul→Wn
open Go.Builtin renaming append_→Ky,copy_→KJ,zeroCells→KQ,lenOf→Wb
open Go renaming undef→KI
open Go.IntKind renaming wrap_i64→KK,wrap→KN
open Option renaming isSome_none→KS,map_eq_some_iff→QC,getD_some→QU
open Bool renaming false_eq_true→KU,not_false→KY,not_true→Qd,true_and→Wf
open Go.World renaming shape?→QE,cell?→QL,frozen?→Wc
open Int renaming toNat_zero→QJ
open Nat renaming reduceAdd→jA,reduceSub→jB,reduceLT→jC,reduceLeDiff→jD,reduceEqDiff→jE
open Int renaming reduceToNat→jF,toNat_natCast→jG,natCast_add→jH,natCast_one→jI,natCast_zero→jJ
open List renaming length_map→jK,length_cons→jL,length_nil→jM,replicate_succ→jN,replicate_zero→jO,cons_append→jP,nil_append→jQ
set_option linter.all false
set_option maxHeartbeats 8000000
namespace Go.Proofs.YtlhedpgobaellaaGreatDoor
open Go.RowKit
attribute [local go_sem] Option.some.injEq Prod.mk.injEq false_and and_false Bool.true_eq_false HB Fu G5 AB Eu if_true Wf Fq sB ie rP jU aA.ok aA.next LOp.ok LOp.next aW.ok aW.out aK.ev bL xr pB mY yI Kb Kc qU yX iH aA.dok aA.aCv LOp.dok LOp.aEH wy xb iB iC Qk QI List.take_nil List.drop_succ_cons Qp List.drop_nil List.set_cons_succ List.set_cons_zero List.getD_cons_succ List.getD_cons_zero jL jM Qc Wi List.all_cons List.all_nil KG List.not_mem_nil jN jO jP jQ Qh List.isEmpty_cons List.isEmpty_nil fB gC sG QU Option.isSome_some KS Nat.add_eq KB KW true_and and_true and_self true_implies implies_true false_implies forall_const forall_eq forall_eq_or_imp ne_eq not_false_eq_true not_true_eq_false Qd KY decide_true decide_false Bool.and_true Wf Bool.and_false Bool.false_and true_or or_true false_or or_false eq_self KU Hi Ep iY aD cW eC iD xE tB xD lA nQ dQ jG QJ KC Hp.aAM Hp.aAw wW vB aA.plain LOp.aAY aA.aBw LOp.aBo u0 Hx Fg Ib Ah V.aDG V.aCW A7 ui uj A6 eL bI gF oK qJ beq_true beq_false ma mb mc fm fp vU vV fX wj fz nm nj wL nk nn ve vf wM nl tP fy vh zQ ni zR rS yj DP DQ DO ox i6 xg fA sa r9 r8 r7 rz bw bv j9 j8 j7 b8 bz bx se sd sb kj ki kg tC iu eK bt Hp.aBY lO Option.isNone_some Option.isNone_none
namespace LB
abbrev aGW(k:Sh):List aA:=[
 ⟨some 4,none, .val (.move (.const (.sl k .nil [])))⟩]
abbrev aGV:List aA:=[
 ⟨some 5,none, .val (.move (.slot 1))⟩,
 ⟨some 6,none, .val (.bin .lss (.slot 5) (.const (.int .i64 0)))⟩]
abbrev aGU(ts:Nat):List aA:=[
 ⟨some 7,none, .val (.mkif ts (.const (.str ⟨#[99,97,110,110,111,116,32,98,101,32,110,101,103,97,116,105,118,101]⟩)))⟩,
 ⟨none,none, .val (.never)⟩]
abbrev aGT:List aA:=[
 ⟨some 8,none, .val (.move (.slot 1))⟩,
 ⟨some 9,none, .val (.move (.slot 0))⟩,
 ⟨some 10,none, .val (.capv (.slot 9))⟩,
 ⟨some 11,none, .val (.move (.slot 0))⟩,
 ⟨some 12,none, .val (.len (.slot 11))⟩,
 ⟨some 13,none, .val (.bin .sub (.slot 10) (.slot 12))⟩,
 ⟨some 14,none, .val (.bin .sub (.slot 8) (.slot 13))⟩,
 ⟨some 1,none, .val (.move (.slot 14))⟩]
abbrev aGS:List aA:=[
 ⟨some 15,none, .val (.move (.slot 1))⟩,
 ⟨some 16,none, .val (.bin .gtr (.slot 15) (.const (.int .i64 0)))⟩]
abbrev aGR(k:Sh)(z:V)(bs:Nat):List aA:=[
 ⟨some 17,none, .val (.move (.slot 0))⟩,
 ⟨some 18,none, .val (.move (.slot 0))⟩,
 ⟨some 19,none, .val (.capv (.slot 18))⟩,
 ⟨some 20,none, .val (.slc k (.slot 17) .none (.some (.slot 19)) .none)⟩,
 ⟨some 21,none, .val (.move (.slot 1))⟩,
 ⟨some 22,none, .appz k bs (.slot 20) (.slot 21) z⟩,
 ⟨some 23,none, .val (.move (.slot 0))⟩,
 ⟨some 24,none, .val (.len (.slot 23))⟩,
 ⟨some 25,none, .val (.slc k (.slot 22) .none (.some (.slot 24)) .none)⟩,
 ⟨some 0,none, .val (.move (.slot 25))⟩]
abbrev aGQ:List aA:=[
 ⟨some 26,none, .val (.move (.slot 0))⟩,
 ⟨some 4,none, .val (.move (.slot 26))⟩]
def Grow(k:Sh)(z:V)(bs:Nat)(ts:Nat):LFn:=⟨(.seq (.ops (aGW k)) (.seq (.seq (.ops aGV) (.cond (.slot 6) (.ops (aGU ts)) .skip)) (.seq (.seq (.ops aGT) (.seq (.ops aGS) (.cond (.slot 16) (.ops (aGR k z bs)) .skip))) (.seq (.ops aGQ) .ret)))),27,[.slot 4]⟩
abbrev aDc(k:Sh):List aA:=[
 ⟨some 2,none, .val (.move (.const (.sl k .nil [])))⟩]
abbrev aDb:List aA:=[
 ⟨some 3,none, .val (.move (.const (.int .i64 0)))⟩]
abbrev aDa:List aA:=[
 ⟨some 9,none, .val (.move (.slot 0))⟩,
 ⟨some 10,none, .val (.len (.slot 9))⟩,
 ⟨some 11,none, .val (.move (.const (.int .i64 0)))⟩]
abbrev aDZ:List aA:=[
 ⟨some 12,none, .val (.bin .lss (.slot 11) (.slot 10))⟩]
abbrev aDY:List aA:=[
 ⟨some 13,none, .val (.idxA .leaf (.slot 9) (.slot 11))⟩,
 ⟨some 14,none, .val (.load .leaf (.slot 13))⟩,
 ⟨some 5,none, .val (.move (.slot 14))⟩]
abbrev aDX:List aA:=[
 ⟨some 15,none, .val (.move (.slot 3))⟩,
 ⟨some 16,none, .val (.move (.slot 5))⟩,
 ⟨some 17,none, .val (.len (.slot 16))⟩,
 ⟨some 18,none, .val (.bin .add (.slot 15) (.slot 17))⟩,
 ⟨some 3,none, .val (.move (.slot 18))⟩]
abbrev aDW:List aA:=[
 ⟨some 19,none, .val (.move (.slot 3))⟩,
 ⟨some 20,none, .val (.bin .lss (.slot 19) (.const (.int .i64 0)))⟩]
abbrev aDV(ts:Nat):List aA:=[
 ⟨some 21,none, .val (.mkif ts (.const (.str ⟨#[108,101,110,32,111,117,116,32,111,102,32,114,97,110,103,101]⟩)))⟩,
 ⟨none,none, .val (.never)⟩]
abbrev aDU:List aA:=[
 ⟨some 22,none, .val (.bin .add (.slot 11) (.const (.int .i64 1)))⟩,
 ⟨some 11,none, .val (.move (.slot 22))⟩]
abbrev aDe(ts:Nat):aT:=(.seq (.ops aDZ) (.seq (.cond (.slot 12) .skip (.exit 0)) (.seq (.block 1 (.seq (.ops aDY) (.seq (.ops aDX) (.seq (.ops aDW) (.cond (.slot 20) (.ops (aDV ts)) .skip))))) (.ops aDU))))
abbrev aDT(k:Sh)(f0:Nat):List aA:=[
 ⟨some 23,none, .val (.move (.slot 3))⟩,
 ⟨some 24,none, .call f0 [(.const (.sl k .nil [])),(.slot 23)]⟩,
 ⟨some 6,none, .val (.move (.slot 24))⟩]
abbrev aCl:List aA:=[
 ⟨some 25,none, .val (.move (.slot 0))⟩,
 ⟨some 26,none, .val (.len (.slot 25))⟩,
 ⟨some 27,none, .val (.move (.const (.int .i64 0)))⟩]
abbrev aCk:List aA:=[
 ⟨some 28,none, .val (.bin .lss (.slot 27) (.slot 26))⟩]
abbrev aCj:List aA:=[
 ⟨some 29,none, .val (.idxA .leaf (.slot 25) (.slot 27))⟩,
 ⟨some 30,none, .val (.load .leaf (.slot 29))⟩,
 ⟨some 8,none, .val (.move (.slot 30))⟩]
abbrev aCi(k:Sh)(bs:Nat):List aA:=[
 ⟨some 31,none, .val (.move (.slot 6))⟩,
 ⟨some 32,none, .val (.move (.slot 8))⟩,
 ⟨some 33,none, .append k bs (.slot 31) (.slot 32)⟩,
 ⟨some 6,none, .val (.move (.slot 33))⟩]
abbrev aCh:List aA:=[
 ⟨some 34,none, .val (.bin .add (.slot 27) (.const (.int .i64 1)))⟩,
 ⟨some 27,none, .val (.move (.slot 34))⟩]
abbrev aDd(k:Sh)(bs:Nat):aT:=(.seq (.ops aCk) (.seq (.cond (.slot 28) .skip (.exit 2)) (.seq (.block 3 (.seq (.ops aCj) (.ops (aCi k bs)))) (.ops aCh))))
abbrev aCg:List aA:=[
 ⟨some 35,none, .val (.move (.slot 6))⟩,
 ⟨some 2,none, .val (.move (.slot 35))⟩]
def Concat(k:Sh)(bs:Nat)(ts:Nat)(f0:Nat):LFn:=⟨(.seq (.ops (aDc k)) (.seq (.ops aDb) (.seq (.seq (.ops aDa) (.block 0 (.loop (aDe ts)))) (.seq (.ops (aDT k f0)) (.seq (.seq (.ops aCl) (.block 2 (.loop (aDd k bs)))) (.seq (.ops aCg) .ret)))))),36,[.slot 2]⟩
end LB
section
variable{P:Program}{k:Sh}{bs ts:Nat}
theorem Fe{f:Nat}{z:V}(hL:aE P f=some (LB.Grow k z bs ts))(m:Nat)(hm:m≤1000000000)(hbs:bs≤140737)(h':Hp)(nx:Nat):
 aR P f [.sl k .nil [], .int .i64 m] h' nx fun v h'' _=>(m=0∧v= .sl k .nil []∧h''=h')∨(0<m∧∃id es,nx≤id∧v= .rs id k 0 0∧h''=h'.set id (.arr k es)):=by
 have hb:=tD hm hbs;refine aB hL fun hd=>?_;refine ZK ?_;have w1:IntKind.i64.wrap ((m:Int)-0)=m:=by rw[fY]<;>omega
 have w2:IntKind.i64.wrap ((0:Int)-0)=0:=by rw[fY]<;>omega
 repeat (first|with_reducible refine bS ?_|with_reducible refine bK ?_|with_reducible refine cE ?_|with_reducible refine aX ?_|with_reducible refine aU ?_|with_reducible refine cG ?_|(refine cF rfl (by simp only[ go_sem,reduceIte,jA,jB,jC,jD,reduceCtorEq,jE,jF];try omega) ?_;simp only[ go_sem,reduceIte,jA,jB,jC,jD,reduceCtorEq,jE,jF])|(with_reducible refine bQ ?_))
 refine dI _ rfl (fun hc=>?_) (fun hc=>?_)
 ·have:=of_decide_eq_true hc;omega
 repeat (first|with_reducible refine bS ?_|with_reducible refine bK ?_|with_reducible refine cE ?_|with_reducible refine aX ?_|with_reducible refine aU ?_|with_reducible refine cG ?_|(refine cF rfl (by simp only[w1,w2,jJ,go_sem,reduceIte,jA,jB,jC,jD,reduceCtorEq,jE,jF];try omega) ?_;simp only[w1,w2,jJ,go_sem,reduceIte,jA,jB,jC,jD,reduceCtorEq,jE,jF])|(with_reducible refine bQ ?_))
 refine dI _ rfl (fun hc=>?_) (fun hc=>?_)
 ·have aAk:0<m:=by have:=of_decide_eq_true hc;omega
  have aGv:(0<(m:Int)):=or;repeat (first|with_reducible refine bS ?_|with_reducible refine bK ?_|with_reducible refine cE ?_|with_reducible refine aX ?_|with_reducible refine aU ?_|with_reducible refine cG ?_|(refine cF rfl (by simp only[w1,w2,jJ,hb,aGv,aAk,QJ,QR,Wj,go_sem,reduceIte,jA,jB,jC,jD,reduceCtorEq,jE,jF];try omega) ?_;simp only[w1,w2,jJ,hb,aGv,aAk,QJ,QR,Wj,go_sem,reduceIte,jA,jB,jC,jD,reduceCtorEq,jE,jF])|(with_reducible refine bQ ?_))
  refine dM (aC _ (Kd _) ⟨nx,Ki m z,Kp _,?_,?_⟩)
  ·simp only[go_sem,reduceIte,jA,jB,jC,jD,reduceCtorEq,jE,jF]
  rfl
 have hz:m=0:=by have:=of_decide_eq_false hc;omega
 repeat (first|with_reducible refine bS ?_|with_reducible refine bK ?_|with_reducible refine cE ?_|with_reducible refine aX ?_|with_reducible refine aU ?_|with_reducible refine cG ?_|(refine cF rfl (by simp only[ go_sem,reduceIte,jA,jB,jC,jD,reduceCtorEq,jE,jF];try omega) ?_;simp only[ go_sem,reduceIte,jA,jB,jC,jD,reduceCtorEq,jE,jF])|(with_reducible refine bQ ?_))
 refine dM (aC h' (Kd _) (.inl ⟨hz,?_,rfl⟩));simp only[go_sem,reduceIte,jA,jB,jC,jD,reduceCtorEq,jE,jF]
def cN(L:List (Own×List V)):List V:=L.flatMap (·.2)
theorem cm(L:List (Own×List V))(i:Nat)(h:i<L.length):cN (L.take (i+1))=cN (L.take i)++L[i].2:=by
 unfold cN;rw[Kf h,QN];simp
theorem kv(L:List (Own×List V))(i:Nat):(cN (L.take i)).length≤(cN L).length:=by
 have:cN L=cN (L.take i)++cN (L.drop i):=by
  unfold cN;rw[←QN,Qe]
 rw[this];simp
theorem rf{f f0:Nat}{z:V}(hL:aE P f=some (LB.Concat k bs ts f0))(hL0:aE P f0=some (LB.Grow k z bs ts))(hbs:bs≤140737)(own:Own)(L:List (Own×List V))(hl:L.length≤1000000)(ht:(cN L).length≤100000000)(h':Hp)(nx:Nat):
 aR P f [.sl .leaf own (L.map fun p=> .sl k p.1 p.2)] h' nx fun v h'' _=>rn nx h' k (cN L) v h'':=by
 refine aB hL fun hd=>?_;refine ZK ?_;repeat (first|with_reducible refine bS ?_|with_reducible refine bK ?_|with_reducible refine cE ?_|with_reducible refine aX ?_|with_reducible refine aU ?_|with_reducible refine cG ?_|(refine cF rfl (by simp only[ go_sem,reduceIte,jA,jB,jC,jD,reduceCtorEq,jE,jF];try omega) ?_;simp only[ go_sem,reduceIte,jA,jB,jC,jD,reduceCtorEq,jE,jF])|(with_reducible refine bQ ?_))
 refine aP (fun i:Nat=>aD 36 0 [(0, .sl .leaf own (L.map fun p=> .sl k p.1 p.2)),(3, .int .i64 (cN (L.take i)).length),(9, .sl .leaf own (L.map fun p=> .sl k p.1 p.2)),(10, .int .i64 L.length),(11, .int .i64 i)]) (fun i h2 nx2=>i≤L.length∧h2=h'∧nx≤nx2) (fun i=>L.length-i) 0 ⟨Kx _,rfl,Kp _⟩ ?_ ?_
 ·have e0:cN ([]:List (Own×List V))=[]:=rfl;simp only[WkL,aD,jH,jI,jJ,e0,jK,go_sem,reduceIte,jA,jB,jC,jD,reduceCtorEq,jE,jF]
 rintro i h2 nx2 ⟨hi,rfl,hnx⟩;generalize hQ:aZ _ _ _ _ _=Q0;refine Zk ?_;repeat (first|with_reducible refine bS ?_|with_reducible refine bK ?_|with_reducible refine cE ?_|with_reducible refine aX ?_|with_reducible refine aU ?_|with_reducible refine cG ?_|(refine cF rfl (by simp only[ go_sem,reduceIte,jA,jB,jC,jD,reduceCtorEq,jE,jF];try omega) ?_;simp only[ go_sem,reduceIte,jA,jB,jC,jD,reduceCtorEq,jE,jF])|(with_reducible refine bQ ?_))
 refine dI _ rfl (fun hc=>?_) (fun hc=>?_)
 ·have hlt:i<L.length:=by have:=of_decide_eq_true hc;omega
  have hg:=aL (fun p:Own×List V=>V.sl k p.1 p.2) L i hlt;have hlen:(i:Int)<((L.map fun p=>V.sl k p.1 p.2).length:Int):=by simp;omega
  have h0:=kv L (i+1);have h1:=congrArg Wl (cm L i hlt);rw[KM] at h1;have hw:IntKind.i64.wrap (((cN (L.take i)).length:Int)+(L[i].2.length:Int))=((cN (L.take (i+1))).length:Int):=by rw[fY]<;>omega
  repeat (first|with_reducible refine bS ?_|with_reducible refine bK ?_|with_reducible refine cE ?_|with_reducible refine aX ?_|with_reducible refine aU ?_|with_reducible refine cG ?_|(refine cF rfl (by simp only[hg,hlen,hlt,hw,jG,jK,go_sem,reduceIte,jA,jB,jC,jD,reduceCtorEq,jE,jF];try omega) ?_;simp only[hg,hlen,hlt,hw,jG,jK,go_sem,reduceIte,jA,jB,jC,jD,reduceCtorEq,jE,jF])|(with_reducible refine bQ ?_))
  refine dI _ rfl (fun hc2=>?_) (fun hc2=>?_)
  ·have:=of_decide_eq_true hc2;omega
  repeat (first|with_reducible refine bS ?_|with_reducible refine bK ?_|with_reducible refine cE ?_|with_reducible refine aX ?_|with_reducible refine aU ?_|with_reducible refine cG ?_|(refine cF rfl (by simp only[ go_sem,reduceIte,jA,jB,jC,jD,reduceCtorEq,jE,jF];try omega) ?_;simp only[ go_sem,reduceIte,jA,jB,jC,jD,reduceCtorEq,jE,jF])|(with_reducible refine bQ ?_))
  rw[fY or or,←hQ];refine aF (i+1) or ⟨or,rfl,or⟩ ?_;simp only[WkL,aD,jH,jI,jJ,go_sem,reduceIte,jA,jB,jC,jD,reduceCtorEq,jE,jF]
 have hge:i=L.length:=by have:=of_decide_eq_false hc;omega
 rw[←hQ];refine rQ ?_;repeat (first|with_reducible refine mJ ?_|with_reducible refine lE ?_|with_reducible refine iR ?_|with_reducible refine cQ ZM ?_|with_reducible refine dY ?_|with_reducible refine aX ?_)
 have hT:cN (L.take i)=cN L:=by rw[hge,KC]
 rw[hT];repeat (first|with_reducible refine bS ?_|with_reducible refine bK ?_|with_reducible refine cE ?_|with_reducible refine aX ?_|with_reducible refine aU ?_|with_reducible refine cG ?_|(refine cF rfl (by simp only[ go_sem,reduceIte,jA,jB,jC,jD,reduceCtorEq,jE,jF];try omega) ?_;simp only[ go_sem,reduceIte,jA,jB,jC,jD,reduceCtorEq,jE,jF])|(with_reducible refine bQ ?_))
 refine aV ((Fe hL0 (cN L).length or hbs _ _).dom.mono ?_);rintro v h3 nx3 aD3 ⟨hv,aFS,_⟩;unfold bW;refine Zn ?_;repeat (first|with_reducible refine bS ?_|with_reducible refine bK ?_|with_reducible refine cE ?_|with_reducible refine aX ?_|with_reducible refine aU ?_|with_reducible refine cG ?_|(refine cF rfl (by simp only[jK,go_sem,reduceIte,jA,jB,jC,jD,reduceCtorEq,jE,jF];try omega) ?_;simp only[jK,go_sem,reduceIte,jA,jB,jC,jD,reduceCtorEq,jE,jF])|(with_reducible refine bQ ?_))
 obtain⟨I,hI⟩:∃I:Nat×V→Hp→Nat→Prop,∀i u h4 nx4,I (i,u) h4 nx4↔(i≤L.length∧nx≤nx4∧((cN L=[]∧u= .sl k .nil []∧h4=h2)∨(cN L≠ []∧∃id es,nx≤id∧id<nx4∧u= .rs id k 0 (cN (L.take i)).length∧(cN (L.take i)=[]∨es=cN (L.take i))∧h4 id=some (.arr k es)∧h2.le (h4.del id)))):=⟨fun p h4 nx4=>p.1≤L.length∧nx≤nx4∧((cN L=[]∧p.2= .sl k .nil []∧h4=h2)∨(cN L≠ []∧∃id es,nx≤id∧id<nx4∧p.2= .rs id k 0 (cN (L.take p.1)).length∧(cN (L.take p.1)=[]∨es=cN (L.take p.1))∧h4 id=some (.arr k es)∧h2.le (h4.del id))),fun _ _ _ _=>Iff.rfl⟩;simp only at aD3 hv;have e0:cN ([]:List (Own×List V))=[]:=rfl;have aAf:∀n,nx≤n→h2 n=none:=fun n hn=>aS.none hd hn;refine aP (fun p:Nat×V=>aD 36 0 [(6,p.2),(25, .sl .leaf own (L.map fun p=> .sl k p.1 p.2)),(26, .int .i64 L.length),(27, .int .i64 p.1)]) I (fun p=>L.length-p.1) (0,v) ((hI _ _ _ _).2 ⟨Kx _,(by show nx≤nx3;omega),?_⟩) ?_ ?_
 ·rcases hv with⟨q1,rfl,rfl⟩|⟨q1,id,es,q2,rfl,rfl⟩
  ·exact .inl ⟨KX.1 q1,rfl,rfl⟩
  refine .inr ⟨fun e=>by rw[e] at q1;simp at q1,id,es,or,aFS id (.arr k es) (by simp[Ka]),?_, .inl rfl,by simp[Ka],lU (eH (Kd _) (aAf id or) _) (aAf id or)⟩;simp[cN]
 ·simp only[WkL,aD,jH,jI,jJ,jK,go_sem,reduceIte,jA,jB,jC,jD,reduceCtorEq,jE,jF]
 rintro⟨i,u⟩ h4 nx4 hii;generalize hQ2:aZ _ _ _ _ _=Q2;obtain⟨q1,q2,q3⟩:=(hI _ _ _ _).1 hii;refine Zk ?_;repeat (first|with_reducible refine bS ?_|with_reducible refine bK ?_|with_reducible refine cE ?_|with_reducible refine aX ?_|with_reducible refine aU ?_|with_reducible refine cG ?_|(refine cF rfl (by simp only[ go_sem,reduceIte,jA,jB,jC,jD,reduceCtorEq,jE,jF];try omega) ?_;simp only[ go_sem,reduceIte,jA,jB,jC,jD,reduceCtorEq,jE,jF])|(with_reducible refine bQ ?_))
 refine dI _ rfl (fun hc4=>?_) (fun hc4=>?_)
 ·have hlt:i<L.length:=by have:=of_decide_eq_true hc4;omega
  have hg:=aL (fun p:Own×List V=>V.sl k p.1 p.2) L i hlt;have hlen:(i:Int)<((L.map fun p=>V.sl k p.1 p.2).length:Int):=by simp;omega
  have aBg:=cm L i hlt;have h1:=kv L (i+1);have h2':=congrArg Wl aBg;rw[KM] at h2';have hw:IntKind.i64.wrap ((i:Int)+1)=((i+1:Nat):Int):=by rw[fY]<;>omega
  repeat (first|with_reducible refine bS ?_|with_reducible refine bK ?_|with_reducible refine cE ?_|with_reducible refine aX ?_|with_reducible refine aU ?_|with_reducible refine cG ?_|with_reducible refine bQ ?_)
  refine cF rfl (by simp only[hg,hlen,hlt,jG,jK,go_sem,reduceIte,jA,jB,jC,jD,reduceCtorEq,jE,jF];try omega) ?_;simp only[hg,hlen,hlt,jG,jK,go_sem,reduceIte,jA,jB,jC,jD,reduceCtorEq,jE,jF];repeat (first|with_reducible refine bS ?_|with_reducible refine bK ?_|with_reducible refine cE ?_|with_reducible refine aX ?_|with_reducible refine aU ?_|with_reducible refine cG ?_|with_reducible refine bQ ?_)
  rcases q3 with⟨q4,rfl,rfl⟩|⟨q4,id,es,q5,q6,rfl,q7,q8,q9⟩
  ·have hy:L[i].2=[]:=by
    rw[q4] at h1;exact KX.1 (by simp at h1;rw[h1] at h2';simp at h2';omega)
   refine cF rfl (by simp only[hy,go_sem,reduceIte,jA,jB,jC,jD,reduceCtorEq,jE,jF];try omega) ?_;simp only[hy,go_sem,reduceIte,jA,jB,jC,jD,reduceCtorEq,jE,jF];rw[←hQ2];repeat (first|with_reducible refine bS ?_|with_reducible refine bK ?_|with_reducible refine cE ?_|with_reducible refine aX ?_|with_reducible refine aU ?_|with_reducible refine cG ?_|with_reducible refine bQ ?_)
   refine cF rfl (by simp only[hw,go_sem,reduceIte,jA,jB,jC,jD,reduceCtorEq,jE,jF];try omega) ?_;simp only[hw,go_sem,reduceIte,jA,jB,jC,jD,reduceCtorEq,jE,jF];repeat (first|with_reducible refine bS ?_|with_reducible refine bK ?_|with_reducible refine cE ?_|with_reducible refine aX ?_|with_reducible refine aU ?_|with_reducible refine cG ?_|with_reducible refine bQ ?_)
   refine aF (i+1, .sl k .nil []) (by(try simp only);omega) ((hI _ _ _ _).2 ⟨or,by(try simp only[go_sem,reduceIte,jA,jB,jC,jD,reduceCtorEq,jE,jF]);omega, .inl ⟨q4,rfl,rfl⟩⟩) ?_;simp only[WkL,aD,jH,jI,jJ,hw,go_sem,reduceIte,jA,jB,jC,jD,reduceCtorEq,jE,jF]
  refine sV 2 rfl (by simp only[go_sem,reduceIte,jA,jB,jC,jD,reduceCtorEq,jE,jF]) ?_;refine Zn ?_;by_cases hy:L[i].2=[]
  ·refine tF rfl q8 (by simp only[dQ,hy,go_sem,reduceIte,jA,jB,jC,jD,reduceCtorEq,jE,jF]) ?_;refine cF rfl (by simp only[ go_sem,reduceIte,jA,jB,jC,jD,reduceCtorEq,jE,jF];try omega) ?_;refine Zn ?_;rw[←hQ2];repeat (first|with_reducible refine bS ?_|with_reducible refine bK ?_|with_reducible refine cE ?_|with_reducible refine aX ?_|with_reducible refine aU ?_|with_reducible refine cG ?_|with_reducible refine bQ ?_)
   refine cF rfl (by simp only[hw,go_sem,reduceIte,jA,jB,jC,jD,reduceCtorEq,jE,jF];try omega) ?_;simp only[hw,go_sem,reduceIte,jA,jB,jC,jD,reduceCtorEq,jE,jF];repeat (first|with_reducible refine bS ?_|with_reducible refine bK ?_|with_reducible refine cE ?_|with_reducible refine aX ?_|with_reducible refine aU ?_|with_reducible refine cG ?_|with_reducible refine bQ ?_)
   have aA7:cN (L.take (i+1))=cN (L.take i):=by rw[aBg,hy,Qh]
   refine aF (i+1, .rs id k 0 (cN (L.take i)).length) (by(try simp only);omega) ((hI _ _ _ _).2 ⟨or,by(try simp only[go_sem,reduceIte,jA,jB,jC,jD,reduceCtorEq,jE,jF]);omega, .inr ⟨q4,id,es,q5,by(try simp only[go_sem,reduceIte,jA,jB,jC,jD,reduceCtorEq,jE,jF]);omega,by rw[aA7],by rw[aA7];exact q7,q8,q9⟩⟩) ?_;simp only[WkL,aD,jH,jI,jJ,hw,go_sem,reduceIte,jA,jB,jC,jD,reduceCtorEq,jE,jF]
  have aPu:es.take (cN (L.take i)).length=cN (L.take i):=by
   rcases q7 with q7|q7
   ·rw[q7];rfl
   rw[q7,KC]
  have hcl:(cN (L.take i)).length≤es.length:=by
   rcases q7 with q7|q7
   ·rw[q7];exact Kx _
   rw[q7];exact Kp _
  refine aq rfl q8 hcl (by simp only[dQ,go_sem,reduceIte,jA,jB,jC,jD,reduceCtorEq,jE,jF]) hy (tD or hbs) ?_;refine cF rfl (by simp only[ go_sem,reduceIte,jA,jB,jC,jD,reduceCtorEq,jE,jF];try omega) ?_;refine Zn ?_;rw[←hQ2];repeat (first|with_reducible refine bS ?_|with_reducible refine bK ?_|with_reducible refine cE ?_|with_reducible refine aX ?_|with_reducible refine aU ?_|with_reducible refine cG ?_|with_reducible refine bQ ?_)
  refine cF rfl (by simp only[hw,go_sem,reduceIte,jA,jB,jC,jD,reduceCtorEq,jE,jF];try omega) ?_;simp only[hw,go_sem,reduceIte,jA,jB,jC,jD,reduceCtorEq,jE,jF];repeat (first|with_reducible refine bS ?_|with_reducible refine bK ?_|with_reducible refine cE ?_|with_reducible refine aX ?_|with_reducible refine aU ?_|with_reducible refine cG ?_|with_reducible refine bQ ?_)
  refine aF (i+1, .rs nx4 k 0 ((cN (L.take i)).length+L[i].2.length)) (by(try simp only);omega) ((hI _ _ _ _).2 ⟨or,by(try simp only[go_sem,reduceIte,jA,jB,jC,jD,reduceCtorEq,jE,jF]);omega, .inr ⟨q4,nx4,cN (L.take (i+1)),q2,by(try simp only[go_sem,reduceIte,jA,jB,jC,jD,reduceCtorEq,jE,jF]);omega,by rw[h2'], .inr rfl,?_,?_⟩⟩) ?_
  ·simp only[aPu,aBg,go_sem,reduceIte,jA,jB,jC,jD,reduceCtorEq,jE,jF]
  ·try simp only[go_sem,reduceIte,jA,jB,jC,jD,reduceCtorEq,jE,jF]
   intro m b e;have h5:=q9 m b e;have h6:=hd m b e;simp only[Hp.aAM,Hp.aAw] at h5⊢;split at h5
   ·cases h5
   rename_i hne;rw[if_neg or,if_neg or,if_neg hne];exact h5
  simp only[WkL,aD,jH,jI,jJ,hw,go_sem,reduceIte,jA,jB,jC,jD,reduceCtorEq,jE,jF]
 have aXr:i=L.length:=by have:=of_decide_eq_false hc4;omega
 rw[←hQ2];refine rQ ?_;repeat (first|with_reducible refine mJ ?_|with_reducible refine lE ?_|with_reducible refine iR ?_|with_reducible refine cQ ZM ?_|with_reducible refine dY ?_|with_reducible refine aX ?_)
 repeat (first|with_reducible refine bS ?_|with_reducible refine bK ?_|with_reducible refine cE ?_|with_reducible refine aX ?_|with_reducible refine aU ?_|with_reducible refine cG ?_|(refine cF rfl (by simp only[ go_sem,reduceIte,jA,jB,jC,jD,reduceCtorEq,jE,jF];try omega) ?_;simp only[ go_sem,reduceIte,jA,jB,jC,jD,reduceCtorEq,jE,jF])|(with_reducible refine bQ ?_))
 have hT2:cN (L.take i)=cN L:=by rw[aXr,KC]
 rw[hT2] at q3;rcases q3 with⟨q4,rfl,rfl⟩|⟨q4,id,es,q5,q6,rfl,q7,q8,q9⟩
 ·exact dM (aC _ (Kd _) (.inl ⟨q4,rfl,rfl⟩))
 refine dM (aC (h2.set id (.arr k (cN L))) ?_ (.inr ⟨q4,id,q5,rfl,rfl⟩));have hes:es=cN L:=q7.resolve_left q4;subst hes;refine xX ?_ q8;intro m b e;have h5:=q9 m b e;simp only[Hp.aAw] at h5;split at h5
 ·cases h5
 exact h5
end
end Go.Proofs.YtlhedpgobaellaaGreatDoor
namespace Go.Proofs.YtlhedpgobaellaaGreatDoor
open Go.RowKit Go.Sort
attribute [local irreducible] KN
namespace LB
end LB
section
variable{P:Program}{α:Type} [DecidableEq α] [Inhabited α](e:α→V){k:Sh}{z:V}{q:pO}
end
namespace LB
end LB
theorem Fb{hc h:Hp}{n:Nat}(hh:Hp.has hc h)(hn:hc n=none)(b:Blk):Hp.has hc (h.set n b):=fun m k e hb=>by
 unfold Ka;rw[if_neg (fun e2=>by rw[e2,hn] at e;cases e)];exact hh m k e hb
section
variable{P:Program}{α:Type} [Inhabited α](e:α→V){k:Sh}{z:V}
theorem wT{f:Nat}(hfit:∀x,(e x).fits k=true)(hL:aE P f=some (LB.aAX k))(p:α→Bool)(n:Nat)(l:List α)(g:Nat)(caps:List V)(h:Hp)(hn:h n=some (.arr k (l.map e)))(hp:∀x∈l,aM P g ([e x]++caps) h (.bool (p x)))(hl:l.length≤1000000000):
 aM P f [.rs n k 0 l.length, .fn (.func g) [] caps] h (.int .i64 (bN p l)):=by
 refine aJ (fun L=>trivial) fun h' nx hh=>aB hL fun hd=>?_;have hn':=hh n _ hn rfl;refine ZK ?_;refine au ?_;refine aP (fun i:Nat=>aD 19 0 [(0, .rs n k 0 l.length),(1, .fn (.func g) [] caps),(7, .int .i64 l.length),(8, .int .i64 i)]) (fun i hp2 _=>i≤l.length∧hp2=h'∧∀x∈l.take i,p x=false) (fun i=>l.length-i) 0 ⟨Kx _,rfl,Zm⟩ ?_ ?_
 ·simp only[WkL,aD,jH,jI,jJ,go_sem,reduceIte,jA,jB,jC,jD,reduceCtorEq,jE,jF]
 rintro i hp2 nx1 ⟨hi,rfl,hno⟩;generalize hQ:aZ _ _ _ _ _=Q0;refine Zk ?_;rcases Kt i l.length with hlt|hge
 ·have hc:decide ((i:Int)<(l.length:Int))=true:=decide_eq_true or;have hg:=aL e l i hlt;have hw:IntKind.i64.wrap ((i:Int)+1)=((i+1:Nat):Int):=by rw[fY]<;>omega
  have htk:l.take (i+1)=l.take i++[l[i]]:=Kf hlt
  (repeat' (first|(with_reducible first|refine stp ?_|refine cQ ZM ?_|refine xH (fun _=>?_) (fun _=>?_))|((first|(with_reducible refine qD ?_;first|refine nG rfl ?_ ?_|refine eA rfl (hp l[i] (KD _)) (by simp only[go_sem,reduceIte,jA,jB,jC,jD,reduceCtorEq,jE,jF]) hh ?_|refine Zx ?_)|(with_reducible refine qI ?_;first|refine nP rfl ?_ ?_|refine ZX ?_)|refine Zy ?_)<;>try simp only[hc,hg,hw,hlt,hn',hfit,jK,jG,jQ,go_sem,reduceIte,jA,jB,jC,jD,reduceCtorEq,jE,jF])|refine ZY ?_|omega))
  ·rename_i hx;rw[←hQ];refine au ?_;refine aC hp2 (Kd _) ⟨?_,rfl⟩;refine Zn ?_;rw[bN,(KZ (p:=p) (xs:=l) (i:=i)).2 ⟨hlt,hx,fun j hj=>by simp[hno l[j] (Qr.2 ⟨j,or,rfl⟩)]⟩]
  rename_i hx;rw[←hQ];refine aF (i+1) or ⟨hlt,rfl,fun x hx2=>?_⟩ ?_
  ·rw[htk] at hx2;rcases Kz.1 hx2 with h1|h1
   ·exact hno x h1
   simp at h1;rw[h1];exact hx
  simp only[WkL,aD,jH,jI,jJ,go_sem,reduceIte,jA,jB,jC,jD,reduceCtorEq,jE,jF]
 have hc:decide ((i:Int)<(l.length:Int))=false:=decide_eq_false or;refine aue hc ?_;rw[←hQ];refine au ?_;refine aC hp2 (Kd _) ⟨?_,rfl⟩;refine Zn ?_;rw[show i=l.length by omega,KC] at hno;rw[bN,Qt.2 (fun x hx=>by simp[hno x hx])]
theorem rX(p:α→Bool)(l:List α):((bN p l==-1)=true↔∀x∈l,p x=false)∧∀i:Nat,bN p l=i→∃h:i<l.length,p l[i]=true∧∀x∈l.take i,p x=false:=by
 unfold bN;cases hf:l.findIdx? p with
 |none=>
  have:=Qt.1 hf;refine⟨by simpa using this,fun i hi=>?_⟩;exact absurd hi (by simp only;omega)
 |some j=>
  obtain⟨h1,h2,h3⟩:=KZ.1 hf;refine⟨⟨fun h=>?_,fun h=>?_⟩,fun i hi=>?_⟩
  ·exfalso;simp at h<;>omega
  ·have:=h l[j] (KD _);rw[this] at h2;cases h2
  have:j=i:=by simp only at hi;omega
  subst this;refine⟨h1,h2,fun x hx=>?_⟩;obtain⟨q,hq,rfl⟩:=Qr.1 hx;have:=h3 q or;simpa using this
end
end Go.Proofs.YtlhedpgobaellaaGreatDoor
namespace Go.Proofs.YtlhedpgobaellaaGreatDoor
open Go.RowKit
variable{P:Program}{K:Ker}{h:Hp}{k:Sh}
def oM(es:List V)(o:Nat)(ys:List V):List V:=es.take o++ys++es.drop (o+ys.length)
theorem ja{es ys:List V}{o:Nat}(hle:o+ys.length≤es.length):(oM es o ys).length=es.length:=by simp[oM];omega
theorem FA{es ys:List V}{o:Nat}(hle:o+ys.length≤es.length)(q:Nat):(oM es o ys).getD q Kb=if q<o then es.getD q Kb else if q<o+ys.length then ys.getD (q-o) Kb else es.getD q Kb:=by
 simp only[oM,Ke,Ku];have htk:(es.take o).length=o:=by simp;omega
 by_cases e1:q<o
 ·rw[if_pos e1,Kk (by rw[htk];exact e1),KV,if_pos e1]
 rw[if_neg e1,Kq (by rw[htk];omega),htk];by_cases e2:q<o+ys.length
 ·rw[if_pos e2,Kk or]
 rw[if_neg e2,Kq or,Qq];have:o+ys.length+(q-o-ys.length)=q:=or;rw[this]
def oE(K:Ker)(k:Sh)(ys:List V)(cs:List Value):Prop:=cs.length=ys.length*k.size∧(∀y∈ys,y.fits k=true)∧∀i,i<ys.length→∀j,j<k.size→VR K ((ys.getD i Kb).cell j) (cs.getD (i*k.size+j) KI)
theorem oE.one{ys:List V}{cs:List Value}(c:oE K k ys cs):∀u∈cs,u.oneCell'=true:=by
 obtain⟨hcl,hfy,hv⟩:=c;intro u hu;obtain⟨q,hq,rfl⟩:=List.getElem_of_mem hu;rw[hcl] at hq;obtain⟨d1,d2,d3⟩:=tA hq;have h1:=hv _ d1 _ d2;rw[d3,Ke (l:=cs),Kv (by rw[hcl];exact hq)] at h1;have hm:ys.getD (q / k.size) Kb∈ys:=by rw[Ke,Kv d1];exact KD _
 have h2:=hfy _ hm;refine VR.aA5 h1 ?_;cases k with
 |leaf=>
  have hz:q % Sh.leaf.size=0:=by simp[Kc,Wm]
  rw[hz];rw[Kh] at h2;generalize ys.getD (q / Sh.leaf.size) Kb=y at h2;cases y<;>first|rfl|(simp[V.aAE] at h2)
 |agg n=>
  generalize ys.getD (q / (Sh.agg n).size) Kb=y at h2;cases y with
  |agg cs2=>
   simp only[Kh,Bool.and_eq_true,decide_eq_true_eq,List.all_eq_true] at h2;show(cs2.getD _ Kb).aAE=true;have hlt:q % (Sh.agg n).size<cs2.length:=by rw[h2.1];exact d2
   rw[Ke,Kv hlt];exact h2.2 _ (KD _)
  |_=>simp[Kh] at h2
theorem oE.mono{K K':Ker}(hle:K.le K'){ys:List V}{cs:List Value}(c:oE K k ys cs):oE K' k ys cs:=⟨c.1,c.2.1,fun i hi j hj=>(c.2.2 i hi j hj).mono hle⟩
theorem nZ(hr:Rel K h){n o:Nat}{es ys:List V}(hn:h n=some (.arr k es))(hle:o+ys.length≤es.length){cs:List Value}(c:oE K k ys cs):
 ∃K',(storeCells ⟨K.mu n,o*k.size,none⟩ cs 0).run P K.w= .ok () K'.w∧K.le K'∧K'.live=K.live∧K'.mu=K.mu∧(∀b,K'.w.shape? b=K.w.shape? b)∧Rel K' (h.set n (.arr k (oM es o ys))):=by
 have hone:=c.one;obtain⟨hcl,hfy,hv⟩:=c;have hbr:=hr.blk n _ hn;cases hbr with
 |arr _ _ c T hh hcs himm hfit hvs=>
  have aCD:o*k.size+ys.length*k.size≤es.length*k.size:=by rw[←Qf];exact KH _ hle
  have hst:=run_storeCells_at P (K.mu n) (o*k.size) T cs 0 c K.w hh (by rw[hcl];omega) hone;simp only[KW,hcl] at hst;generalize hc':(c.toList.take (o*k.size)++cs++c.toList.drop (o*k.size+ys.length*k.size)).toArray=c' at hst;have hcsz:c'.size=c.size:=by rw[←hc'];simp only[Qu,KM,QW,QX,Ql,hcl];omega
  have hle1:=K.le_row (K.mu n) c' c T hh hcsz (hr.base n _ hn) (fun o ho=>by rw[himm] at ho;omega);have hlen:=ja hle;refine⟨K.row (K.mu n) c',hst,hle1,rfl,rfl,fun b=>pT K.w _ c' c T (0,0) hh hcsz b,?_⟩;refine hr.row hn c' c T hh hcsz (fun o ho=>by rw[himm] at ho;omega) (.arr k _ c' T ?_ (by rw[hlen,hcsz];exact hcs) himm ?_ ?_)
  ·show(K.w.setRow (K.mu n) c').heap[K.mu n]?=_;exact setRow_heap K.w (K.mu n) c c' T (0,0) hh
  ·intro x hx;rcases Kz.1 hx with hx|hx
   ·rcases Kz.1 hx with hx|hx
    ·exact hfit x (KP hx)
    exact hfy x hx
   exact hfit x (QM hx)
  intro q hq j hj;rw[hlen] at hq;have aD6:=cL hj hq;have hget:c'[q*k.size+j]?=if q<o then c[q*k.size+j]? else if q<o+ys.length then cs[(q-o)*k.size+j]? else c[q*k.size+j]?:=by
   rw[←hc'];simp only[Qg,Ku];by_cases e1:q<o
   ·have h1:=cL hj e1;rw[if_pos e1,Kk (by simp;omega),KV,if_pos h1];simp
   rw[if_neg e1];have h1:o*k.size≤q*k.size:=KH _ or;have hsub:q*k.size-o*k.size=(q-o)*k.size:=(Wn _ _ _).symm;have htk:(c.toList.take (o*k.size)).length=o*k.size:=by simp;omega
   rw[Kq (by rw[htk];omega),htk];by_cases e2:q<o+ys.length
   ·have h2:=cL (k:=k.size) (i:=q-o) (n:=ys.length) hj or;rw[if_pos e2,Kk (by rw[hcl];omega)];have:q*k.size+j-o*k.size=(q-o)*k.size+j:=or;rw[this]
   have h2:(o+ys.length)*k.size≤q*k.size:=KH _ or;rw[Qf] at h2;rw[if_neg e2,Kq (by rw[hcl];omega),hcl,Qq];have:o*k.size+ys.length*k.size+(q*k.size+j-o*k.size-ys.length*k.size)=q*k.size+j:=or;rw[this];simp
  rw[FA hle,Kj,hget];by_cases e1:q<o
  ·rw[if_pos e1,if_pos e1,←Kj];exact(hvs q hq j hj).mono hle1
  rw[if_neg e1,if_neg e1];by_cases e2:q<o+ys.length
  ·rw[if_pos e2,if_pos e2,←Ke];exact(hv _ or j hj).mono hle1
  rw[if_neg e2,if_neg e2,←Kj];exact(hvs q hq j hj).mono hle1
theorem mL(hr:Rel K h){n o m:Nat}{es:List V}(hn:h n=some (.arr k es))(hle:o+m≤es.length):
 ∃cs,oE K k ((es.drop o).take m) cs∧cs.length=m*k.size∧∀j u,cs[j]?=some u→K.w.cell? ⟨K.mu n,o*k.size+j,none⟩=some u:=by
 have hbr:=hr.blk n _ hn;cases hbr with
 |arr _ _ c T hh hcs himm hfit hvs=>
  have aCD:o*k.size+m*k.size≤es.length*k.size:=by rw[←Qf];exact KH _ hle
  have hml:((es.drop o).take m).length=m:=by simp;omega
  refine⟨(Wo (m*k.size)).map fun j=>c.getD (o*k.size+j) KI,⟨by rw[hml];simp,fun y hy=>hfit y (QM (KP hy)),fun i hi j hj=>?_⟩,Zm,fun j u hu=>?_⟩
  ·rw[hml] at hi;have h1:=cL hj hi;have h2:=hvs (o+i) or j hj;have e1:((es.drop o).take m).getD i Kb=es.getD (o+i) Kb:=by rw[Ke,Ke,List.getElem?_take_of_lt hi,Qq]
   have e2:((Wo (m*k.size)).map fun j=>c.getD (o*k.size+j) KI).getD (i*k.size+j) KI=c.getD ((o+i)*k.size+j) KI:=by
    rw[Ke,Qa,QO h1,Qf,Nat.add_assoc];rfl
   rw[e1,e2];exact h2
  rw[Qa] at hu;have hj:j<m*k.size:=by
   rcases Kt j (m*k.size) with h|h
   ·exact h
   rw[List.getElem?_eq_none (by simpa using h)] at hu;cases hu
  rw[QO hj] at hu;have hu:c.getD (o*k.size+j) KI=u:=by simpa using hu
  simp only[QL,hh,KS,KU,if_false];rw[←hu,Kj,Qv or];rfl
theorem pW(w:World)(dT sT ty elem:TypeId)(i:TypeInfo)(b o aYi bCN:Nat)(a:Addr)(aPE aXc m:Nat)(cs:List Value){w':World}
 (hu:P.underlying dT=some (.slice elem)) (hi:P.info? elem=some i) (hm:m=Nat.min aPE aYi) (hn:cs.length=m*i.size)
 (aPP:∀j v,cs[j]?=some v→w.cell? (a.add j)=some v) (hst:(storeCells ⟨b,o,none⟩ cs 0).run P w= .ok () w'):
 (KJ #[dT,sT] ty #[.slice (some ⟨b,o,none⟩) aYi bCN, .slice (some a) aPE aXc]).run P w= .ok (goInt m) w':=by
 have hl:=run_firstCells_some (P:=P) w i.size m a aPE aXc cs hn aPP;simp[KJ,run_underlying hu,Wb,sizeOf,typeInfo,hi,←hm,hl,hst]
theorem po(w:World)(t t' ty e e':TypeId)(i:TypeInfo)(b o n cap:Nat)(a:Addr)(m c:Nat)(cs:List Value){w':World}
 (hu:P.underlying t=some (.slice e)) (hu':P.underlying t'=some (.slice e')) (hi:P.info? e=some i) (hn:cs.length=m*i.size) (hroom:n+m≤cap)
 (aPP:∀j v,cs[j]?=some v→w.cell? (a.add j)=some v) (hst:(storeCells ⟨b,o+n*i.size,none⟩ cs 0).run P w= .ok () w'):
 (Ky #[t,t'] ty #[.slice (some ⟨b,o,none⟩) n cap, .slice (some a) m c]).run P w= .ok (.slice (some ⟨b,o,none⟩) (n+m) cap) w':=by
 have hl:=run_firstCells_some (P:=P) w i.size m a m c cs hn aPP;simp[Ky,run_underlying hu,run_underlying hu',sizeOf,typeInfo,hi,Wb,hroom,hl,Addr.add_lit,hst]
theorem pQ{ops:Array Oper}{o:Oper}{a:Act}{w:World}{K:Act→World→Prop}{Q:Exit→Act→World→Prop}{E:Prop}(bi:Builtin)
 (hg:o.guard=none) (xs:Array Operand) (ts:Array TypeId) (hop:o.op=Op.call {callee:=Callee.builtin bi,args:=xs,argTypes:=ts})
 (F:Sem Value) (hF:∀cs,builtin bi ts o.type cs (xs.map a.eval)=(do pure (.value (←F)))) {v':Value} {w':World} (hr:F.run P w= .ok v' w') (hK:K (a.put o.dst v') w'):
 if Region.wanted o (yielded ops a.tmps)=true then Oper.wp P o a w K Q else E:=by
 have hw:Region.wanted o (yielded ops a.tmps)=true:=by simp[Region.wanted,hg]
 rw[if_pos hw];unfold Oper.wp;simp[execOp,hop,resolve,invoke,hF,hr,Result.andThen];exact hK
theorem eW{ops:Array Oper}{rest:List Oper}{o:Oper}{a:Act}{w:World}{Q:Exit→Act→World→Prop}(bi:Builtin)
 (hg:o.guard=none) (xs:Array Operand) (ts:Array TypeId) (hop:o.op=Op.call {callee:=Callee.builtin bi,args:=xs,argTypes:=ts})
 (F:Sem Value) (hF:∀cs,builtin bi ts o.type cs (xs.map a.eval)=(do pure (.value (←F)))) {v':Value} {w':World} (hr:F.run P w= .ok v' w') (hK:wpList P ops Q rest (a.put o.dst v') w'):wpList P ops Q (o::rest) a w:=
 wpList_plain hg fun _ hk=>by
  unfold Oper.wp;simp[execOp,hop,resolve,invoke,hF,hr,Result.andThen];exact hk _ _ hK
theorem nY{v:V}(h:v.aAE=true):v.loose.aAE=true:=by
 cases v with
 |sl k o es=>cases o<;>rfl
 |_=>first|exact h|rfl
theorem VR.deep{K:Ker}{own:Own}{es:List V}{cv:Value}(r:VR K (.sl .leaf own es) cv):VR K (.sl .leaf own (es.map Km)) cv:=by
 cases r with
 |slnil=>exact .slnil _
 |slz _ a=>exact .slz _ a
 |sl _ _ _ b off cap f hb hfit hcell hst hv hcap hnil hfull htok=>
  have hl:es.length=(es.map Km).length:=(Qi ..).symm;have:=VR.sl (K:=K) .leaf own (es.map Km) b off cap f hb (fun e he=>by
   obtain⟨x,hx,rfl⟩:=KO.1 he;have:=hfit x hx;rw[fX] at this⊢;exact nY this) (by rw[←hl];exact hcell) (by rw[←hl];exact hst) (fun i hi j hj=>by
   rw[←hl] at hi;have h1:=hv i hi j hj;have hm:es.getD i Kb∈es:=by rw[Ke,Kv hi];exact KD _
   have hf:=hfit _ hm;rw[fX] at hf;have hj0:j=0:=by simp[Kc] at hj;exact hj
   subst hj0;have e1:(es.map Km).getD i Kb=(es.getD i Kb).loose:=by
    rw[Ke,Ke,Qa,Kv hi];rfl
   rw[fA hf] at h1;rw[e1,fA (nY hf)];exact h1.loose) (by rw[←hl];exact hcap) hnil (by rw[←hl];exact hfull) (by rw[←hl];exact htok)
  rw[←hl] at this;exact this
theorem BS{sl:List V}{h:Hp}{nx:Nat}(t:Nat){own:Own}{es:List V}(ht:sl.getD t Kb= .sl .leaf own es):tH ⟨sl,h,nx⟩ ⟨sl.set t (.sl .leaf own (es.map Km)),h,nx⟩:=by
 intro K0 K nx0 a r;have hv:=r.aAD.2 t;rw[ht] at hv;exact⟨K,rfl,r.le,r.aAD.set hv.deep,r.rel,r.live,r.nx,r.defers⟩
end Go.Proofs.YtlhedpgobaellaaGreatDoor
namespace Go.Proofs.YtlhedpgobaellaaGreatDoor
open Go.RowKit Go.Sort Go.Shelf
def G6{α:Type}(P:Program)(gf:Nat)(caps:List V)(hb:Hp)(e:α→List V)(ok:List α→α→Prop)(fin:List α→Prop):Prop:=
 ∀(yn n0:Nat) (J:Hp→List α→Hp→Nat→Prop) (D:Hp→Nat→Prop),
  (∀F i h nx,J F i h nx→F.le h)→(∀F i h nx nx',J F i h nx→nx≤nx'→J F i h nx')→
  (∀F i h nx b,J F i h nx→aS h nx→n0≤nx→J (F.set nx b) i (h.set nx b) (nx+1))→
  (∀F i h nx n b b',J F i h nx→n0≤n→F n=some b→J (F.set n b') i (h.set n b') nx)→(∀h nx nx',D h nx→nx≤nx'→D h nx')→
  (∀F i x,ok i x→∀h nx,J F i h nx→aS h nx→n0≤nx→dX P yn (e x) h nx fun v h' nx'=>(v= .bool true∧J F (i++[x]) h' nx')∨(v= .bool false∧D h' nx'))→
  ∀F h,J F [] h n0→hb.has F→aS h n0→aR P gf (.yld yn::caps) h n0 fun _ h' nx'=>(∃F' i,F.le F'∧fin i∧J F' i h' nx')∨D h' nx'
theorem ap{α:Type}{e0:α→List V}{ok:List α→α→Prop}{fin:List α→Prop}{P:Program}{g:aK}{ps:List Nat}{asg b:aT}{Q:bJ→St→Prop}{s:St}{gf:Nat}{caps:List V}{hb:Hp}(hit:G6 P gf caps hb e0 ok fin)(hg:g.ev s.sl= .fn (.func gf) [] caps)
 (hlen:∀x,(e0 x).length=ps.length) (hd:aS s.h s.nx) (I:Hp→List α→Hp→Nat→Prop) (E:bJ→Hp→Nat→Prop)
 (hlI:∀F i h nx,I F i h nx→F.le h) (hnI:∀F i h nx nx',I F i h nx→nx≤nx'→I F i h nx') (hsI:∀F i h nx b,I F i h nx→F s.nx=none→I F i (h.set s.nx b) nx)
 (haI:∀F i h nx b,I F i h nx→aS h nx→s.nx<nx→I (F.set nx b) i (h.set nx b) (nx+1)) (huI:∀F i h nx n b b',I F i h nx→s.nx<n→F n=some b→I (F.set n b') i (h.set n b') nx)
 (hnE:∀e h nx nx',E e h nx→nx≤nx'→E e h nx') (hsE:∀e h nx b,E e h nx→E e (h.set s.nx b) nx)
 (F0:Hp) (h0:I F0 [] s.h (s.nx+1)) (hb0:hb.has F0) (hF0:F0 s.nx=none)
 (aBp:∀F i x,ok i x→∀h nx X,I F i h nx→F s.nx=none→s.nx<nx→h s.nx=some X→aS h nx→
   lwp P asg (FE s.nx X fun s1=>∀X',lwp P b (mX s.nx X' (I F (i++[x])) E) ⟨s1.sl,s1.h.set s.nx X',s1.nx⟩) ⟨aAR s.sl ps (e0 x),h,nx⟩)
 (aCD:∀F i,fin i→F0.le F→∀h nx,I F i h nx→s.nx<nx→aS h nx→Q .normal ⟨s.sl,h.del s.nx,nx⟩)
 (hex:∀e h nx,E e h nx→s.nx<nx→aS h nx→(e= .ret∨∃id,e= .exit id)→Q e ⟨s.sl,h.del s.nx,nx⟩):lwp P (.range g ps asg b) Q s:=by
 simp only[lwp,hg];intro rcd U hpl hY;have aAQ:∀(h:Hp) (b:Blk),(h.set s.nx b) s.nx=some b:=fun h b=>by simp[Ka]
 refine((hit s.nx (s.nx+1) (fun F i h nx=>I F i h nx∧h s.nx=some (.obj (rcd .ready none) U)∧F s.nx=none)
  (fun h nx=>(h s.nx=some (.obj (rcd .done (some .ret)) U)∧E .ret h nx)∨∃id,h s.nx=some (.obj (rcd .done (some (.exit id))) U)∧E (.exit id) h nx)
  (fun F i h nx hj=>hlI F i h nx hj.1) (fun F i h nx nx' hj hle=>⟨hnI F i h nx nx' hj.1 hle,hj.2⟩)
  (fun F i h nx b hj hdm hle=>⟨haI F i h nx b hj.1 hdm or,by simp only[Ka];rw[if_neg or];exact hj.2.1,by simp only[Ka];rw[if_neg or];exact hj.2.2⟩)
  (fun F i h nx n b b' hj hle hn=>⟨huI F i h nx n b b' hj.1 or hn,by simp only[Ka];rw[if_neg or];exact hj.2.1,by simp only[Ka];rw[if_neg or];exact hj.2.2⟩)
  (fun h nx nx' hD hle=>hD.imp (fun hD=>⟨hD.1,hnE _ _ _ _ hD.2 hle⟩) (fun⟨id,hD⟩=>⟨id,hD.1,hnE _ _ _ _ hD.2 hle⟩)) ?_ F0 _ ⟨hsI _ _ _ _ _ h0 hF0,aAQ _ _,hF0⟩ hb0 ?_).dom).mono ?_
 ·rintro F i x hi h nx ⟨hI,hr,hFn⟩ aBL aCN;refine hY (e0 x) h nx _ (hlen _) hr ?_;refine nD ?_ (aBp F i x hi h nx _ hI hFn (aBL _ _ hr) hr aBL);intro e s1 hq;cases e with
  |exit id=>exact hq.elim
  |ret=>exact hq.elim
  |normal=>
   refine⟨hq.1,nD ?_ (hq.2 (.obj (rcd .busy none) U))⟩;intro e s2 hq2;cases e with
   |normal=>exact⟨hq2.1, .inl ⟨rfl,hsI _ _ _ _ _ hq2.2 hFn,aAQ _ _,hFn⟩⟩
   |ret=>exact⟨hq2.1, .inr ⟨rfl, .inl ⟨aAQ _ _,hsE _ _ _ _ hq2.2⟩⟩⟩
   |exit id=>exact⟨hq2.1, .inr ⟨rfl, .inr ⟨id,aAQ _ _,hsE _ _ _ _ hq2.2⟩⟩⟩
 ·intro m b hm;unfold Ka at hm;split at hm
  ·omega
  have:=hd m b hm;omega
 rintro v h' nx' _ ⟨(⟨F',i,hFF,aAh,hI,hr,_⟩|(⟨hr,hE⟩|⟨id,hr,hE⟩)),aBL,hle⟩
 ·exact .inl ⟨hr,aCD F' i aAh hFF _ _ hI or aBL⟩
 ·exact .inr (.inl ⟨hr,hex _ _ _ hE or aBL (.inl rfl)⟩)
 exact .inr (.inr ⟨id,hr,hex _ _ _ hE or aBL (.inr ⟨id,rfl⟩)⟩)
section
variable{P:Program}{k:Sh}{α:Type}(e:α→V)(hfit:∀x,(e x).fits k=true)
include hfit
end
section
variable{P:Program}{α:Type}(e:α→V)
end
end Go.Proofs.YtlhedpgobaellaaGreatDoor
namespace Go.Proofs.YtlhedpgobaellaaGreatDoor
open Go.RowKit Go.Shelf
section
variable{P:Program}{Q:St→Prop}{s:St}{dst:Option Nat}{r:List aA}{x:aK}
theorem EM{n c:Nat}{es:List ME}(hx:x.ev s.sl= .map n)(hn:s.h n=some (.mp es c))(h:aY P r Q ⟨bL s.sl dst (.ptr s.nx .leaf 0 0),s.h.set s.nx (.mit n c [] c),s.nx+1⟩):aY P (⟨dst,none, .mp (.rng x)⟩::r) Q s:=by
 unfold aY;simp only[LOp.run,LOp.sem,MOp.sem,hx,hn];exact h
theorem EN{it m c since last:Nat}{seen:List Nat}{es:List ME}(hx:x.ev s.sl= .ptr it .leaf 0 0)(hi:s.h it=some (.mit m since seen last))(hm:s.h m=some (.mp es c))(hb:∀e∈es,e.b<since)(hl:since≤last)
 (h1:∀e∈es,e.b∉seen→aY P r Q ⟨bL s.sl dst (.tup [.bool true,e.k,e.v]),s.h.set it (.mit m since (seen++[e.b]) c),s.nx+1⟩) (h2:(∀e∈es,e.b∈seen)→aY P r Q ⟨bL s.sl dst (.tup [.bool false]),s.h,s.nx+1⟩):aY P (⟨dst,none, .mp (.nxt x)⟩::r) Q s:=by
 unfold aY;simp only[LOp.run,LOp.sem,MOp.sem,hx,hi,hm];exact⟨hb,hl,h1,h2⟩
theorem EO{it m c since:Nat}{seen:List Nat}{es:List ME}(hx:x.ev s.sl= .ptr it .leaf 0 0)(hi:s.h it=some (.mit m since seen c))(hm:s.h m=some (.mp es c)){b:Nat}{e:ME}(hs:seen.getLast?=some b)(he:es.find? (fun e=>e.b==b)=some e)
 (h:aY P r Q ⟨bL s.sl dst (.tup [e.k,e.v]),s.h,s.nx+1⟩):aY P (⟨dst,none, .mp (.key x)⟩::r) Q s:=by
 unfold aY;simp only[LOp.run,LOp.sem,MOp.sem,hx,hi,hm];exact⟨trivial,b,e,hs,he,h⟩
end
section
variable{β:Type}(bn:β→Nat)
theorem HF{l:List β}(hn:(l.map bn).Nodup){x y:β}(hx:x∈l)(hy:y∈l)(h:bn x=bn y):x=y:=by
 induction l with
 |nil=>cases hx
 |cons a l ih=>
  rw[Qc,Qj] at hn;rcases KG.1 hx with e1|h1
  ·rcases KG.1 hy with e2|h2
   ·rw[e1,e2]
   exact absurd (KO.2 ⟨y,h2,by rw[←h,e1]⟩) hn.1
  rcases KG.1 hy with e2|h2
  ·exact absurd (KO.2 ⟨x,h1,by rw[h,e2]⟩) hn.1
  exact ih hn.2 h1 h2
theorem pZ{l:List β}(hn:(l.map bn).Nodup):l.Nodup:=by
 refine(QS.1 hn).imp ?_;rintro a b h rfl;exact h rfl
theorem Gh{l js:List β}(hl:(l.map bn).Nodup)(hj:(js.map bn).Nodup)(hs:∀y∈js,y∈l)(h:∀y∈l,bn y∈js.map bn):js.Perm l:=by
 rw[List.perm_ext_iff_of_nodup (pZ bn hj) (pZ bn hl)];intro y;refine⟨hs y,fun hy=>?_⟩;obtain⟨z,hz,hzy⟩:=KO.1 (h y hy);rw[HF bn hl hy (hs z hz) hzy.symm];exact hz
theorem wF:∀{js l:List β},js.Nodup→(∀y∈js,y∈l)→js.length≤l.length
 | [],_,_,_=>Kx _
 |y::js,l,hn,hs=>by
  obtain⟨a,b,rfl⟩:=List.append_of_mem (hs y (List.mem_cons_self ..));have hn:=Qj.1 hn;have:=wF (l:=a++b) hn.2 (fun z hz=>by
   have:=hs z (List.mem_cons_of_mem _ hz);rw[Kz,KG] at this;rcases this with h|h|h
   ·exact Kz.2 (.inl h)
   ·subst h;exact absurd hz hn.1
   exact Kz.2 (.inr h))
  simp only[KM,jL] at this⊢;omega
theorem Cm{l js:List β}(hj:(js.map bn).Nodup)(hs:∀y∈js,y∈l){y:β}(hy:y∈l)(hn:bn y∉js.map bn):js.length<l.length:=by
 have:=wF (js:=y::js) (l:=l) (Qj.2 ⟨fun h=>hn (KO.2 ⟨y,h,rfl⟩),pZ bn hj⟩) (fun z hz=>by
  rcases KG.1 hz with rfl|hz
  ·exact hy
  exact hs z hz)
 simp only[jL] at this;omega
theorem Ew{js:List β}(hj:(js.map bn).Nodup){y:β}(hn:bn y∉js.map bn):((js++[y]).map bn).Nodup:=by
 rw[List.map_append,List.nodup_append];refine⟨hj,Zm,?_⟩;intro a ha b hb hab;simp only[Qc,Wi,List.mem_singleton] at hb;subst hab;subst hb;exact hn ha
end
theorem GB{β:Type}(me:β→ME){l:List β}(hn:(l.map fun y=>(me y).b).Nodup){y:β}(hy:y∈l):(l.map me).find? (fun e=>e.b==(me y).b)=some (me y):=by
 induction l with
 |nil=>cases hy
 |cons a l ih=>
  rw[Qc,Qj] at hn;rw[Qc,List.find?_cons];rcases KG.1 hy with rfl|hy
  ·simp
  have:((me a).b==(me y).b)=false:=by
   simp only[beq_eq_false_iff_ne,ne_eq];exact fun h=>hn.1 (KO.2 ⟨y,hy,h.symm⟩)
  rw[this];exact ih hn.2 hy
namespace LB
end LB
attribute [local irreducible] KN
end Go.Proofs.YtlhedpgobaellaaGreatDoor
namespace Go.Proofs.YtlhedpgobaellaaGreatDoor
open Go.RowKit Go.Sort
attribute [local irreducible] KN
abbrev vls(o:Own)(l:List Vl):V:= .sl (.agg 3) o (l.map Vl.v)
abbrev TR:Type:=Own×List Vl
def TR.v(p:TR):V:=vls p.1 p.2
abbrev tps(o:Own)(l:List TR):V:= .sl .leaf o (l.map TR.v)
abbrev aQ(l:List TR):List (List Vl):=l.map Prod.snd
def TR.ok(p:TR):Prop:=(p.1= .nil∧p.2=[])∨p.1= .free
theorem j6{o:Own}(l:List Vl)(h:o= .nil∨o= .free∨o= .full)(L:Nat→Prop):(vls o l).names L:=by
 rcases h with rfl|rfl|rfl<;>exact⟨(fun n e=>by cases e),bF (fun x=>Vl.aAN L x) l⟩
theorem TR.names{p:TR}(h:p.ok)(L:Nat→Prop):p.v.names L:=j6 p.2 (by rcases h with⟨h,_⟩|h<;>simp[h]) L
theorem TR.aAC(p:TR):p.v.fits .leaf=true:=rfl
def Rd(h:Hp)(v:V)(l:List Vl):Prop:=(∃o,v=vls o l)∨∃n tail,v= .rs n (.agg 3) 0 l.length∧h n=some (.arr (.agg 3) (l.map Vl.v++tail))
theorem Dg(l:List Vl)(tail:List V)(i:Nat)(h:i<l.length):(l.map Vl.v++tail).getD i (.tup [])=l[i].v:=by
 rw[Ke,Kk (by simpa using h)];simp[h]
theorem Dx{α:Type}(c:α→α→Int)(a b:List α)(i:Nat)(h1:i<a.length)(h2:i<b.length)(h0:c a[i] b[i]=0):eT c (a.drop i) (b.drop i)=eT c (a.drop (i+1)) (b.drop (i+1)):=by
 rw[Kg h1,Kg h2];simp only[eT,orC,h0,if_true]
theorem zC(o1:Own)(a b:List Vl)(ha:a.length≤1000000000)(v2:V)(h:Hp)(hv:Rd h v2 b):aM Tryz.prog 99 [vls o1 a,v2, .fn (.func 100) [] []] h (.int .i64 (cP a b)):=by
 refine aJ (fun L=>trivial) fun h' nx hh=>aB L.bAe fun hd=>?_;refine ZK ?_;have hal:(a.map Vl.v).length=a.length:=jK ..;refine aue hal ?_
 refine aP (fun i:Nat=>aD 39 0 [(0,vls o1 a),(1,v2),(2, .fn (.func 100) [] []),(11,vls o1 a),(12, .int .i64 a.length),(13, .int .i64 i)])
  (fun i hp nx1=>i≤a.length∧i≤b.length∧cP a b=cP (a.drop i) (b.drop i)∧nx≤nx1∧aS hp nx1∧Ks nx h' hp)
  (fun i=>a.length-i) 0 ⟨Kx _,Kx _,rfl,Kp _,hd,Hp.same.aAr⟩ (by simp only[WkL,aD,jH,jI,jJ,go_sem,reduceIte,jA,jB,jC,jD,reduceCtorEq,jE,jF]) ?_
 rintro i hp nx1 ⟨hi,hib,hcm,hnx,hdm,hsm⟩;generalize hQ:aZ _ _ _ _ _=Q0;refine Zk ?_;rcases Kt i a.length with hlt|hge
 ·have hc:decide ((i:Int)<(a.length:Int))=true:=dct;have hw:IntKind.i64.wrap ((i:Int)+1)=((i+1:Nat):Int):=wrp;have hg:(a.map Vl.v).getD i (.tup [])= .agg [.int .i64 a[i].k, .int .i64 a[i].n, .str a[i].s]:=aL Vl.v a i hlt;rcases Kt i b.length with hlb|hgb
  ·have hc2:decide ((b.length:Int)≤(i:Int))=false:=dcf;have hk:=fun h=>BM a[i] b[i] h;have hg2:(b.map Vl.v).getD i (.tup [])= .agg [.int .i64 b[i].k, .int .i64 b[i].n, .str b[i].s]:=aL Vl.v b i hlb;obtain⟨c,hcc⟩:∃c,sD a[i] b[i]=c:=⟨_,rfl⟩;rw[hcc] at hk;have aAh:c≠0→cP a b=c:=fun h0=>by
    rw[hcm,Kg hlt,Kg hlb];simp only[cP,eT,orC,hcc,if_neg h0]
   rcases hv with⟨o2,rfl⟩|⟨n,tail,rfl,hn⟩
   case' inl=>have E:=e9 hc hw hal hg hlt hc2 (@jK Vl V) jG (e2 hg2 hlb)
   case' inr=>
    have hn1:hp n=some (.arr (.agg 3) (b.map Vl.v++tail)):=by rw[hsm n (hd _ _ (hh _ _ hn rfl))];exact hh _ _ hn rfl
    have hn2:n<nx1:=hdm _ _ hn1;have hg3:(b.map Vl.v++tail).getD i (.tup [])= .agg [.int .i64 b[i].k, .int .i64 b[i].n, .str b[i].s]:=Dg b tail i hlb;have hl3:(b.map Vl.v++tail).length=b.length+tail.length:=Zm;have hl4:i<b.length+tail.length:=or;have E:=e12 hc hw hal hg hlt hc2 (@jK Vl V) jG hn1 hn2 hg3 (e4 hlb hl3 hl4 KB)
   all_goals
    refine aue E ?_;refine eA rfl (hk _) rfl (aI _) ?_;refine Zn ?_;by_cases h0:c=0
    ·have hc3:(c != 0)=false:=bnf;refine aue hc3 ?_;rw[←hQ];refine aue hw ?_;exact aF (i+1) or ⟨hlt,hlb,by rw[hcm,cP,Dx sD a b i hlt hlb (by rw[hcc];exact h0)],or,dmo hdm,kep hsm⟩ (by simp only[WkL,aD,jH,jI,jJ,hw,go_sem,reduceIte,jA,jB,jC,jD,reduceCtorEq,jE,jF])
    have hc3:(c != 0)=true:=bnt;refine aue hc3 ?_;rw[←hQ];refine au ?_;exact aC h' (lef hd (hsm.le hd (Kd _))) ⟨by rw[aAh h0]<;>rfl,rfl⟩
  have hc2:decide ((b.length:Int)≤(i:Int))=true:=dct;have hl2:∃m:Nat,m=b.length:=⟨_,rfl⟩;have aAh:cP a b=1:=by
   rw[hcm,Kg hlt,Ko hgb];rfl
  rcases hv with⟨o2,rfl⟩|⟨n,tail,rfl,hn⟩
  all_goals
   refine aue (e8 hc hw hal hg hlt hc2 (@jK Vl V) jG) ?_;rw[←hQ];refine au ?_;exact aC h' (lef hd (hsm.le hd (Kd _))) ⟨by rw[aAh]<;>rfl,rfl⟩
 have hc:decide ((i:Int)<(a.length:Int))=false:=dcf;have hia:i=a.length:=or;have aAh:cP a b=if a.length<b.length then-1 else 0:=by
  rw[hcm,hia,QY];split
  ·rename_i k;rw[Kg k];rfl
  rw[Ko or];rfl
 by_cases hl:a.length<b.length
 ·have hc2:decide ((a.length:Int)<(b.length:Int))=true:=dct;rw[if_pos hl] at aAh;rcases hv with⟨o2,rfl⟩|⟨n,tail,rfl,hn⟩
  all_goals
   refine aue hc ?_;rw[←hQ];refine aue (e3 hc2 hal (@jK Vl V)) ?_;exact aC h' (lef hd (hsm.le hd (Kd _))) ⟨by rw[aAh]<;>rfl,rfl⟩
 have hc2:decide ((a.length:Int)<(b.length:Int))=false:=dcf;rw[if_neg hl] at aAh;rcases hv with⟨o2,rfl⟩|⟨n,tail,rfl,hn⟩
 all_goals
  refine aue hc ?_;rw[←hQ];refine aue (e3 hc2 hal (@jK Vl V)) ?_;exact aC h' (lef hd (hsm.le hd (Kd _))) ⟨by rw[aAh]<;>rfl,rfl⟩
theorem oW(o1:Own)(a b:List Vl)(ha:a.length≤1000000000)(v2:V)(h:Hp)(hv:Rd h v2 b):aM Tryz.prog 53 [vls o1 a,v2] h (.int .i64 (cP a b)):=by
 refine aJ (fun L=>trivial) fun h' nx hh=>aB L.bBN fun hd=>?_;refine ZK ?_;refine au ?_;refine aH (zC o1 a b ha v2 h hv) rfl hh ?_;refine Zn ?_;refine au ?_;exact aC h' (leo hd) ⟨rfl,rfl⟩
theorem pg(a b:Vl):veq (.plain (.agg 3) [.int, .int, .str]) a.v b.v=some (decide (a=b)):=by
 have e:(decide (a=b))=(decide (a.k=b.k)&&(decide (a.n=b.n)&&decide (a.s=b.s))):=by
  rw[Bool.eq_iff_iff];cases a;cases b;simp
 rw[e];have e1:(a.k==b.k)=decide (a.k=b.k):=rfl;have e2:(a.n==b.n)=decide (a.n=b.n):=rfl;simp[Vl.v,yj,Kh,V.aAE,iB,iC,dV,e1,e2]
def m7(n:Int):List Vl→Option Int
 | []=>some n
 |x::l=>if 2000<IntKind.i64.wrap (n+(x.s.size:Int)) then none else m7 (IntKind.i64.wrap (n+(x.s.size:Int))) l
def tN(n:Int):List (List Vl)→Bool
 | []=>false
 |t::l=>if 50<t.length then true else match m7 n t with
  |none=>true
  |some m=>tN m l
theorem m6:∀(l:List (List Vl)) (n:Int),tN n l=false→∀t∈l,t.length≤50
 | [],_,_=>Zm
 |t::l,n,h=>by
  unfold tN at h;split at h
  ·cases h
  rename_i h1;split at h
  ·cases h
  rename_i m _;intro q hq;rcases KG.1 hq with rfl|hq
  ·omega
  exact m6 l m h q hq
theorem CC(o:Own)(l:List TR)(hl:l.length≤1000000000)(h:Hp):aM Tryz.prog 23 [tps o l] h (.bool (tN 0 (aQ l))):=by
 refine aJ (fun L=>trivial) fun h' nx hh=>aB L.g9z fun hd=>?_;refine ZK ?_;refine aue (@jK TR V) ?_;refine aP (fun q:Nat×Int=>aD 32 0 [(3, .int .i64 q.2),(8,tps o l),(9, .int .i64 l.length),(10, .int .i64 q.1)]) (fun q hp nx1=>q.1≤l.length∧nx≤nx1∧aS hp nx1∧Ks nx h' hp∧tN 0 (aQ l)=tN q.2 (aQ (l.drop q.1))) (fun q=>l.length-q.1) (0,0) ⟨Kx _,Kp _,hd,Hp.same.aAr,rfl⟩ (by simp only[WkL,aD,jH,jI,jJ,go_sem,reduceIte,jA,jB,jC,jD,reduceCtorEq,jE,jF]) ?_;rintro⟨i,n⟩ hp nx1 ⟨hi,hnx,hdm,hsm,hto⟩;generalize hQ:aZ _ _ _ _ _=Q0;dsimp only at hi hto;refine Zk ?_;have hle:=hsm.le hd (Kd _);rcases Kt i l.length with hlt|hge
 ·have hc:decide ((i:Int)<(l.length:Int))=true:=dct;have hw:IntKind.i64.wrap ((i:Int)+1)=((i+1:Nat):Int):=wrp;obtain⟨p,hpq⟩:∃p,l[i]=p:=⟨_,rfl⟩;have hg:(l.map TR.v).getD i (.tup [])=vls p.1 p.2:=by rw[aL TR.v l i hlt,hpq];rfl
  have hdr:aQ (l.drop i)=p.2::aQ (l.drop (i+1)):=by rw[Kg hlt,hpq];rfl
  rw[hdr,tN] at hto;by_cases aG2:50<p.2.length
  ·have cl:decide ((50:Int)<(p.2.length:Int))=true:=dct;rw[if_pos aG2] at hto;refine aue (e8 hc hw hg hlt (@jK TR V) (@jK Vl V) jG cl) ?_;rw[←hQ];refine au ?_;refine aC h' (lef hd hle) ⟨?_,rfl⟩;simp only[hto,go_sem,reduceIte,jA,jB,jC,jD,reduceCtorEq,jE,jF]
  have cl:decide ((50:Int)<(p.2.length:Int))=false:=dcf;rw[if_neg aG2] at hto;refine aue (e8 hc hw hg hlt (@jK TR V) (@jK Vl V) jG cl) ?_;refine aP (fun q:Nat×Int=>aD 32 0 [(3, .int .i64 q.2),(8,tps o l),(9, .int .i64 l.length),(10, .int .i64 i),(17,vls p.1 p.2),(18, .int .i64 p.2.length),(19, .int .i64 q.1)]) (fun q hp nx2=>q.1≤p.2.length∧nx≤nx2∧aS hp nx2∧Ks nx h' hp∧m7 n p.2=m7 q.2 (p.2.drop q.1)) (fun q=>p.2.length-q.1) (0,n) ⟨Kx _,hnx,hdm,hsm,rfl⟩ (by simp only[WkL,aD,jH,jI,jJ,go_sem,reduceIte,jA,jB,jC,jD,reduceCtorEq,jE,jF]) ?_;rintro⟨j,m⟩ hp2 nx2 ⟨hj,aGd,aGf,aBl,aEZ⟩;generalize hQ2:aZ _ _ _ _ _=Q2;dsimp only at hj aEZ;refine Zk ?_;have aAS:=aBl.le hd (Kd _);rcases Kt j p.2.length with hlj|hgj
  ·have hcj:decide ((j:Int)<(p.2.length:Int))=true:=dct;have hwj:IntKind.i64.wrap ((j:Int)+1)=((j+1:Nat):Int):=wrp;have hgj:(p.2.map Vl.v).getD j (.tup [])= .agg [.int .i64 p.2[j].k, .int .i64 p.2[j].n, .str p.2[j].s]:=aL Vl.v p.2 j hlj;rw[Kg hlj,m7] at aEZ;cases cb:decide (2000<IntKind.i64.wrap (m+(p.2[j].s.size:Int))) with
   |true=>
    rw[if_pos (of_decide_eq_true cb)] at aEZ;rw[aEZ] at hto;refine aue (e7 hcj hwj hgj hlj (@jK Vl V) jG cb) ?_;rw[←hQ2,←hQ];refine au ?_;refine aC h' (lef hd aAS) ⟨?_,rfl⟩;simp only[hto,go_sem,reduceIte,jA,jB,jC,jD,reduceCtorEq,jE,jF]
   |false=>
    rw[if_neg (of_decide_eq_false cb)] at aEZ;refine aue (e7 hcj hwj hgj hlj (@jK Vl V) jG cb) ?_;rw[←hQ2];exact aF (j+1,_) Zw ⟨hlj,or,dmo aGf,kep aBl,aEZ⟩ (by simp only[WkL,aD,jH,jI,jJ,hwj,go_sem,reduceIte,jA,jB,jC,jD,reduceCtorEq,jE,jF])
  have hcj:decide ((j:Int)<(p.2.length:Int))=false:=dcf;rw[Ko hgj,m7] at aEZ;rw[aEZ] at hto;dsimp only at hto;refine aue hcj ?_;rw[←hQ2];clear hQ2 Q2;refine aue hw ?_;rw[←hQ];exact aF (i+1,m) Zw ⟨hlt,or,aGf,aBl,hto⟩ (by simp only[WkL,aD,jH,jI,jJ,hw,go_sem,reduceIte,jA,jB,jC,jD,reduceCtorEq,jE,jF])
 have hc:decide ((i:Int)<(l.length:Int))=false:=dcf;rw[Ko hge] at hto;refine aue hc ?_;rw[←hQ];refine au ?_;refine aC h' (lef hd hle) ⟨?_,rfl⟩;rw[hto];rfl
theorem qx{a b:List Vl}:∀(i:Nat),a.take i=b.take i→i≤a.length→i≤b.length→cP a b=cP (a.drop i) (b.drop i):=fun i h h1 h2=>by
 conv=>lhs;rw[←Qe i a,←Qe i b,←h]
 clear h h1 h2;induction a.take i with
 |nil=>rfl
 |cons x l ih=>
  simp only[jP,cP,eT,orC,c3V.self,if_true];exact ih
theorem tW(o1 o2:Own)(a b:List Vl)(ha:a.length≤1000000000)(h:Hp):aM Tryz.prog 83 [vls o1 a,vls o2 b] h (.bool (qS a b)):=by
 refine aJ (fun L=>trivial) fun h' nx hh=>aB L.bAw fun hd=>?_;refine ZK ?_;refine au ?_;refine aP (fun i:Nat=>aD 41 0 [(0,vls o1 a),(1,vls o2 b),(5, .int .i64 i)]) (fun i hp nx1=>i≤a.length∧i≤b.length∧nx≤nx1∧aS hp nx1∧Ks nx h' hp∧a.take i=b.take i) (fun i=>a.length-i) 0 ⟨Kx _,Kx _,Kp _,hd,Hp.same.aAr,rfl⟩ (by simp only[WkL,aD,jH,jI,jJ,go_sem,reduceIte,jA,jB,jC,jD,reduceCtorEq,jE,jF]) ?_;rintro i hp nx1 ⟨hi,hib,hnx,hdm,hsm,htk⟩;generalize hQ:aZ _ _ _ _ _=Q0;refine Zk ?_;have hle:=hsm.le hd (Kd _);have hcm:=qx i htk hi hib;rcases Kt i a.length with hlt|hge
 ·have hc:decide ((i:Int)<(a.length:Int))=true:=dct;have hw:IntKind.i64.wrap ((i:Int)+1)=((i+1:Nat):Int):=wrp;rcases Kt i b.length with hlb|hgb
  ·have hc2:decide ((i:Int)<(b.length:Int))=true:=dct;have hg:=aL Vl.v a i hlt;have hg2:=aL Vl.v b i hlb;have hv:=pg a[i] b[i];have E:=e11 hc hc2 hw hg hg2 hv hlt hlb (@jK Vl V) jG Vl.aAC;cases he:decide (a[i]=b[i]) with
   |true=>
    have he':a[i]=b[i]:=of_decide_eq_true he;refine aue (e4 E he Qd KY) ?_;rw[←hQ];exact aF (i+1) or ⟨hlt,hlb,or,dmo hdm,kep hsm,by rw[Kf hlt,Kf hlb,htk,he']⟩ (by simp only[WkL,aD,jH,jI,jJ,hw,go_sem,reduceIte,jA,jB,jC,jD,reduceCtorEq,jE,jF])
   |false=>
    have he':a[i]≠b[i]:=of_decide_eq_false he;have D1:=fun h=>ry a[i] b[i] h;refine aue (e4 E he Qd KY) ?_;rw[←hQ];refine au ?_;refine aC h' (lef hd hle) ⟨?_,rfl⟩;have:qS a b=Bo a[i] b[i]:=by
     unfold qS Bo;rw[hcm,Kg hlt,Kg hlb];simp only[cP,eT,orC,if_neg (fun e=>he' ((c3V.eq _ _).1 e))]
    simp only[this,go_sem,reduceIte,jA,jB,jC,jD,reduceCtorEq,jE,jF]
  have hc2:decide ((i:Int)<(b.length:Int))=false:=dcf;have hl2:decide ((a.length:Int)<(b.length:Int))=false:=dcf;refine aue (e4 hc hc2 (@jK Vl V) hl2) ?_;rw[←hQ];refine aue (e2 (@jK Vl V) hl2) ?_;refine aC h' (lef hd hle) ⟨?_,rfl⟩;have:qS a b=false:=by
   unfold qS;rw[hcm,Kg hlt,Ko hgb];rfl
  simp only[this,go_sem,reduceIte,jA,jB,jC,jD,reduceCtorEq,jE,jF]
 have hc:decide ((i:Int)<(a.length:Int))=false:=dcf;have hia:i=a.length:=or;have:qS a b=decide ((a.length:Int)<(b.length:Int)):=by
  unfold qS;rw[hcm,hia,QY];rcases Kt a.length b.length with k|k
  ·rw[Kg k,decide_eq_true (by omega:(a.length:Int)<b.length)];rfl
  rw[Ko k,decide_eq_false (by omega:¬(a.length:Int)<b.length)];rfl
 refine aue hc ?_;rw[←hQ];refine aue (@jK Vl V) ?_;refine aC h' (lef hd hle) ⟨?_,rfl⟩;simp only[this,go_sem,reduceIte,jA,jB,jC,jD,reduceCtorEq,jE,jF]
end Go.Proofs.YtlhedpgobaellaaGreatDoor
namespace Go.Proofs.YtlhedpgobaellaaGreatDoor
open Go.RowKit Go.Sort
theorem Br{α:Type}{c:α→α→Int}(h:C3 c){x:α}:∀{l:List α} {k:Nat},k≤l.length→(∀y∈l.take k,c y x<0)→(∀hk:k<l.length,¬c l[k] x<0)→x∉l→iW c x l=l.take k++x::l.drop k
 | [],k,hk,_,_,_=>by
  have:k=0:=by simpa using hk
  subst this;rfl
 |y::l,0,_,_,h2,h3=>by
  have h2:=h2 Zm;simp only[List.getElem_cons_zero] at h2;have hne:c y x≠0:=fun e=>h3 (by simp[(h.eq _ _).1 e]);rw[iW,if_pos (h.pos hne h2)];rfl
 |y::l,k+1,hk,h1,h2,h3=>by
  have hy:c y x<0:=h1 y Zm;have n1:¬c x y<0:=fun e=>by have:=(h.aCE _ _).1 e;omega
  have n2:c x y≠0:=fun e=>by rw[(h.eq _ _).1 e,h.self] at hy;omega
  rw[iW,if_neg n1,if_neg n2,Br h (k:=k) (by simpa using hk) (fun z hz=>h1 z (by simp[hz])) (fun hk=>by have:=h2 (by simpa using hk);simpa using this) (fun e=>h3 (by simp[e]))];rfl
structure AM(l:List Vl)(i:Nat)(many sum:Int)(low high:Vl):Prop where
 many:many=(lD sD (l.take i)).length
 sum:sum=Hc (lD sD (l.take i))
 aYt:low∈l
 aYu:∀z∈l.take i,¬sD z low<0
 aPk:high∈l
 aPl:∀z∈l.take i,¬sD high z<0
theorem AM.step{l:List Vl}{i:Nat}{many sum:Int}{low high:Vl}(f:AM l i many sum low high)(hi:i<l.length):
 AM l (i+1) (if l[i]∈l.take i then many else many+1) (if l[i]∈l.take i then sum else sum+l[i].n) (if decide (sD l[i] low<0)=true then l[i] else low) (if decide (sD high l[i]<0)=true then l[i] else high):=by
 have h1:=EF c3V hi f.aYt f.aYu;have h2:=Db c3V hi f.aPk f.aPl;refine⟨?_,?_,h1.1,h1.2,h2.1,h2.2⟩
 ·rw[Kf hi,BZ c3V,f.many];split<;>simp
 rw[Kf hi,BT,f.sum];split<;>simp
end Go.Proofs.YtlhedpgobaellaaGreatDoor
namespace Go.Proofs.YtlhedpgobaellaaGreatDoor
open Go.RowKit Go.Sort
attribute [local irreducible] KN
theorem Gm:aE Tryz.prog 175=some (LB.aAX (.agg 3)):=Zz
theorem Gq:aE Tryz.prog 113=some (LB.ContainsFunc (.agg 3) 175):=Zz
theorem pi(x:Vl)(h:Hp):aM Tryz.prog 112 [x.v] h (.bool (!bU x)):=by
 refine aJ (fun L=>trivial) fun h' nx hh=>aB L.bAc fun hd=>?_;have C1:=fun h=>iP x h;have hf:=Vl.aAC x;generalize x.v=X at*;simp only[Qx,QA,QP,QQ,Qm,Qo,Qy,KR,Kb];refine aue hf ?_;exact aC h' (leo hd) ⟨rfl,rfl⟩
theorem jp(o:Own)(l:List Vl)(hl:l.length≤1000000000)(h:Hp):aM Tryz.prog 64 [vls o l] h (.bool (decide (l.length≤6)&&l.all bU)):=by
 refine aJ (fun L=>trivial) fun h' nx hh=>aB L.bBL fun hd=>?_;have C1:=fun h=>gU Vl.v (fun _=>Vl.aAC _) Gq Gm (fun x=> !bU x) o l 112 [] h (fun x _=>pi x h) hl;have ha:(!l.any fun x=> !bU x)=l.all bU:=by rw[List.not_any_eq_all_not];simp
 simp only[Qx,QA,QP,QQ,Qm,Qo,Qy,KR,Kb];by_cases h6:l.length≤6
 ·have g:decide ((l.length:Int)≤6)=true:=dct;rw[decide_eq_true h6];refine aue (e3 g (@Qi Vl V) ha) ?_;exact aC h' (leo hd) ⟨rfl,rfl⟩
 have g:decide ((l.length:Int)≤6)=false:=dcf;rw[decide_eq_false h6];refine aue (e2 g (@Qi Vl V)) ?_;exact aC h' (leo hd) ⟨rfl,rfl⟩
end Go.Proofs.YtlhedpgobaellaaGreatDoor
namespace Go.Proofs.YtlhedpgobaellaaGreatDoor
open Go.RowKit Go.Sort
attribute [local irreducible] KN
namespace LB
abbrev aBV(k:Sh):List aA:=[
 ⟨some 4,none, .val (.move (.const (.sl k .nil [])))⟩]
abbrev aBU:List aA:=[
 ⟨some 8,none, .val (.move (.slot 0))⟩,
 ⟨some 9,none, .val (.len (.slot 8))⟩,
 ⟨some 10,none, .val (.bin .lss (.slot 9) (.const (.int .i64 2)))⟩]
abbrev aBT:List aA:=[
 ⟨some 11,none, .val (.move (.slot 0))⟩,
 ⟨some 4,none, .val (.move (.slot 11))⟩]
abbrev aBS:List aA:=[
 ⟨some 5,none, .val (.move (.const (.int .i64 1)))⟩]
abbrev aBR:List aA:=[
 ⟨some 12,none, .val (.move (.slot 5))⟩,
 ⟨some 13,none, .val (.move (.slot 0))⟩,
 ⟨some 14,none, .val (.len (.slot 13))⟩,
 ⟨some 15,none, .val (.bin .lss (.slot 12) (.slot 14))⟩]
abbrev aBQ(k:Sh):List (aA×List Nat):=[
 (⟨some 18,none, .val (.move (.slot 1))⟩,[]),
 (⟨some 19,none, .val (.move (.slot 0))⟩,[]),
 (⟨some 20,none, .val (.move (.slot 5))⟩,[]),
 (⟨some 21,none, .val (.idxA k (.slot 19) (.slot 20))⟩,[1,2]),
 (⟨some 22,none, .val (.load k (.slot 21))⟩,[1,2,3]),
 (⟨some 23,none, .val (.move (.slot 0))⟩,[]),
 (⟨some 24,none, .val (.move (.slot 5))⟩,[]),
 (⟨some 25,none, .val (.bin .sub (.slot 24) (.const (.int .i64 1)))⟩,[6]),
 (⟨some 26,none, .val (.idxA k (.slot 23) (.slot 25))⟩,[5,6,7]),
 (⟨some 27,none, .val (.load k (.slot 26))⟩,[5,6,7,8]),
 (⟨some 28,none, .callv (.slot 18) [(.slot 22),(.slot 27)]⟩,[0,1,2,3,4,5,6,7,8,9])]
abbrev aBC:List aA:=[]
abbrev aBP(k:Sh):List aA:=[
 ⟨some 29,none, .val (.move (.slot 0))⟩,
 ⟨some 30,none, .val (.move (.slot 5))⟩,
 ⟨some 31,none, .val (.slc k (.slot 29) (.some (.slot 30)) .none .none)⟩,
 ⟨some 6,none, .val (.move (.slot 31))⟩]
abbrev aBO:List aA:=[
 ⟨some 7,none, .val (.move (.const (.int .i64 1)))⟩]
abbrev aBN:List aA:=[
 ⟨some 32,none, .val (.move (.slot 7))⟩,
 ⟨some 33,none, .val (.move (.slot 6))⟩,
 ⟨some 34,none, .val (.len (.slot 33))⟩,
 ⟨some 35,none, .val (.bin .lss (.slot 32) (.slot 34))⟩]
abbrev aBM(k:Sh):List (aA×List Nat):=[
 (⟨some 38,none, .val (.move (.slot 1))⟩,[]),
 (⟨some 39,none, .val (.move (.slot 6))⟩,[]),
 (⟨some 40,none, .val (.move (.slot 7))⟩,[]),
 (⟨some 41,none, .val (.idxA k (.slot 39) (.slot 40))⟩,[1,2]),
 (⟨some 42,none, .val (.load k (.slot 41))⟩,[1,2,3]),
 (⟨some 43,none, .val (.move (.slot 6))⟩,[]),
 (⟨some 44,none, .val (.move (.slot 7))⟩,[]),
 (⟨some 45,none, .val (.bin .sub (.slot 44) (.const (.int .i64 1)))⟩,[6]),
 (⟨some 46,none, .val (.idxA k (.slot 43) (.slot 45))⟩,[5,6,7]),
 (⟨some 47,none, .val (.load k (.slot 46))⟩,[5,6,7,8]),
 (⟨some 48,none, .callv (.slot 38) [(.slot 42),(.slot 47)]⟩,[0,1,2,3,4,5,6,7,8,9]),
 (⟨some 49,none, .val (.not (.slot 48))⟩,[0,1,2,3,4,5,6,7,8,9,10])]
abbrev aBB:List aA:=[]
abbrev aBJ(k:Sh):List aA:=[
 ⟨some 50,none, .val (.move (.slot 0))⟩,
 ⟨some 51,none, .val (.move (.slot 5))⟩,
 ⟨some 52,none, .val (.move (.slot 6))⟩,
 ⟨some 53,none, .val (.move (.slot 7))⟩,
 ⟨some 54,none, .val (.idxA k (.slot 52) (.slot 53))⟩,
 ⟨some 55,none, .val (.load k (.slot 54))⟩,
 ⟨some 56,none, .val (.idxA k (.slot 50) (.slot 51))⟩,
 ⟨none,none, .store k (.slot 56) (.slot 55)⟩]
abbrev aBI:List aA:=[
 ⟨some 57,none, .val (.move (.slot 5))⟩,
 ⟨some 58,none, .val (.bin .add (.slot 57) (.const (.int .i64 1)))⟩,
 ⟨some 5,none, .val (.move (.slot 58))⟩]
abbrev aBH:List aA:=[
 ⟨some 36,none, .val (.move (.slot 7))⟩,
 ⟨some 37,none, .val (.bin .add (.slot 36) (.const (.int .i64 1)))⟩,
 ⟨some 7,none, .val (.move (.slot 37))⟩]
abbrev aBX(k:Sh):aT:=(.seq (.seq (.ops aBN) (.cond (.slot 35) .skip (.exit 2))) (.seq (.block 3 (.seq (.draw 12 (aBM k) aBB) (.cond (.slot 49) (.seq (.ops (aBJ k)) (.ops aBI)) .skip))) (.ops aBH)))
abbrev aBG(k:Sh)(z:V):List aA:=[
 ⟨some 59,none, .val (.move (.slot 0))⟩,
 ⟨some 60,none, .val (.move (.slot 5))⟩,
 ⟨some 61,none, .val (.slc k (.slot 59) (.some (.slot 60)) .none .none)⟩,
 ⟨none,none, .clear k (.slot 61) z⟩]
abbrev aBF(k:Sh):List aA:=[
 ⟨some 62,none, .val (.move (.slot 0))⟩,
 ⟨some 63,none, .val (.move (.slot 5))⟩,
 ⟨some 64,none, .val (.slc k (.slot 62) .none (.some (.slot 63)) .none)⟩,
 ⟨some 4,none, .val (.move (.slot 64))⟩]
abbrev aBE:List aA:=[
 ⟨some 16,none, .val (.move (.slot 5))⟩,
 ⟨some 17,none, .val (.bin .add (.slot 16) (.const (.int .i64 1)))⟩,
 ⟨some 5,none, .val (.move (.slot 17))⟩]
abbrev aBW(k:Sh)(z:V):aT:=(.seq (.seq (.ops aBR) (.cond (.slot 15) .skip (.exit 0))) (.seq (.block 1 (.seq (.draw 11 (aBQ k) aBC) (.cond (.slot 28) (.seq (.ops (aBP k)) (.seq (.seq (.ops aBO) (.block 2 (.loop (aBX k)))) (.seq (.ops (aBG k z)) (.seq (.ops (aBF k)) .ret)))) .skip))) (.ops aBE)))
abbrev aBD:List aA:=[
 ⟨some 65,none, .val (.move (.slot 0))⟩,
 ⟨some 4,none, .val (.move (.slot 65))⟩]
def aAx(k:Sh)(z:V):LFn:=⟨(.seq (.ops (aBV k)) (.seq (.seq (.ops aBU) (.cond (.slot 10) (.seq (.ops aBT) .ret) .skip)) (.seq (.seq (.ops aBS) (.block 0 (.loop (aBW k z)))) (.seq (.ops aBD) .ret)))),66,[.slot 4]⟩
end LB
section
variable{P:Program}{α:Type} [Inhabited α](e:α→V){k:Sh}{z:V}
theorem vS(ds:List α)(j:Nat)(h1:0<j)(h2:j<ds.length):ds.take (j+1)=ds.take (j-1)++[ds[j-1],ds[j]]∧ds.take j=ds.take (j-1)++[ds[j-1]]:=by
 have e1:ds.take j=ds.take (j-1)++[ds[j-1]]:=by
  have:=Kf (i:=j-1) (l:=ds) or;rwa [show j-1+1=j by omega] at this
 refine⟨?_,e1⟩;rw[Kf h2,e1,Ku];rfl
theorem xa{p:α→α→Bool}(ds:List α)(j:Nat)(h1:0<j)(h2:j<ds.length)(he:p ds[j] ds[j-1]=true):cpt p (ds.take (j+1))=cpt p (ds.take j):=by
 rw[(vS ds j h1 h2).1,(vS ds j h1 h2).2,w9,if_pos he,Qh]
theorem Bx{p:α→α→Bool}(ds:List α)(j:Nat)(h1:0<j)(h2:j<ds.length)(he:p ds[j] ds[j-1]=false):cpt p (ds.take (j+1))=cpt p (ds.take j)++[ds[j]]:=by
 rw[(vS ds j h1 h2).1,(vS ds j h1 h2).2,w9,if_neg (by simp[he])]
theorem iv{f:Nat}(hL:aE P f=some (LB.aAx k z))(hz:z.fits k=true)(hfit:∀x,(e x).fits k=true)(g:Nat)(caps:List V)(p:α→α→Bool)(hc0:Hp)(n:Nat)(ds:List α)
 (hp0:∀x∈ds,∀y∈ds,aM P g ([e x,e y]++caps) hc0 (.bool (p x y))) (hlen:ds.length≤1000000) (h:Hp) (nx:Nat) (hh:hc0.has h) (hcn:hc0 n=none) (hn:h n=some (.arr k (ds.map e))):
 aR P f [.rs n k 0 ds.length, .fn (.func g) [] caps] h nx fun v h' _=>∃es m,v= .rs n k 0 m∧m≤es.length∧h'=h.set n (.arr k es)∧es.take m=(cpt p ds).map e:=by
 have aFG:h.set n (.arr k (ds.map e))=h:=by
  funext x;unfold Ka;split
  ·rename_i hx;rw[hx,hn]
  rfl
 have aAc:cpt p ds=ds→∃es m,V.rs n k 0 ds.length= .rs n k 0 m∧m≤es.length∧h=h.set n (.arr k es)∧es.take m=(cpt p ds).map e:=fun hc=>
  ⟨ds.map e,ds.length,rfl,Zm,aFG.symm,by rw[hc];exact Qb Zm⟩
 have qX:∀H:Hp,(∀x,x≠n→H x=h x)→hc0.has H:=fun H hH m b e hb=>by
  have:m≠n:=by rintro rfl;rw[hcn] at e;cases e
  rw[hH m this];exact hh m b e hb
 have hpp:∀i j (hi:i<ds.length) (hj:j<ds.length),aM P g ([e ds[i],e ds[j]]++caps) hc0 (.bool (p ds[i] ds[j])):=fun i j hi hj=>hp0 _ (KD _) _ (KD _);clear hp0;refine aB hL fun hd=>?_;refine ZK ?_;rcases Kt ds.length 2 with h2|h2
 ·have hc:decide ((ds.length:Int)<2)=true:=dct;refine aue hc ?_;refine aC h (Kd _) ?_;refine Zn ?_;refine aAc ?_;match ds,h2 with
  | [],_=>rfl
  | [x],_=>rfl
 have hc:decide ((ds.length:Int)<2)=false:=dcf;refine aue hc ?_;refine aP (fun i:Nat=>aD 66 0 [(0, .rs n k 0 ds.length),(1, .fn (.func g) [] caps),(5, .int .i64 i)]) (fun i hp _=>1≤i∧i≤ds.length∧hp=h∧cpt p (ds.take i)=ds.take i) (fun i=>ds.length-i) 1 ⟨Kp _,or,rfl,?_⟩ ?_ ?_
 ·match ds,h2 with
  |x::l,_=>rfl
 ·simp only[WkL,aD,jH,jI,jJ,go_sem,reduceIte,jA,jB,jC,jD,reduceCtorEq,jE,jF]
 rintro i hp nx1 ⟨hi1,hi,rfl,hcs⟩;generalize hQ:aZ _ _ _ _ _=Q0;refine Zk ?_;rcases Kt i ds.length with hlt|hge
 ·have hc:decide ((i:Int)<(ds.length:Int))=true:=dct;have hg:=aL e ds i hlt;have hg1:=aL e ds (i-1) or;have hw1:IntKind.i64.wrap ((i:Int)-1)=((i-1:Nat):Int):=wrp;have hw:IntKind.i64.wrap ((i:Int)+1)=((i+1:Nat):Int):=wrp;have aCC:i-1<ds.length:=or;have hne:(i=ds.length)=False:=eq_false or;have hq:=hpp i (i-1) hlt aCC;refine aue (e11 hc hg hg1 hw1 hw hlt aCC hn hne hfit (e2 (@jK α V) jG)) ?_;refine ip rfl hq rfl (qX _ fun _ _=>rfl) ?_;refine Zn ?_;cases hx:p ds[i] ds[i-1] with
  |true=>
   refine aue (e11 hc hg hg1 hw1 hw hlt aCC hn hne hfit (e2 (@jK α V) jG)) ?_
   refine aP (fun q:Nat×Nat×List α=>aD 66 0 [(0, .rs n k 0 ds.length),(1, .fn (.func g) [] caps),(5, .int .i64 q.1),(6, .rs n k i (ds.length-i)),(7, .int .i64 q.2.1)])
    (fun q hp2 _=>i≤q.1∧q.1+1≤i+q.2.1∧1≤q.2.1∧i+q.2.1≤ds.length∧q.2.2.length=ds.length∧q.2.2.take q.1=cpt p (ds.take (i+q.2.1))∧q.2.2.drop q.1=ds.drop q.1∧hp2 n=some (.arr k (q.2.2.map e))∧∀x,x≠n→hp2 x=hp x)
    (fun q=>ds.length-q.2.1) (i,1,ds) ⟨Kp _,Kp _,Kp _,Zw,rfl,?_,rfl,hn,fun _ _=>rfl⟩ ?_ ?_
   ·dsimp only;rw[xa ds i or hlt hx,hcs]
   ·simp only[WkL,aD,jH,jI,jJ,go_sem,reduceIte,jA,jB,jC,jD,reduceCtorEq,jE,jF]
   rintro⟨m,k2,xs⟩ hp2 nx2 ⟨a1,a2,a3,a4,a5,a6,a7,a8,a9⟩;generalize hQ2:aZ _ _ _ _ _=Q2;dsimp only at a1 a2 a3 a4 a5 a6 a7 a8;refine Zk ?_;have hat:∀j,m≤j→(hj:j<ds.length)→xs[j]'or=ds[j]:=fun j hm hj=>by
    have e1:xs[j]'or=(xs.drop m)[j-m]'(by simp;omega):=by simp[show m+(j-m)=j by omega]
    have e2:ds[j]=(ds.drop m)[j-m]'(by simp;omega):=by simp[show m+(j-m)=j by omega]
    rw[e1,e2];congr 1
   rcases Kt k2 (ds.length-i) with aO7|aXr
   ·have hcc:decide ((k2:Int)<((ds.length-i:Nat):Int))=true:=dct;have hj:i+k2<ds.length:=or;have hj1:i+k2-1<ds.length:=or;have g1:(xs.map e).getD (i+k2) (.tup [])=e ds[i+k2]:=by rw[aL e xs (i+k2) or,hat _ or hj]
    have g2:(xs.map e).getD (i+(k2-1)) (.tup [])=e ds[i+k2-1]:=by
     rw[aL e xs (i+(k2-1)) or];rw[show e xs[i+(k2-1)]=e (xs[i+k2-1]'or) by congr 2;omega,hat _ or or]
    have w1:IntKind.i64.wrap ((k2:Int)-1)=((k2-1:Nat):Int):=wrp;have w2:IntKind.i64.wrap ((k2:Int)+1)=((k2+1:Nat):Int):=wrp;have w3:IntKind.i64.wrap ((m:Int)+1)=((m+1:Nat):Int):=wrp;have b1:i+(k2-1)<ds.length:=or;have b2:k2-1<ds.length-i:=or;have b3:m<ds.length:=or;have hq2:=hpp (i+k2) (i+k2-1) hj hj1;have E:=e14 hcc g1 g2 w1 w2 w3 hj b1 b2 b3 aO7 a8 a5 (e3 hfit (@jK α V) jG);refine aue E ?_;refine ip rfl hq2 rfl (qX _ a9) ?_;refine Zn ?_;cases hy:p ds[i+k2] ds[i+k2-1] with
    |false=>
     refine aue (e3 E KY Qd) ?_;rw[←hQ2];refine aF (m+1,k2+1,xs.set m ds[i+k2]) Zw ⟨Zw,Zw,Zw,Zw,by simpa using a5,?_,?_,?_,?_⟩ ?_
     ·dsimp only;rw[show i+(k2+1)=(i+k2)+1 by omega,Bx ds (i+k2) or hj hy,←a6,Kf (by simp;omega),List.getElem_set_self,List.take_set_of_le (Kp _)]
     ·dsimp only;rw[List.drop_set_of_lt or];have:=congrArg (List.drop 1) a7;rwa [QK,QK] at this
     ·refine Zn ?_;rw[List.map_set,aL e xs m or,gF (hfit _) (hfit _)]
     ·intro x hx;simp only[hx,go_sem,reduceIte,jA,jB,jC,jD,reduceCtorEq,jE,jF];exact a9 x hx
     simp only[WkL,aD,jH,jI,jJ,w2,go_sem,reduceIte,jA,jB,jC,jD,reduceCtorEq,jE,jF]
    |true=>
     refine aue (e3 E KY Qd) ?_;rw[←hQ2];refine aF (m,k2+1,xs) Zw ⟨a1,Zw,Zw,Zw,a5,?_,a7,a8,a9⟩ ?_
     ·dsimp only;rw[show i+(k2+1)=(i+k2)+1 by omega,xa ds (i+k2) or hj hy,a6]
     simp only[WkL,aD,jH,jI,jJ,w2,go_sem,reduceIte,jA,jB,jC,jD,reduceCtorEq,jE,jF]
   have hcc:decide ((k2:Int)<((ds.length-i:Nat):Int))=false:=dcf;have aCD:i+k2=ds.length:=or;rw[aCD,KC] at a6;have hm1:m<ds.length:=or;have hml:(m=ds.length)=False:=eq_false or;refine aue hcc ?_;rw[←hQ2];refine aue (ee5 hml hm1 a8 a5 hz) ?_;rw[←hQ];refine au ?_;refine aC _ (Kd _) ⟨(xs.map e).take m++Ki (ds.length-m) z++(xs.map e).drop (m+(ds.length-m)),m,?_,?_,?_,?_⟩
   ·simp only[QR,go_sem,reduceIte,jA,jB,jC,jD,reduceCtorEq,jE,jF]
   ·simp;omega
   ·funext x;by_cases hx:x=n
    ·subst hx;simp only[go_sem,reduceIte,jA,jB,jC,jD,reduceCtorEq,jE,jF]
    simp only[hx,go_sem,reduceIte,jA,jB,jC,jD,reduceCtorEq,jE,jF];exact a9 x hx
   rw[Ku,KA (by simp;omega),Wd,Nat.min_self,←List.map_take,a6]
  |false=>
   refine aue (e11 hc hg hg1 hw1 hw hlt aCC hn hne hfit (e2 (@jK α V) jG)) ?_;rw[←hQ];refine aF (i+1) or ⟨or,or,rfl,?_⟩ ?_
   ·rw[Bx ds i or hlt hx,hcs,←Kf hlt]
   simp only[WkL,aD,jH,jI,jJ,hw,go_sem,reduceIte,jA,jB,jC,jD,reduceCtorEq,jE,jF]
 have hc:decide ((i:Int)<(ds.length:Int))=false:=dcf;refine aue hc ?_;rw[←hQ];refine au ?_;refine aC hp (Kd _) ?_;refine Zn ?_;refine aAc ?_;rw[show i=ds.length by omega,KC] at hcs;exact hcs
end
end Go.Proofs.YtlhedpgobaellaaGreatDoor
namespace Go.Proofs.YtlhedpgobaellaaGreatDoor
open Go.RowKit Go.Sort Go.Shelf Go.Lib
theorem iI{α:Type} [Inhabited α](enc:α→Value)(w:World)(blk off m:Nat)(dk:Array α)(os:Array Obj)(b:Nat)(hb:b<w.heap.size)(hne:b≠blk):(sortWorld enc w blk off m dk os).heap[b]?=w.heap[b]?:=by
 unfold sortWorld putRow mapBlock grow;simp only[heap_ahead];rw[KE (by simpa using hb),QF,if_neg (fun e=>hne e.symm)]
theorem rG{α:Type} [Inhabited α](enc:α→Value)(w:World)(blk off m:Nat)(dk:Array α)(os:Array Obj):w.heap.size≤(sortWorld enc w blk off m dk os).heap.size:=by
 unfold sortWorld putRow mapBlock grow;simp only[heap_ahead,QT,Array.size_modify];omega
theorem tI{α:Type} [Inhabited α](enc:α→Value)(w:World)(blk off m:Nat)(dk:Array α)(os:Array Obj){c:Array Value}{T:TypeId}{fr:Nat×Nat}(hh:w.heap[blk]?=some (.cells c T fr)):∃c':Array Value,(sortWorld enc w blk off m dk os).heap[blk]?=some (.cells c' T fr)∧c'.size=c.size:=by
 have hb:blk<w.heap.size:=by
  rcases Kt blk w.heap.size with hlt|hge
  ·exact hlt
  rw[QB hge] at hh;exact absurd hh Zm
 refine⟨putCells enc off dk c,?_,by simp[putCells]⟩;unfold sortWorld putRow mapBlock grow;simp only[heap_ahead];rw[KE (by simpa using hb),QF,if_pos rfl,hh];rfl
theorem wN{K:Ker}{α:Type} [Inhabited α](enc:α→Value)(blk off m:Nat)(dk:Array α)(os:Array Obj){c:Array Value}{T:TypeId}(hh:K.w.heap[blk]?=some (.cells c T (0,0)))(hf:¬K.fro blk)(hi:K.imm blk=0):
 K.le {K with w:=sortWorld enc K.w blk off m dk os} where
 live _ hn:=hn
 mu _ _:=rfl
 tp _ _:=rfl
 fro:=rfl
 imm _ _:=Kp _
 cell b o hb hst:=by
  have hne:b≠blk:=by
   rintro rfl;rcases hst with h|h
   ·exact hf h
   omega
  exact gV (iI enc K.w blk off m dk os b hb hne)
 shape b hb:=by
  by_cases e:b=blk
  ·subst e;obtain⟨c',h1,h2⟩:=tI enc K.w b off m dk os hh;simp only[QE,h1,hh,h2]
  simp only[QE,iI enc K.w blk off m dk os b hb e]
 below:=⟨rfl,rfl,rfl,Nat.le_add_right _ _,rG enc K.w blk off m dk os,fun b hb hF=>iI enc K.w blk off m dk os b hb (fun e=>hF.elim (fun hF=>hf (e▸hF)) fun hm=>by subst e;unfold gM at hm;rw[hh] at hm;cases hm)⟩
theorem yy{P:Program}{ρ:Ren}(L:SlLaysF.n6 P ρ)(hen:kP P (ρ.f 6)=true)
 {δ:Type} (e:δ→V) (hfit:∀d,(e d).fits .leaf=true) (cf:δ→δ→Int) (hO:SWO (ltOf cf)) (g:Nat) (caps:List V) (aXy:∀x y,aM P g ([e x,e y]++caps) Kw (.int .i64 (cf x y)))
 (n:Nat) (ds:List δ) (hne:ds≠ []) (h:Hp) (nx:Nat) (hn:h n=some (.arr .leaf (ds.map e))) (hlen:ds.length<4611686018427387904):
 aR P (ρ.f 6) [.rs n .leaf 0 ds.length, .fn (.func g) [] caps] h nx fun v h' nx'=>v= .tup []∧nx'=nx∧∃ds':List δ,ds'.Perm ds∧jj cf ds'∧h'=h.set n (.arr .leaf (ds'.map e)):=by
 refine⟨hen,fun K cargs hlv hr hv=>?_⟩;obtain⟨hsz,hv⟩:=hv;have hsz:cargs.size=2:=by simpa using hsz.symm
 obtain⟨c1,c2,rfl⟩:∃c1 c2,cargs=#[c1,c2]:=⟨cargs[0],cargs[1],by
  apply Wg
  ·simp[hsz]
  intro i h1 h2;have:i=0∨i=1:=by simp at h2;omega
  rcases this with rfl|rfl<;>rfl⟩
 have v1:=hv 0 Zm;have v2:=hv 1 Zm;have hb:=hr.blk n _ hn;have aXs:=hr.base n _ hn;cases hb with
 |arr _ _ c T hh hcs himm hfit' hcv=>
  have v1:VR K (.rs n .leaf 0 ds.length) c1:=v1;have v2:VR K (.fn (.func g) [] caps) c2:=v2;cases v1 with
  |rs _ _ _ _ cap hl hcap hm=>
   cases v2 with
   |fn _ _ _ cfirst ccap q1 q2 w1 w2=>
    have hcf:cfirst=#[]:=by
     have:cfirst.size=0:=by simpa using q1.symm
     exact Array.eq_empty_of_size_eq_zero this
    subst hcf;have hcs:ds.length≤c.size:=by simpa [Kc] using hcs
    have hblk:K.mu n<K.w.heap.size:=by
     rcases Kt (K.mu n) K.w.heap.size with hlt|hge
     ·exact hlt
     rw[QB hge] at hh;exact absurd hh Zm
    let A:={p:δ×Value // VR K (e p.1) p.2}
    have hcell:∀i (hi:i<ds.length),VR K (e ds[i]) (c.getD i KI):=fun i hi=>by
     have h1:=hcv i (by simpa using hi) 0 (by simp[Kc]);simp only[Ke,Qa,Kv hi,Option.map_some,QU,Kc,KF,KW] at h1;rwa [fA (by simpa [Kh] using hfit ds[i])] at h1
    have aAk:0<ds.length:=List.length_pos_iff.2 hne
    haveI:Inhabited A:=⟨⟨(ds[0],c.getD 0 KI),hcell 0 aAk⟩⟩
    let d:Array A:=Array.ofFn fun i:Fin ds.length=>(⟨(ds[i],c.getD i KI),hcell i i.2⟩:A)
    have hds:d.size=ds.length:=by simp[d]
    have hd:∀i (hi:i<ds.length),d[i]! =(⟨(ds[i],c.getD i KI),hcell i hi⟩:A):=fun i hi=>by
     rw[getElem!_pos d i (by rw[hds];exact hi)];simp[d]
    let enc:A→Value:=fun p=>p.1.2
    have h1:OneCell enc:=fun x=>x.2.aA5 (by simpa [Kh] using hfit x.1.1);have hH:Holds enc K.w (K.mu n) 0 d:=by
     intro j hj;rw[hds] at hj;constructor
     ·rw[hd _ hj];simp only[QL,hh,KB,enc,KS,KU,if_false];rw[Kj,Qv or];rfl
     simp only[Wc,hh];simp
    have hC:CmpLays1 P g ccap enc (fun x y:A=>cf x.1.1 y.1.1) (K.mu n) 0 d.size K.w:=by
     intro m os dk _ x y;have hle:=wN enc (K.mu n) 0 m dk os hh aXs himm;generalize hW:sortWorld enc K.w (K.mu n) 0 m dk os=W at hle⊢;have hp:=(aXy x.1.1 y.1.1) Kw nx (aI _);have up:∀{v cv},VR K v cv→VR {K with w:=W,fro:=fun b=>b<W.heap.size} v cv:=fun r=>VR.refro (K:={K with w:=W}) (fun b hb=>Nat.lt_of_lt_of_le (hr.size.lt b hb) (by rw[←hW];exact rG enc K.w _ _ m dk os)) (r.mono hle)
     have c:=hp.2 {K with w:=W,fro:=fun b=>b<W.heap.size} (#[enc x,enc y]++ccap) hlv ⟨(fun n b e=>by cases e),(fun n b e=>by cases e),(fun n b e=>by cases e),(fun n n' b b' e=>by cases e),((hr.size.keep hle).all)⟩
      ((show VRs _ [e x.1.1,e y.1.1] #[enc x,enc y] from⟨rfl,fun i hi=>by
        have:i=0∨i=1:=by simp at hi;omega
        rcases this with rfl|rfl
        ·exact up x.2
        exact up y.2⟩).append ⟨q2,fun i hi=>up (w2 i hi)⟩)
     refine c.mono ?_;rintro e' w' ⟨K',v,cv,h',nx',rfl,rfl,a1,a2,a3,a4,a5,rfl,rfl,rfl⟩;cases a2;exact⟨rfl,CO a1.below⟩
    have key:=Any.slices_SortFunc L enc h1 (fun x y:A=>cf x.1.1 y.1.1) (sx (fun x:A=>x.1.1) hO) g ccap (K.mu n) 0 cap d K.w (fun args w=>jR (aXy ds[0] ds[0] Kw 0 (aI _)).1 args w) hC hH hblk (by rw[hds];exact hlen);rw[hds] at key;have e0:(0:Nat)*Sh.leaf.size=0:=KL _;rw[e0];refine key.mono ?_;rintro e' w' ⟨rfl,d',m,os,hp,hs,rfl⟩;obtain⟨hp1,_,hp3⟩:=hp;have hp1:d'.size=ds.length:=by rw[hp1,hds]
    have hle:=wN enc (K.mu n) 0 m d' os hh aXs himm;have hH':=holds_sortWorld enc K.w (K.mu n) 0 m d d' os hblk hH (by rw[hp1,hds]);obtain⟨c',hh',hcz⟩:=tI enc K.w (K.mu n) 0 m d' os hh;refine⟨{K with w:=sortWorld enc K.w (K.mu n) 0 m d' os}, .tup [], .tuple #[],h.set n (.arr .leaf ((d'.toList.map fun x=>x.1.1).map e)),nx,rfl,rfl,hle, .tup [] #[] rfl (fun i hi=>absurd hi Zm),?_,fun m hm=>⟨hlv m hm, .inl hm⟩,Kp _,rfl,rfl,_,?_,?_,rfl⟩
    ·have aD0:∀m b,(h.set n (.arr .leaf ((d'.toList.map fun x=>x.1.1).map e))) m=some b→∃b',h m=some b':=fun m' b' e'=>by
      unfold Ka at e';split at e'
      ·rename_i em;subst em;exact⟨_,hn⟩
      exact⟨_,e'⟩
     refine⟨fun m' b' e'=>?_,fun m' b' e'=>?_,fun m' b' e'=>?_,fun m1 m2 b1 b2 e1 e2 em=>?_,hr.size.keep hle⟩
     ·obtain⟨b2,e2⟩:=aD0 m' b' e';exact hr.lt m' b2 e2
     ·obtain⟨b2,e2⟩:=aD0 m' b' e';exact hr.base m' b2 e2
     ·by_cases em:m'=n
      ·subst em;have eb:b'= .arr .leaf ((d'.toList.map fun x=>x.1.1).map e):=by simpa [Ka] using e'.symm
       subst eb;refine .arr _ _ c' T hh' (by
        have e0:((d'.toList.map fun x=>x.1.1).map e).length=ds.length:=by
         simp only[Qi,Ql];omega
        rw[hcz,e0];simpa [Kc] using hcs) himm (fun v hv=>?_) fun i hi j hj=>?_
       ·obtain⟨x,_,rfl⟩:=KO.1 hv;exact hfit x
       have hi:i<d'.size:=by simpa using hi
       have hj:j=0:=by simp[Kc] at hj;exact hj
       subst hj;obtain⟨g1,_⟩:=hH' i hi;simp only[QL,hh',KS,KU,if_false,KB] at g1;have:=(d'[i]!).2.mono hle;have e1:(((d'.toList.map fun x=>x.1.1).map e).getD i Kb)=e (d'[i]!).1.1:=by
        rw[getElem!_pos d' i hi];simp[Ke,hi]
       rw[e1,fA (by simpa [Kh] using hfit _)];have e2:c'.getD (i*Sh.leaf.size+0) KI=(d'[i]!).1.2:=by
        show c'.getD (i*1+0) KI=_;rw[KF,KW,Kj,g1];rfl
       rw[e2];exact this
      have e2:h m'=some b':=by unfold Ka at e';rw[if_neg em] at e';exact e'
      have hne:K.mu m'≠K.mu n:=fun e3=>em (hr.inj m' n _ _ e2 hn e3);exact(hr.blk m' b' e2).mono hle (hr.lt m' b' e2) (iI enc K.w (K.mu n) 0 m d' os _ (hr.blk m' b' e2).lt_size hne) rfl
     obtain⟨b3,e3⟩:=aD0 m1 b1 e1;obtain⟨b4,e4⟩:=aD0 m2 b2 e2;exact hr.inj m1 m2 b3 b4 e3 e4 em
    ·have p:=hp3.map fun x:A=>x.1.1;have ex:∀(x:Array A),x.size=ds.length→x.extract 0 ds.length=x:=fun x hx=>by rw[←hx];simp
     rw[ex d' hp1,ex d hds] at p;have:d.toList.map (fun x:A=>x.1.1)=ds:=by
      apply List.ext_getElem
      ·simp[hds]
      intro i h1 h2;simp[d]
     rw[this] at p;exact p
    unfold jj;rw[QS,List.pairwise_iff_getElem];intro i j hi hj hij;have:=hs i j (Kx _) hij (by simpa [hp1] using hj);rw[getElem!_pos d' i (by simpa using hi),getElem!_pos d' j (by simpa using hj)] at this;simpa [ltOf] using this
end Go.Proofs.YtlhedpgobaellaaGreatDoor
namespace Go.Proofs.YtlhedpgobaellaaGreatDoor
open Go.RowKit Go.Sort Go.Shelf Go.Lib
end Go.Proofs.YtlhedpgobaellaaGreatDoor
namespace Go.Proofs.YtlhedpgobaellaaGreatDoor
open Go.RowKit Go.Sort
attribute [local irreducible] KN
namespace LB
end LB
section
variable{P:Program}{α:Type} [Inhabited α](e:α→V){k:Sh}{z:V}
theorem rg{f:Nat}(hL:aE P f=some (LB.aAx k z))(fv:V)(h:Hp)(nx:Nat):aR P f [.sl k .nil [],fv] h nx fun v h' _=>v= .sl k .nil []∧h'=h:=by
 refine aB hL fun hd=>?_;simp only[Qx,QA,QP,QQ,Qm,Qo,Qy,KR,Kb];have hc:decide ((0:Int)<2)=true:=ZM;refine aue (e2 hc Int.natCast_zero) ?_;exact aC h (Kd _) ⟨rfl,rfl⟩
end
end Go.Proofs.YtlhedpgobaellaaGreatDoor
namespace Go.Proofs.YtlhedpgobaellaaGreatDoor
open Go.RowKit Go.Sort Go.Shelf Go.Lib
namespace LB
end LB
section
variable{P:Program}{α:Type}(e:α→V)(hfit:∀x,(e x).fits .leaf=true)
include hfit
end
end Go.Proofs.YtlhedpgobaellaaGreatDoor
namespace Go.Proofs.YtlhedpgobaellaaGreatDoor
open Go.Shelf
def yz:Go.Shelf.Ren:=⟨fun|6=>52|15=>98|14=>97|28=>153|29=>154|20=>145|21=>146|22=>147|23=>148|24=>149|25=>150|26=>151|27=>152|46=>208|47=>209|48=>210|49=>211|50=>212|57=>248|n=>n,fun|22=>69|24=>57|25=>145|3=>3|39=>84|0=>0|53=>261|55=>263|4=>4|46=>255|45=>254|50=>134|5=>5|9=>9|66=>315|70=>319|76=>345|77=>346|n=>n,fun|n=>n⟩
theorem D8:Go.Proofs.SlLaysF.n6 Tryz.prog yz:={
 mixed:=Zz
 f6:=⟨Tryz.f52.name,ZM,Tryz.func52.trans (congrArg some Zz)⟩
 f14:=⟨Tryz.f97.name,ZM,Tryz.func97.trans (congrArg some Zz)⟩
 f15:=Tryz.func98.trans (congrArg some Zz)
 f20:=⟨Tryz.f145.name,ZM,Tryz.func145.trans (congrArg some Zz)⟩
 f21:=⟨Tryz.f146.name,ZM,Tryz.func146.trans (congrArg some Zz)⟩
 f22:=⟨Tryz.f147.name,ZM,Tryz.func147.trans (congrArg some Zz)⟩
 f23:=⟨Tryz.f148.name,ZM,Tryz.func148.trans (congrArg some Zz)⟩
 f24:=⟨Tryz.f149.name,ZM,Tryz.func149.trans (congrArg some Zz)⟩
 f25:=⟨Tryz.f150.name,ZM,Tryz.func150.trans (congrArg some Zz)⟩
 f26:=⟨Tryz.f151.name,ZM,Tryz.func151.trans (congrArg some Zz)⟩
 f27:=⟨Tryz.f152.name,ZM,Tryz.func152.trans (congrArg some Zz)⟩
 f28:=Tryz.func153.trans (congrArg some Zz)
 f29:=Tryz.func154.trans (congrArg some Zz)
 f46:=⟨Tryz.f208.name,ZM,Tryz.func208.trans (congrArg some Zz)⟩
 f47:=Tryz.func209.trans (congrArg some Zz)
 f48:=Tryz.func210.trans (congrArg some Zz)
 f49:=⟨Tryz.f211.name,ZM,Tryz.func211.trans (congrArg some Zz)⟩
 f50:=⟨Tryz.f212.name,ZM,Tryz.func212.trans (congrArg some Zz)⟩
 f57:=⟨Tryz.f248.name,ZM,Tryz.func248.trans (congrArg some Zz)⟩
 t0:=Tryz.underlying0
 a0:=Tryz.isAgg0
 z0:=Tryz.sizeOf0
 v0:=Tryz.zeroValue0
 t3:=Tryz.underlying3
 a3:=Tryz.isAgg3
 z3:=Tryz.sizeOf3
 v3:=Tryz.zeroValue3
 t4:=Tryz.underlying4
 a4:=Tryz.isAgg4
 z4:=Tryz.sizeOf4
 v4:=Tryz.zeroValue4
 t5:=Tryz.underlying5
 a5:=Tryz.isAgg5
 z5:=Tryz.sizeOf5
 v5:=Tryz.zeroValue5
 t9:=Tryz.underlying9
 a9:=Tryz.isAgg9
 z9:=Tryz.sizeOf9
 v9:=Tryz.zeroValue9
 t22:=Tryz.underlying69
 a22:=Tryz.isAgg69
 z22:=Tryz.sizeOf69
 v22:=Tryz.zeroValue69
 a24:=Tryz.isAgg57
 z24:=Tryz.sizeOf57
 t25:=Tryz.underlying145
 a25:=Tryz.isAgg145
 z25:=Tryz.sizeOf145
 v25:=Tryz.zeroValue145
 t39:=Tryz.underlying84
 a39:=Tryz.isAgg84
 z39:=Tryz.sizeOf84
 v39:=Tryz.zeroValue84
 t45:=Tryz.underlying254
 a45:=Tryz.isAgg254
 z45:=Tryz.sizeOf254
 v45:=Tryz.zeroValue254
 t46:=Tryz.underlying255
 a46:=Tryz.isAgg255
 z46:=Tryz.sizeOf255
 v46:=Tryz.zeroValue255
 t50:=Tryz.underlying134
 a50:=Tryz.isAgg134
 z50:=Tryz.sizeOf134
 v50:=Tryz.zeroValue134
 t53:=Tryz.underlying261
 a53:=Tryz.isAgg261
 z53:=Tryz.sizeOf261
 v53:=Tryz.zeroValue261
 t55:=Tryz.underlying263
 a55:=Tryz.isAgg263
 z55:=Tryz.sizeOf263
 v55:=Tryz.zeroValue263
 t66:=Tryz.underlying315
 a66:=Tryz.isAgg315
 z66:=Tryz.sizeOf315
 v66:=Tryz.zeroValue315
 t70:=Tryz.underlying319
 a70:=Tryz.isAgg319
 z70:=Tryz.sizeOf319
 v70:=Tryz.zeroValue319
 t76:=Tryz.underlying345
 a76:=Tryz.isAgg345
 z76:=Tryz.sizeOf345
 v76:=Tryz.zeroValue345
 t77:=Tryz.underlying346
 a77:=Tryz.isAgg346
 z77:=Tryz.sizeOf346
 v77:=Tryz.zeroValue346}
end Go.Proofs.YtlhedpgobaellaaGreatDoor
namespace Go.Proofs.YtlhedpgobaellaaGreatDoor
open Go.RowKit Go.Shelf Go.Lib Go.Sort
theorem GZ:∃i,Tryz.prog.info? 57=some i∧i.size=1∧i.bytes=24∧i.zero=some (.slice none 0 0):=by
 have h1:(Tryz.prog.info? 57).map (·.size)=some 1:=Zz;have h2:(Tryz.prog.info? 57).bind (·.zero)=some (.slice none 0 0):=Zz;have h3:(Tryz.prog.info? 57).map (·.bytes)=some 24:=Zz;obtain⟨i,hi,h4⟩:=QC.1 h1;rw[hi] at h2 h3;exact⟨i,hi,h4,by simpa using h3,h2⟩
theorem FB{P:Program}{K:Ker}{h:Hp}{k:Sh}(hr:Rel K h){n o m:Nat}{T:TypeId}{es ys:List V}(hn:h n=some (.arr k es))(ho:o≤es.length)(hcov:es.length≤o+ys.length)(hm:K.w.shape? (K.mu n)=some (T,m))(hroom:(o+ys.length)*k.size≤m){cs:List Value}(c:oE K k ys cs):
 ∃K',(storeCells ⟨K.mu n,o*k.size,none⟩ cs 0).run P K.w= .ok () K'.w∧K.le K'∧K'.live=K.live∧K'.mu=K.mu∧(∀b,K'.w.shape? b=K.w.shape? b)∧Rel K' (h.set n (.arr k (es.take o++ys))):=by
 have hone:=c.one;obtain⟨hcl,hfy,hv⟩:=c;cases hr.blk n _ hn with
 |arr _ _ c T' hh hcs himm hfit hvs=>
  have hmc:m=c.size:=by simp[QE,hh] at hm;exact hm.2.symm
  subst hmc;rw[Qf] at hroom;have hst:=run_storeCells_at P (K.mu n) (o*k.size) T' cs 0 c K.w hh (by rw[hcl];omega) hone;simp only[KW,hcl] at hst;generalize hc':(c.toList.take (o*k.size)++cs++c.toList.drop (o*k.size+ys.length*k.size)).toArray=c' at hst;have hcsz:c'.size=c.size:=by rw[←hc'];simp only[Qu,KM,QW,QX,Ql,hcl];omega
  have hle1:=K.le_row (K.mu n) c' c T' hh hcsz (hr.base n _ hn) (fun o ho=>by rw[himm] at ho;omega);have hlen:(es.take o++ys).length=o+ys.length:=by simp;omega
  refine⟨K.row (K.mu n) c',hst,hle1,rfl,rfl,fun b=>pT K.w _ c' c T' (0,0) hh hcsz b,?_⟩;refine hr.row hn c' c T' hh hcsz (fun o ho=>by rw[himm] at ho;omega) (.arr k _ c' T' ?_ (by rw[hlen,hcsz,Qf];exact hroom) himm ?_ ?_)
  ·show(K.w.setRow (K.mu n) c').heap[K.mu n]?=_;exact setRow_heap K.w (K.mu n) c c' T' (0,0) hh
  ·intro x hx;rcases Kz.1 hx with hx|hx
   ·exact hfit x (KP hx)
   exact hfy x hx
  intro q hq j hj;rw[hlen] at hq;have htk:(c.toList.take (o*k.size)).length=o*k.size:=by simp;omega
  have htk2:(es.take o).length=o:=by simp;omega
  have hget:c'[q*k.size+j]?=if q<o then c[q*k.size+j]? else cs[(q-o)*k.size+j]?:=by
   rw[←hc'];simp only[Qg,Ku];by_cases e1:q<o
   ·have h1:=cL hj e1;rw[if_pos e1,Kk (by rw[htk];exact h1),KV,if_pos h1,Array.getElem?_toList]
   have h2:=cL (k:=k.size) (i:=q-o) (n:=ys.length) hj or;have h3:o*k.size≤q*k.size:=KH _ or;have hsub:q*k.size-o*k.size=(q-o)*k.size:=(Wn _ _ _).symm;have e4:q*k.size+j-o*k.size=(q-o)*k.size+j:=or;rw[if_neg e1,Kq (by rw[htk];omega),htk,e4,Kk (by rw[hcl];exact h2)]
  rw[Kj,hget];by_cases e1:q<o
  ·rw[if_pos e1,Ke,Kk or,KV,if_pos e1,←Ke,←Kj];exact(hvs q or j hj).mono hle1
  rw[if_neg e1,Ke,Kq or,htk2,←Ke,←Ke];exact(hv _ or j hj).mono hle1
set_option maxRecDepth 1000000 in
theorem Gy(b n cap i:Nat)(va:Addr)(vc:Nat)(hi:i<n)(hcap:n+1≤cap)(hn63:n≤1000000)(w w1 w2:World)
 (hov:∀lb cb,(callFunc 114 #[.slice (some va) 1 vc, .slice (some ⟨b,i+1,none⟩) lb cb]).run Tryz.prog w= .ok (.value (.bool false)) w)
 (hcp1:∀ty dc sc,(KJ #[69,69] ty #[.slice (some ⟨b,i+1,none⟩) (n+1-(i+1)) dc, .slice (some ⟨b,i,none⟩) (n+1-i) sc]).run Tryz.prog w.drew= .ok (goInt ((n-i:Nat):Int)) w1)
 (hcp2:∀ty dc,(KJ #[69,69] ty #[.slice (some ⟨b,i,none⟩) (n+1-i) dc, .slice (some va) 1 vc]).run Tryz.prog w1= .ok (goInt 1) w2):
 Calls Tryz.prog 65 #[.slice (some ⟨b,0,none⟩) n cap, .int .i64 i, .slice (some va) 1 vc] w fun e w'=>e= .returned (.slice (some ⟨b,0,none⟩) (n+1) cap)∧w'=w2:=by
 have mixed:Tryz.prog.follows .mixedOrders=true:=Zz;have hne:¬(i:Int)=(n:Int):=or;have hw1:IntKind.i64.wrap ((n:Int)+1)=(n:Int)+1:=by rw[KK];omega
 have hw2:IntKind.i64.wrap ((i:Int)+1)=(i:Int)+1:=by rw[KK];omega
 have hb1:(0:Int)≤(i:Int)+1:=or;have hb2:(0:Int)≤(n:Int)+1:=or;have hin:i≤n:=or;have ht1:((i:Int)+1).toNat=i+1:=or;have ht2:((n:Int)+1).toNat=n+1:=or;have hc1:¬(cap=i+1):=or;have hc2:¬(cap=i):=or;have hc3:(i:Int)+1≤(n:Int)+1:=or;have hc4:(i:Int)≤(n:Int)+1:=or;have hc5:(n:Int)+1≤(cap:Int):=or;have hc6:¬((cap:Int)<(n:Int)+1):=or;clear hi hcap
 go_enter Tryz.func65,Tryz.ntmps65
 go_wp2_with (simp only[hov])
 go_region_law_o (refine pQ .copy rfl #[.tmp 73, .tmp 76] _ rfl _ (fun _=>rfl) (by simpa [Act.eval,Act.put] using hcp1 _ _ _) ?_)
 go_wp2_with (at_builtin;refine eW .copy rfl #[.tmp 80, .tmp 81] _ rfl _ (fun _=>rfl) (by simpa [Act.eval,Act.put] using hcp2 _ _) ?_)
 go_ret
 exact⟨rfl,rfl⟩
set_option maxRecDepth 1000000 in
theorem Gz(b n cap:Nat)(va:Addr)(vc:Nat)(hcap:n≤cap)(rv:Value)(w w1:World)
 (hap:(Ky #[69,69] 69 #[.slice (some ⟨b,0,none⟩) n cap, .slice (some va) 1 vc]).run Tryz.prog w= .ok rv w1):
 Calls Tryz.prog 65 #[.slice (some ⟨b,0,none⟩) n cap, .int .i64 n, .slice (some va) 1 vc] w fun e w'=>e= .returned rv∧w'=w1:=by
 by_cases hc2:cap=n
 ·subst hc2;clear hcap
  go_enter Tryz.func65,Tryz.ntmps65
  go_wp2_with (at_builtin;refine eW .append rfl #[.tmp 23, .tmp 24] _ rfl _ (fun _=>rfl) (by simpa [Act.eval,Act.put] using hap) ?_)
  go_ret
  exact⟨rfl,rfl⟩
 go_enter Tryz.func65,Tryz.ntmps65
 go_wp2_with (at_builtin;refine eW .append rfl #[.tmp 23, .tmp 24] _ rfl _ (fun _=>rfl) (by simpa [Act.eval,Act.put] using hap) ?_)
 go_ret
 exact⟨rfl,rfl⟩
set_option maxRecDepth 1000000 in
theorem Gx(va:Addr)(vc:Nat)(rv:Value)(w w1:World)
 (hap:(Ky #[69,69] 69 #[.slice none 0 0, .slice (some va) 1 vc]).run Tryz.prog w= .ok rv w1):
 Calls Tryz.prog 65 #[.slice none 0 0, .int .i64 0, .slice (some va) 1 vc] w fun e w'=>e= .returned rv∧w'=w1:=by
 go_enter Tryz.func65,Tryz.ntmps65
 go_wp2_with (at_builtin;refine eW .append rfl #[.tmp 23, .tmp 24] _ rfl _ (fun _=>rfl) (by simpa [Act.eval,Act.put] using hap) ?_)
 go_ret
 exact⟨rfl,rfl⟩
set_option maxRecDepth 1000000 in
theorem E7(b n i:Nat)(va:Addr)(vc q cp:Nat)(hi:i<n)(hn63:n≤1000000)(hcp:n+1≤cp)(w w1 w2 w3:World)
 (hap:∀(ty:TypeId),(Ky #[69,3] ty #[.slice (some ⟨b,0,none⟩) i n, .int .i64 ((n:Int)+1-(i:Int))]).run Tryz.prog w= .ok (.slice (some ⟨q,0,none⟩) (n+1) cp) w1)
 (hcp1:∀ty dc,(KJ #[69,69] ty #[.slice (some ⟨q,i,none⟩) (n+1-i) dc, .slice (some va) 1 vc]).run Tryz.prog w1= .ok (goInt 1) w2)
 (hcp2:∀ty dc sc,(KJ #[69,69] ty #[.slice (some ⟨q,i+1,none⟩) (n+1-(i+1)) dc, .slice (some ⟨b,i,none⟩) (n-i) sc]).run Tryz.prog w2.drew= .ok (goInt ((n-i:Nat):Int)) w3):
 Calls Tryz.prog 65 #[.slice (some ⟨b,0,none⟩) n n, .int .i64 i, .slice (some va) 1 vc] w fun e w'=>e= .returned (.slice (some ⟨q,0,none⟩) (n+1) cp)∧w'=w3:=by
 have mixed:Tryz.prog.follows .mixedOrders=true:=Zz;have hne:¬(i:Int)=(n:Int):=or;have hw1:IntKind.i64.wrap ((n:Int)+1)=(n:Int)+1:=by rw[KK];omega
 have hw2:IntKind.i64.wrap ((i:Int)+1)=(i:Int)+1:=by rw[KK];omega
 have hw3:IntKind.i64.wrap ((n:Int)+1-(i:Int))=(n:Int)+1-(i:Int):=by rw[KK];omega
 have hb1:(0:Int)≤(i:Int)+1:=or;have hb2:(0:Int)≤(n:Int)+1:=or;have hin:i≤n:=or;have ht1:((i:Int)+1).toNat=i+1:=or;have ht2:((n:Int)+1).toNat=n+1:=or;have hc1:¬(cp=i+1):=or;have hc2:¬(cp=i):=or;have hc7:¬(n=i):=or;have hc3:(i:Int)+1≤(n:Int)+1:=or;have hc4:(i:Int)≤(n:Int)+1:=or;have hc5:(n:Int)<(n:Int)+1:=or;have hc8:i+1≤n+1:=or;have hc9:i≤n+1:=or;clear hi hcp
 go_enter Tryz.func65,Tryz.ntmps65
 go_wp2_with (at_builtin;first|refine eW .append rfl #[.tmp 34, .tmp 39] _ rfl _ (fun _=>rfl) (by simpa [Act.eval,Act.put,hw3] using hap _) ?_|refine eW .copy rfl #[.tmp 43, .tmp 44] _ rfl _ (fun _=>rfl) (by simpa [Act.eval,Act.put] using hcp1 _ _) ?_)
 go_region_law_o (refine pQ .copy rfl #[.tmp 50, .tmp 53] _ rfl _ (fun _=>rfl) (by simpa [Act.eval,Act.put] using hcp2 _ _ _) ?_)
 go_wp2
 go_ret
 exact⟨rfl,rfl⟩
theorem dm(h:Hp)(n:Nat)(a b:Blk):(h.set n a).set n b=h.set n b:=by
 funext x;unfold Ka;split<;>rfl
theorem zI{K:Ker}{a b c:V}{cargs:Array Value}(hv:VRs K [a,b,c] cargs):∃x y z,cargs=#[x,y,z]∧VR K a x∧VR K b y∧VR K c z:=by
 obtain⟨hsz,hv⟩:=hv;have hsz:cargs.size=3:=by simpa using hsz.symm
 have h0:=hv 0 Zm;have h1:=hv 1 Zm;have h2:=hv 2 Zm;refine⟨_,_,_,?_,h0,h1,h2⟩;apply Wg
 ·simp[hsz]
 intro i hi _;have:i=0∨i=1∨i=2:=or;rcases this with rfl|rfl|rfl<;>simp[Wp,hsz]
def zT:V:= .sl (.agg 3) .nil []
theorem wc(m:Nat)(x:V)(h:Hp)(nx:Nat)(hm:h m=some (.arr .leaf [x])):
 aR Tryz.prog 65 [.sl .leaf .nil [], .int .i64 0, .rs m .leaf 0 1] h nx fun v h' _=>v= .rs nx .leaf 0 1∧h'=h.set nx (.arr .leaf [x]):=by
 refine⟨Zz,fun K cargs hlv hr hv=>?_⟩;obtain⟨c1,c2,c3,rfl,v1,v2,v3⟩:=zI hv;obtain⟨i0,hi0,hs0,hb0,hz0⟩:=GZ;have ha:¬K.live nx:=fun e=>Wh _ (hlv nx e);have hy:=pU hr v3 (k:= .leaf) (es:=[x]) (by simp[dQ,hm]);obtain⟨cv,K',q1,q2,q3,q4,q5⟩:=gB (P:=Tryz.prog) (k:= .leaf) (ty:=69) (xs:=[]) hr ha Tryz.underlying69 hi0 hz0 hs0 rfl ZM v1 hy Zm (.inl ⟨rfl,rfl⟩) (by rw[hb0];simp) Zm;cases v2;cases v1 with
 |sl _ _ _ b off cap f' hb' hfit' hcell hst hv hcap hnil hfull htok=>exact absurd rfl hnil
 |slnil=>
 cases v3 with
 |rs _ _ _ _ vc hl2 hvcap hsm=>
 refine(Gx _ vc cv K.w K'.w q1).mono ?_;rintro e w' ⟨rfl,rfl⟩;exact⟨K',_,cv,_,nx+1,rfl,rfl,q2,q4,q5,fun q hq=>(q3 q hq).elim (fun e=>⟨Qw (hlv q e), .inl e⟩) (fun e=>e▸⟨Qz _, .inr (Kp _)⟩),QZ _,rfl,rfl⟩
theorem Fz(es:List V)(x:V)(i:Nat)(hi:i<es.length):oM (es.take (i+1)++es.drop i) i [x]=es.take i++x::es.drop i:=by
 unfold oM;have h1:(es.take (i+1)).length=i+1:=by simp;omega
 rw[QG,KA or,Wd,Nat.min_eq_left or,List.drop_left' h1,Ku];rfl
theorem Fy(es:List V)(x z:V)(i:Nat)(hi:i<es.length):oM (oM (es.take i++Ki (es.length+1-i) z) i [x]) (i+1) (es.drop i)=es.take i++x::es.drop i:=by
 have h1:(es.take i).length=i:=by simp;omega
 have e1:oM (es.take i++Ki (es.length+1-i) z) i [x]=es.take i++x::Ki (es.length-i) z:=by
  unfold oM;rw[QG,QD h1,Wa,h1,Ko or,KR,List.drop_replicate,Ku,show es.length+1-i-(i+1-i)=es.length-i by omega];rfl
 rw[e1];unfold oM;have h2:(es.take i++[x]).length=i+1:=by simp;omega
 have h3:((es.take i++[x])++Ki (es.length-i) z).drop (i+1+(es.drop i).length)=[]:=Ko (by simp;omega);rw[show es.take i++x::Ki (es.length-i) z=(es.take i++[x])++Ki (es.length-i) z by simp,QD h2,h3,Qh,Ku];rfl
set_option maxRecDepth 100000 in
theorem wb(n m i:Nat)(es:List V)(x:V)(h:Hp)(nx:Nat)(hn:h n=some (.arr .leaf es))(hm:h m=some (.arr .leaf [x]))(hnm:m≠n)(hi:i≤es.length)(hl:es.length≤1000000):
 aR Tryz.prog 65 [.rs n .leaf 0 es.length, .int .i64 i, .rs m .leaf 0 1] h nx fun v h' _=>∃id,v= .rs id .leaf 0 (es.length+1)∧(id=n∨id=nx)∧h' id=some (.arr .leaf (es.take i++x::es.drop i))∧∀k,k≠id→k≠n→h' k=h k:=by
 refine⟨Zz,fun K cargs hlv hr hv=>?_⟩;obtain⟨c1,c2,c3,rfl,v1,v2,v3⟩:=zI hv;obtain⟨i0,hi0,hs0,hb0,hz0⟩:=GZ;have ha:¬K.live nx:=fun e=>Wh _ (hlv nx e);have hnn:n≠nx:=fun e=>ha (e▸hr.lt n _ hn);have hmn:m≠nx:=fun e=>ha (e▸hr.lt m _ hm);have hy:=pU hr v3 (k:= .leaf) (es:=[x]) (by simp[dQ,hm]);have v1':=v1;have hbn:=hr.blk n _ hn;have hbm:=hr.blk m _ hm;have hne:K.mu m≠K.mu n:=fun e=>hnm (hr.inj m n _ _ hm hn e);cases v2;cases v1 with
 |rs _ _ _ _ cap hl1 hcap hsn=>
 cases v3 with
 |rs _ _ _ _ vc hl2 hvcap hsm=>
 have hsn':=hsn;obtain⟨T,M,hsh,hmm⟩:=hsn;obtain⟨T2,M2,hsh2,hmm2⟩:=hsm;simp only[Kc,KB,KF,KL] at hmm v1';rcases Kt i es.length with hlt|hge
 ·have hfr:∀o,K.w.frozen? ⟨K.mu m,o,none⟩=false:=fun o=>by
   cases hbm with
   |arr _ _ c T' hh _ _ _ _=>simp only[Wc,hh];simp
  have hdl:((es.drop i).take (es.length-i))=es.drop i:=Qb Zm;by_cases hroom:es.length+1≤cap
  ·obtain⟨cs,hc,hcl,hcr⟩:=mL hr.drew hn (o:=i) (m:=es.length-i) or;rw[hdl] at hc;obtain⟨K1,q1,q2,q3,q4,q5,q6⟩:=FB (P:=Tryz.prog) (K:=K.drew) hr.drew hn (o:=i+1) (ys:=es.drop i) (T:=T) (m:=M) or (by simp;omega) hsh (by simp[Kc];omega) hc;have hn1:(h.set n (.arr .leaf (es.take (i+1)++es.drop i))) n=some (.arr .leaf (es.take (i+1)++es.drop i)):=by simp[Ka]
   have hm1:(h.set n (.arr .leaf (es.take (i+1)++es.drop i))) m=some (.arr .leaf [x]):=by simp only[Ka];rw[if_neg hnm];exact hm
   have hK1:K.le K1:=K.le_drew.trans q2;obtain⟨ds,hd,hdl2,hdr⟩:=mL q6 hm1 (o:=0) (m:=1) Zm;simp only[Qp,Qk,QI] at hd;obtain⟨K2,p1,p2,p3,p4,p5,p6⟩:=nZ (P:=Tryz.prog) q6 hn1 (o:=i) (ys:=[x]) (by simp;omega) hd;have hmuN:K1.mu n=K.mu n:=hK1.mu n hl1;have hmuM:K1.mu m=K.mu m:=hK1.mu m hl2;have hK2:=hK1.trans p2;simp only[Kc,KF,KB,KL] at hcr hdr q1 p1;rw[dm,Fz es x i hlt] at p6;refine(Gy (K.mu n) es.length cap i ⟨K.mu m,0*Sh.leaf.size,none⟩ vc hlt hroom hl K.w K1.w K2.w (fun lb cb=>?_) (fun ty dc sc=>?_) (fun ty dc=>?_)).mono ?_
   ·rw[run_callFunc_extern Tryz.func114 Zz Zz Zz (e:=Extern.SlicesOverlaps.overlaps #[69,69] #[4]) Zz,
     Lib.run_overlaps_apart K.w 69 4 57 Tryz.underlying69 1 Tryz.sizeOf57 _ _ 1 vc lb cb hne T2 T M2 M hsh2 hsh or (hfr _) (hfr _)]
    rfl
   ·refine pW (P:=Tryz.prog) K.w.drew _ _ ty _ i0 (K.mu n) (i+1) _ dc ⟨K.mu n,i,none⟩ _ sc (es.length-i) cs Tryz.underlying69 hi0 ?_ (by rw[hcl,hs0];rfl) (fun j u hj=>by rw[Addr.add_lit];exact hcr j u hj) q1;simp only[QH];split<;>omega
   ·refine pW (P:=Tryz.prog) K1.w _ _ ty _ i0 (K.mu n) i _ dc _ _ vc 1 ds Tryz.underlying69 hi0 (by simp only[QH];split<;>omega) (by rw[hdl2,hs0];rfl) (fun j u hj=>by rw[Addr.add_lit];rw[hmuM] at hdr;simpa [Kc] using hdr j u hj) (by rw[←hmuN];exact p1)
   rintro e w' ⟨rfl,rfl⟩;have vr:VR K (.rs n .leaf 0 (es.length+1)) (.slice (some ⟨K.mu n,0,none⟩) (es.length+1) cap):=by
    have:=VR.rs (K:=K) n .leaf 0 (es.length+1) cap hl1 hroom ⟨T,M,hsh,by simp[Kc];omega⟩;rwa [KL] at this
   refine⟨K2,_,_,_,nx,rfl,rfl,hK2,vr.mono hK2,p6,fun q hq=>?_,Kp _,n,rfl, .inl rfl,by simp[Ka],fun k h1 _=>by simp only[Ka];rw[if_neg h1]⟩;rw[p3,q3] at hq;exact⟨hlv q hq, .inl hq⟩
  have hce:cap=es.length:=or;subst hce;obtain⟨os,ho,hol,hor⟩:=mL hr.drew hn (o:=0) (m:=i) or;simp only[Kc,KF,KB,KL,Qp] at ho hol hor;have hlen:i+(es.length+1-i)=es.length+1:=or;have hold:(Builtin.firstCells i0.size i (.slice (some ⟨K.mu n,0,none⟩) i es.length)).run Tryz.prog K.w.drew= .ok os.toArray K.w.drew:=run_firstCells_some _ _ _ _ _ _ os (by rw[hol,hs0,KF]) (fun j v hj=>by rw[Addr.add_lit,KB];exact hor j v hj);have hap:∀ty,_:=fun ty=>Lib.run_append_grow_zeros (P:=Tryz.prog) K.w 69 3 ty _ i0 _ .i64 .i64 Tryz.underlying69 Tryz.underlying3 hi0 hz0 (some ⟨K.mu n,0,none⟩) i es.length os hold (es.length+1-i) or or or or (by rw[hb0];omega) (by rw[hb0,hlen];exact growslice_fits or or);rw[hlen,show((es.length+1-i:Nat):Int)=(es.length:Int)+1-(i:Int) by omega] at hap;obtain⟨G,hG⟩:∃G,grownCap K.w (es.length+1) es.length 57=G:=⟨_,rfl⟩;have hGe:es.length+1≤G:=hG▸grownCap_ge _ _ _ _;rw[hG] at hap;obtain⟨C,hC⟩:∃C,os.toArray++KQ (Value.slice none 0 0).cells (es.length+1-i)++KQ (Value.slice none 0 0).cells (G-(es.length+1))=C:=⟨_,rfl⟩;have hCs:C.size=G:=by rw[←hC];simp only[QT,Qu,size_zeroCells,hol];simp[Value.cells];omega
  have hCv:∀q,q<(es.take i++Ki (es.length+1-i) zT).length→∀j,j<Sh.leaf.size→VR K.drew (((es.take i++Ki (es.length+1-i) zT).getD q Kb).cell j) (C.getD (q*Sh.leaf.size+j) KI):=by
   intro q hq j hj;have hj0:j=0:=by simp[Kc] at hj;exact hj
   subst hj0;simp only[Kc,KF,KW];have htk:(es.take i).length=i:=by simp;omega
   rw[Kj,←hC,Array.append_assoc];by_cases h1:q<i
   ·have h2:=ho.2.2 q or 0 ZM;rw[Ke,Kk or,←Ke,KE (by simp[hol];exact h1),Qg,←Ke];simpa [Kc] using h2
   have hq':q<es.length+1:=by simp at hq;omega
   rw[Ke,Kq or,List.getElem?_replicate,if_pos or,Array.getElem?_append_right (by simp[hol];omega),KE (by rw[size_zeroCells];simp[Value.cells,hol];omega)];have:(KQ (Value.slice none 0 0).cells (es.length+1-i))[q-os.toArray.size]?=some (Value.slice none 0 0):=by
    unfold KQ;rw[Array.getElem?_map,Array.getElem?_range,if_pos (by simp[Value.cells,hol];omega)];simp[Value.cells,Wm]
   rw[this];exact .slnil _
  obtain⟨K1,q1,q2,q3,q4,q5⟩:=eO (K:=K.drew) (h:=h) hr.drew (a:=nx) ha (k:= .leaf) (es:=es.take i++Ki (es.length+1-i) zT) (fun e he=>by
   rcases Kz.1 he with he|he
   ·cases hbn with
    |arr _ _ c T' hh _ _ hfit _=>exact hfit e (KP he)
   rw[List.eq_of_mem_replicate he];rfl) C 57 G (by simp;omega) (by rw[hCs];simp[Kc]) hCv
  have hlenE:(es.take i++Ki (es.length+1-i) zT).length=es.length+1:=by simp;omega
  have hN:(h.set nx (.arr .leaf (es.take i++Ki (es.length+1-i) zT))) nx=some (.arr .leaf (es.take i++Ki (es.length+1-i) zT)):=by simp[Ka]
  have hM:(h.set nx (.arr .leaf (es.take i++Ki (es.length+1-i) zT))) m=some (.arr .leaf [x]):=by simp only[Ka];rw[if_neg hmn];exact hm
  have hK1:K.le K1:=K.le_drew.trans q2;obtain⟨ds,hd,hdl2,hdr⟩:=mL q5 hM (o:=0) (m:=1) Zm;simp only[Qp,Qk,QI] at hd;obtain⟨K2,p1,p2,p3,p4,p5,p6⟩:=nZ (P:=Tryz.prog) q5 hN (o:=i) (ys:=[x]) (by rw[hlenE];simp;omega) hd;rw[dm] at p6;have hbl:=ja (es:=es.take i++Ki (es.length+1-i) zT) (o:=i) (ys:=[x]) (by rw[hlenE];simp;omega);have hN2:(h.set nx (.arr .leaf (oM (es.take i++Ki (es.length+1-i) zT) i [x]))) nx=some (.arr .leaf (oM (es.take i++Ki (es.length+1-i) zT) i [x])):=by simp[Ka]
  have hn2:(h.set nx (.arr .leaf (oM (es.take i++Ki (es.length+1-i) zT) i [x]))) n=some (.arr .leaf es):=by simp only[Ka];rw[if_neg hnn];exact hn
  obtain⟨cs,hc,hcl,hcr⟩:=mL p6.drew hn2 (o:=i) (m:=es.length-i) or;rw[hdl] at hc;obtain⟨K3,r1,r2,r3,r4,r5,r6⟩:=nZ (P:=Tryz.prog) (K:=K2.drew) p6.drew hN2 (o:=i+1) (ys:=es.drop i) (by rw[hbl,hlenE];simp;omega) hc;rw[dm,Fy es x zT i hlt] at r6;have hK2:=hK1.trans p2;have hK3:=hK2.trans (K2.le_drew.trans r2);have hmuN:K2.mu n=K.mu n:=hK2.mu n hl1;have hmuM:K1.mu m=K.mu m:=hK1.mu m hl2;have hmuA:K1.mu nx=K.w.heap.size:=by
   have q4':=q4;generalize hcv:Value.slice _ _ _=cv at q4';cases q4' with
   |rs=>injection hcv with e _ _;injection e with e;injection e with e;exact e.symm
  have hmuA2:K2.mu nx=K.w.heap.size:=by rw[p4];exact hmuA
  simp only[Kc,KF,KB,KL] at hcr hdr r1 p1;refine(E7 (K.mu n) es.length i ⟨K.mu m,0*Sh.leaf.size,none⟩ vc K.w.heap.size G hlt hl hGe K.w K1.w K2.w K3.w (fun ty=>?_) (fun ty dc=>?_) (fun ty dc sc=>?_)).mono ?_
  ·rw[q1,hap ty,←hC];rfl
  ·refine pW (P:=Tryz.prog) K1.w _ _ ty _ i0 K.w.heap.size i _ dc _ _ vc 1 ds Tryz.underlying69 hi0 (by simp only[QH];split<;>omega) (by rw[hdl2,hs0];rfl) (fun j u hj=>by rw[Addr.add_lit];rw[hmuM] at hdr;simpa [Kc] using hdr j u hj) (by rw[←hmuA];exact p1)
  ·refine pW (P:=Tryz.prog) K2.w.drew _ _ ty _ i0 K.w.heap.size (i+1) _ dc ⟨K.mu n,i,none⟩ _ sc (es.length-i) cs Tryz.underlying69 hi0 ?_ (by rw[hcl,hs0];rfl) (fun j u hj=>by rw[Addr.add_lit,←hmuN];exact hcr j u hj) (by rw[←hmuA2];exact r1);simp only[QH];split<;>omega
  rintro e w' ⟨rfl,rfl⟩;have vr:VR K3 (.rs nx .leaf 0 (es.length+1)) (.slice (some ⟨K.w.heap.size,0,none⟩) (es.length+1) G):=by
   have:=q4;rw[hlenE] at this;exact(this.mono p2).mono (K2.le_drew.trans r2)
  refine⟨K3,_,_,_,nx+1,rfl,rfl,hK3,vr,r6,fun q hq=>?_,QZ _,nx,rfl, .inr rfl,by simp[Ka],fun k h1 _=>by simp only[Ka];rw[if_neg h1]⟩;rw[r3] at hq;have hq:K2.live q:=hq;rw[p3] at hq;rcases q3 q hq with e|rfl
  ·exact⟨Qw (hlv q e), .inl e⟩
  exact⟨Qz _, .inr (Kp _)⟩
 have hie:i=es.length:=or;subst hie;obtain⟨cv,K',q1,q2,q3,q4,q5⟩:=gB (P:=Tryz.prog) (k:= .leaf) (ty:=69) (xs:=es) hr ha Tryz.underlying69 hi0 hz0 hs0 rfl ZM v1' hy Zm (.inr ⟨n,rfl,hn⟩) (by rw[hb0];simp;omega) (by simp;omega);refine(Gz (K.mu n) es.length cap ⟨K.mu m,0*Sh.leaf.size,none⟩ vc hcap cv K.w K'.w q1).mono ?_;rintro e w' ⟨rfl,rfl⟩;refine⟨K',_,cv,_,nx+1,rfl,rfl,q2,q4,q5,fun q hq=>(q3 q hq).elim (fun e=>⟨Qw (hlv q e), .inl e⟩) (fun e=>e▸⟨Qz _, .inr (Kp _)⟩),QZ _,nx,rfl, .inr rfl,?_,fun k h1 h2=>?_⟩
 ·simp[Ka]
 simp only[Ka,Hp.del];rw[if_neg h1,if_neg h2]
theorem H4:∃i,Tryz.prog.info? 3=some i∧i.size=1∧i.zero=some (.int .i64 0):=by
 have h1:(Tryz.prog.info? 3).map (·.size)=some 1:=Zz;have h2:(Tryz.prog.info? 3).bind (·.zero)=some (.int .i64 0):=Zz;obtain⟨i,hi,h3⟩:=QC.1 h1;rw[hi] at h2;exact⟨i,hi,h3,h2⟩
def zin:V:= .int .i64 0
theorem G7(K:Ker):VR K zin (.int .i64 0):= .int _ _
set_option maxRecDepth 1000000 in
theorem Dt(b L cap i j:Nat)(hij:j=i+1)(hj:j≤L)(hcap:L≤cap)(w w1 w2:World)
 (hap:∀(ty:TypeId) (A:Addr) (c:Nat),A=⟨b,j,none⟩∨L=j→(Ky #[81,81] ty #[.slice (some ⟨b,0,none⟩) i cap, .slice (some A) (L-j) c]).run Tryz.prog w.drew= .ok (.slice (some ⟨b,0,none⟩) (i+(L-j)) cap) w1)
 (hcl:∀ty,(Builtin.clear_ #[81] ty #[.slice (some ⟨b,i+(L-j),none⟩) (L-(i+(L-j))) (cap-(i+(L-j)))]).run Tryz.prog w1= .ok (.tuple #[]) w2):
 Calls Tryz.prog 189 #[.slice (some ⟨b,0,none⟩) L cap, .int .i64 i, .int .i64 j] w fun e w'=>e= .returned (.slice (some ⟨b,0,none⟩) (i+(L-j)) cap)∧w'=w2:=by
 have hne:¬(i:Int)=(j:Int):=or;have hic:i≤cap:=or;have hjc:j≤cap:=or;obtain⟨A,hA,hap⟩:∃A:Addr,(if cap=j then some (⟨b,0,none⟩:Addr) else some ⟨b,j,none⟩)=some A∧Hid (∀(ty:TypeId) (c:Nat),(Ky #[81,81] ty #[.slice (some ⟨b,0,none⟩) i cap, .slice (some A) (L-j) c]).run Tryz.prog w.drew= .ok (.slice (some ⟨b,0,none⟩) (i+(L-j)) cap) w1):=by
  by_cases h:cap=j
  ·exact⟨⟨b,0,none⟩,by simp[h],fun ty c=>hap ty _ c (.inr or)⟩
  exact⟨⟨b,j,none⟩,by simp[h],fun ty c=>hap ty _ c (.inl rfl)⟩
 have mixed:Tryz.prog.follows .mixedOrders=true:=Zz;have hle:i≤j:=or;have hlt:i<L:=or;have hLi:¬L=i:=or;have hci:¬cap=i:=or;have hcm:¬cap=i+(L-j):=or;have hml:i+(L-j)≤L:=or;clear hij
 go_enter Tryz.func189,Tryz.ntmps189
 go_wp2_with fail
 go_region_law_o (refine pQ .append rfl #[.tmp 22, .tmp 25] _ rfl _ (fun _=>rfl) (by simpa [Act.eval,Act.put] using hap.out _ _) ?_)
 go_wp2
 go_ret
 exact⟨rfl,rfl⟩
theorem D9(h:Hp)(n:Nat)(a b:Blk):(h.set n a).set n b=h.set n b:=by
 funext x;unfold Ka;split<;>rfl
theorem sr{K:Ker}{a b c:V}{cargs:Array Value}(hv:VRs K [a,b,c] cargs):∃x y z,cargs=#[x,y,z]∧VR K a x∧VR K b y∧VR K c z:=by
 obtain⟨hsz,hv⟩:=hv;have hsz:cargs.size=3:=by simpa using hsz.symm
 have h0:=hv 0 Zm;have h1:=hv 1 Zm;have h2:=hv 2 Zm;refine⟨_,_,_,?_,h0,h1,h2⟩;apply Wg
 ·simp[hsz]
 intro i hi _;have:i=0∨i=1∨i=2:=or;rcases this with rfl|rfl|rfl<;>simp[Wp,hsz]
set_option maxRecDepth 100000 in
theorem jx(n:Nat)(l zs:List V)(i:Nat)(h:Hp)(nx:Nat)(hn:h n=some (.arr .leaf (l++zs)))(hi:i<l.length):
 aR Tryz.prog 189 [.rs n .leaf 0 l.length, .int .i64 i, .int .i64 (i+1:Nat)] h nx fun v h' _=>v= .rs n .leaf 0 (l.length-1)∧h'=h.set n (.arr .leaf (l.take i++l.drop (i+1)++(zin::zs))):=by
 refine⟨Zz,fun K cargs hlv hr hv=>?_⟩;obtain⟨x,y,z,rfl,v1,v2,v3⟩:=sr hv;obtain⟨i0,hi0,hs0,hz0⟩:=H4;cases v2;cases v3;cases v1 with
 |rs _ _ _ _ cap hl hcap hm=>
  have hlt:=(hr.blk n _ hn).lt_size;obtain⟨cs,hc,hcl,hcr⟩:=mL hr.drew hn (o:=i+1) (m:=l.length-(i+1)) (by simp;omega);have hty:((l++zs).drop (i+1)).take (l.length-(i+1))=l.drop (i+1):=by rw[List.drop_append_of_le_length or,KA Zm,Qb Zm]
  rw[hty] at hc;have hyl:(l.drop (i+1)).length=l.length-(i+1):=Zm;have hbl:=ja (es:=l++zs) (o:=i) (ys:=l.drop (i+1)) (by simp;omega);obtain⟨K1,q1,q2,q3,q4,q5,q6⟩:=nZ (P:=Tryz.prog) hr.drew hn (o:=i) (ys:=l.drop (i+1)) (by simp;omega) hc;have hn1:(h.set n (.arr .leaf (oM (l++zs) i (l.drop (i+1))))) n=some (.arr .leaf (oM (l++zs) i (l.drop (i+1)))):=by simp[Ka]
  have hK1:K.le K1:=K.le_drew.trans q2;have hmu1:K1.mu n=K.mu n:=hK1.mu n hl;obtain⟨T,m,hsh,hmm⟩:=hm;have vr1:VR K1 (.rs n .leaf (l.length-1) 1) (.slice (some ⟨K1.mu n,l.length-1,none⟩) 1 (cap-(l.length-1))):=by
   have:=VR.rs (K:=K1) n .leaf (l.length-1) 1 (cap-(l.length-1)) (hK1.live n hl) or ⟨T,m,by rw[hmu1,hK1.shape _ hlt];exact hsh,by rw[←hmm];congr 1;omega⟩;rwa [show Sh.leaf.size=1 from rfl,KF] at this
  obtain⟨K2,c1,c2,c3,c4⟩:=xI (P:=Tryz.prog) q6 hn1 (off:=l.length-1) (ln:=1) (by rw[hbl];simp;omega) vr1 Tryz.underlying81 hi0 hz0 (G7 K1) rfl 0;have e1:i+(l.length-(i+1))=l.length-1:=or;have e2:l.length-(l.length-1)=1:=or;refine(Dt (K.mu n) l.length cap i (i+1) rfl or hcap K.w K1.w K2.w (fun ty A c hA=>?_) (fun ty=>?_)).mono ?_
  ·refine po (P:=Tryz.prog) K.w.drew _ _ ty _ _ i0 (K.mu n) 0 i cap A (l.length-(i+1)) c cs Tryz.underlying81 Tryz.underlying81 hi0 (by rw[hcl,hs0];rfl) or (fun j u hj=>?_) ?_
   ·rcases hA with rfl|hA
    ·rw[Addr.add_lit];have:=hcr j u hj;rwa [show Sh.leaf.size=1 from rfl,KF] at this
    have:cs=[]:=KX.1 (by rw[hcl,show l.length-(i+1)=0 by omega,KL]);rw[this] at hj;cases hj
   rw[hs0,KB];exact q1
  ·rw[e1,e2,←hmu1];exact c1
  rintro e w' ⟨rfl,rfl⟩;have hK2:=hK1.trans c2;have vr:VR K (.rs n .leaf 0 (l.length-1)) (.slice (some ⟨K.mu n,0,none⟩) (l.length-1) cap):=by
   have:=VR.rs (K:=K) n .leaf 0 (l.length-1) cap hl or ⟨T,m,hsh,hmm⟩;rwa [KL] at this
  refine⟨K2,_,_,_,nx,rfl,rfl,hK2,by rw[e1];exact vr.mono hK2,?_,fun m hm=>?_,Kp _,rfl,rfl⟩
  ·rw[D9] at c4;have e3:oM (l++zs) i (l.drop (i+1))=(l.take i++l.drop (i+1))++((l++zs).drop (l.length-1)):=by
    unfold oM;rw[KA or,hyl,e1]
   have e4:(l.take i++l.drop (i+1)).length=l.length-1:=by simp;omega
   have e5:(l++zs).drop (l.length-1+1)=zs:=by rw[show l.length-1+1=l.length by omega];simp
   have:(oM (l++zs) i (l.drop (i+1))).take (l.length-1)++Ki 1 zin++(oM (l++zs) i (l.drop (i+1))).drop (l.length-1+1)=l.take i++l.drop (i+1)++(zin::zs):=by
    have e6:(l.take i++l.drop (i+1)++(l++zs).drop (l.length-1)).drop (l.length-1+1)=zs:=by
     rw[Wa,Ko or,e4,show l.length-1+1-(l.length-1)=1 by omega,QK,e5,KR]
    rw[e3,QD e4,e6];simp[Ku]
   rw[this] at c4;exact c4
  have h1:=c3 m hm;rw[q3] at h1;exact⟨hlv m h1, .inl h1⟩
end Go.Proofs.YtlhedpgobaellaaGreatDoor
