/-
Texts of this proof,one behind the other. No conditions.
-/
import Derived.Test.YtlhedpgobaellaaGreatDoorKf
import Derived.Laws.IdiomCopy
import Derived.Shelf.SlSortCmp.Whole1
import Derived.Lib.Overlaps
import Derived.Lib.AppendZerosOnto
import Derived.Laws.Externs
open Go.Proofs.YtlhedpgobaellaaGreatDoor.Hp renaming set→Ka,le_refl→Kb,same→Kj,aAl→Ku,none→Kz
open Go.Proofs.YtlhedpgobaellaaGreatDoor.V renaming undef→Kc,fits→Kh,loose→Ko
open Go.Proofs.YtlhedpgobaellaaGreatDoor.Sh renaming size→Kd
open List renaming getD_eq_getElem?_getD→Ke,take_succ_eq_append_getElem→Kf,drop_eq_getElem_cons→Kg,replicate→Ki,getElem?_append_left→Km,drop_of_length_le→Kq,getElem?_append_right→Kt,take_of_length_le→Kv,append_assoc→Kw,getElem?_eq_getElem→Ky,getElem_mem→KB,mem_append→KE,take_append_of_le_length→KF,take_length→KI,mem_cons→KL,length_append→KR,mem_map→KT,mem_of_mem_take→KU,map_cons→KW,nil_append→KX,getElem?_take→Qa,length_eq_zero_iff→Qc,findIdx?_eq_some_iff_getElem→Qd,getElem?_map→Qe,take_append_drop→Qf,getElem?_toArray→Qh,append_nil→Qi,length_map→Qj,nodup_cons→Qk,take_succ_cons→Ql,replicate_succ→Qo,replicate_zero→Qp,drop_zero→Qq,getElem?_drop→Qr,mem_take_iff_getElem→Qt,findIdx?_eq_none_iff→Qu,size_toArray→Qv,length_cons→Qy,cons_append→Qz,length_nil→QB,take_left'→QE,length_singleton→QH,take_zero→QJ,drop_drop→QL,mem_of_mem_drop→QN,flatMap_append→QO,getElem?_range→QP,map_nil→QS,pairwise_map→QU,length→QY,length_take→QZ,length_drop→Wa,drop_length→Wb,drop_append→Wd,map_append→Wh,take_take→Wi,range→Wq
open Array renaming getD_eq_getD_getElem?→Kk,getElem?_append_left→KJ,length_toList→Qm,getElem?_eq_getElem→Qw,getElem?_eq_none→QC,getElem?_modify→QG,size_append→QW,ext→Wl,getD→Wr
open Nat renaming le_refl→Kp,lt_or_ge→Ks,zero_le→Kx,zero_add→KG,mul_one→KK,mul_le_mul_right→KM,zero_mul→KQ,add_zero→Qb,add_mul→Qg,lt_succ_of_lt→Qx,lt_succ_self→QA,min_def→QI,reduceAdd→QQ,reduceSub→QR,sub_zero→QT,le_succ→Wc,lt_irrefl→Wm,sub_self→Wn,mod_one→Wo,sub_mul→Wp
open Go.Builtin renaming append_→KC,copy_→KO,zeroCells→KV,lenOf→Wf
open Bool renaming not_false→KD,not_true→KH,false_eq_true→KZ,true_and→Wj
open Go renaming undef→KN
open Go.IntKind renaming wrap_i64→KP,wrap→KS
open Option renaming isSome_none→KY,map_eq_some_iff→QD,getD_some→QX
open Go.World renaming shape?→QF,cell?→QM,frozen?→Wg
open Int renaming toNat_zero→QK
open Nat renaming reduceAdd→jA,reduceSub→jB,reduceLT→jC,reduceLeDiff→jD,reduceEqDiff→jE
open Int renaming reduceToNat→jF,toNat_natCast→jG,natCast_add→jH,natCast_one→jI,natCast_zero→jJ
open List renaming length_map→jK,length_cons→jL,length_nil→jM,replicate_succ→jN,replicate_zero→jO,cons_append→jP,nil_append→jQ
set_option linter.all false
set_option maxHeartbeats 8000000
namespace Go.Proofs.YtlhedpgobaellaaGreatDoor
open Go.RowKit
attribute [local go_sem] Option.some.injEq Prod.mk.injEq false_and and_false Bool.true_eq_false GM EB Gh zu Dx if_true Wj Ey qR fe qC iW aA.ok aA.next LOp.ok LOp.next aY.ok aY.out aK.ev bH v8 oE mH xB Kc Kd pK xP gY aA.dok aA.aCt LOp.dok LOp.aEE uw u9 gQ gT Ql QJ List.take_nil List.drop_succ_cons Qq List.drop_nil List.set_cons_succ List.set_cons_zero List.getD_cons_succ List.getD_cons_zero jL jM KW QS List.all_cons List.all_nil KL List.not_mem_nil jN jO jP jQ Qi List.isEmpty_cons List.isEmpty_nil eR fT qY QX Option.isSome_some KY Nat.add_eq KG Qb true_and and_true and_self true_implies implies_true false_implies forall_const forall_eq forall_eq_or_imp ne_eq not_false_eq_true not_true_eq_false KH KD decide_true decide_false Bool.and_true Wj Bool.and_false Bool.false_and true_or or_true false_or or_false eq_self KZ Gs Dt iS aD cU dR gU wA rV vZ kN mU dI jG QK KI Hp.aAM Ku vT tG aA.plain LOp.aAY aA.aBw LOp.aBq s6 GH Ek Hk zd V.aDD V.aCV AA sf sg Az qA bU lW nQ pB beq_true beq_false j6 j7 j8 de df tV tW iM ul dm l8 l5 vH l6 l9 th ti vI l7 sH dj tj yJ lz yK qJ ww CQ CU CO mw gj vm gK qi qh qg qf qe af ae ji jh jg ai ah ag ql qk qj jl jk jj rW fq dZ zZ Hp.aA2 jV Option.isNone_some Option.isNone_none
namespace LB
abbrev aGf(k:Sh):List aA:=[
 ⟨some 4,none, .val (.move (.const (.sl k .nil [])))⟩]
abbrev aGe:List aA:=[
 ⟨some 5,none, .val (.move (.slot 1))⟩,
 ⟨some 6,none, .val (.bin .lss (.slot 5) (.const (.int .i64 0)))⟩]
abbrev aGd(ts:Nat):List aA:=[
 ⟨some 7,none, .val (.mkif ts (.const (.str ⟨#[99,97,110,110,111,116,32,98,101,32,110,101,103,97,116,105,118,101]⟩)))⟩,
 ⟨none,none, .val (.never)⟩]
abbrev aGc:List aA:=[
 ⟨some 8,none, .val (.move (.slot 1))⟩,
 ⟨some 9,none, .val (.move (.slot 0))⟩,
 ⟨some 10,none, .val (.capv (.slot 9))⟩,
 ⟨some 11,none, .val (.move (.slot 0))⟩,
 ⟨some 12,none, .val (.len (.slot 11))⟩,
 ⟨some 13,none, .val (.bin .sub (.slot 10) (.slot 12))⟩,
 ⟨some 14,none, .val (.bin .sub (.slot 8) (.slot 13))⟩,
 ⟨some 1,none, .val (.move (.slot 14))⟩]
abbrev aGb:List aA:=[
 ⟨some 15,none, .val (.move (.slot 1))⟩,
 ⟨some 16,none, .val (.bin .gtr (.slot 15) (.const (.int .i64 0)))⟩]
abbrev aGa(k:Sh)(z:V)(bs:Nat):List aA:=[
 ⟨some 17,none, .val (.move (.slot 0))⟩,
 ⟨some 18,none, .val (.move (.slot 0))⟩,
 ⟨some 19,none, .val (.capv (.slot 18))⟩,
 ⟨some 20,none, .val (.slc k (.slot 17) .none (.some (.slot 19)) .none)⟩,
 ⟨some 21,none, .val (.move (.slot 1))⟩,
 ⟨some 22,none, .appz k bs (.slot 20) (.slot 21) z⟩,
 ⟨some 23,none, .val (.move (.slot 0))⟩,
 ⟨some 24,none, .val (.len (.slot 23))⟩,
 ⟨some 25,none, .val (.slc k (.slot 22) .none (.some (.slot 24)) .none)⟩,
 ⟨some 0,none, .val (.move (.slot 25))⟩]
abbrev aGZ:List aA:=[
 ⟨some 26,none, .val (.move (.slot 0))⟩,
 ⟨some 4,none, .val (.move (.slot 26))⟩]
def Grow(k:Sh)(z:V)(bs:Nat)(ts:Nat):LFn:=⟨(.seq (.ops (aGf k)) (.seq (.seq (.ops aGe) (.cond (.slot 6) (.ops (aGd ts)) .skip)) (.seq (.seq (.ops aGc) (.seq (.ops aGb) (.cond (.slot 16) (.ops (aGa k z bs)) .skip))) (.seq (.ops aGZ) .ret)))),27,[.slot 4]⟩
abbrev aDb(k:Sh):List aA:=[
 ⟨some 2,none, .val (.move (.const (.sl k .nil [])))⟩]
abbrev aDa:List aA:=[
 ⟨some 3,none, .val (.move (.const (.int .i64 0)))⟩]
abbrev aDZ:List aA:=[
 ⟨some 9,none, .val (.move (.slot 0))⟩,
 ⟨some 10,none, .val (.len (.slot 9))⟩,
 ⟨some 11,none, .val (.move (.const (.int .i64 0)))⟩]
abbrev aDY:List aA:=[
 ⟨some 12,none, .val (.bin .lss (.slot 11) (.slot 10))⟩]
abbrev aDX:List aA:=[
 ⟨some 13,none, .val (.idxA .leaf (.slot 9) (.slot 11))⟩,
 ⟨some 14,none, .val (.load .leaf (.slot 13))⟩,
 ⟨some 5,none, .val (.move (.slot 14))⟩]
abbrev aDW:List aA:=[
 ⟨some 15,none, .val (.move (.slot 3))⟩,
 ⟨some 16,none, .val (.move (.slot 5))⟩,
 ⟨some 17,none, .val (.len (.slot 16))⟩,
 ⟨some 18,none, .val (.bin .add (.slot 15) (.slot 17))⟩,
 ⟨some 3,none, .val (.move (.slot 18))⟩]
abbrev aDV:List aA:=[
 ⟨some 19,none, .val (.move (.slot 3))⟩,
 ⟨some 20,none, .val (.bin .lss (.slot 19) (.const (.int .i64 0)))⟩]
abbrev aDU(ts:Nat):List aA:=[
 ⟨some 21,none, .val (.mkif ts (.const (.str ⟨#[108,101,110,32,111,117,116,32,111,102,32,114,97,110,103,101]⟩)))⟩,
 ⟨none,none, .val (.never)⟩]
abbrev aDT:List aA:=[
 ⟨some 22,none, .val (.bin .add (.slot 11) (.const (.int .i64 1)))⟩,
 ⟨some 11,none, .val (.move (.slot 22))⟩]
abbrev aDd(ts:Nat):aS:=(.seq (.ops aDY) (.seq (.cond (.slot 12) .skip (.exit 0)) (.seq (.block 1 (.seq (.ops aDX) (.seq (.ops aDW) (.seq (.ops aDV) (.cond (.slot 20) (.ops (aDU ts)) .skip))))) (.ops aDT))))
abbrev aDS(k:Sh)(f0:Nat):List aA:=[
 ⟨some 23,none, .val (.move (.slot 3))⟩,
 ⟨some 24,none, .call f0 [(.const (.sl k .nil [])),(.slot 23)]⟩,
 ⟨some 6,none, .val (.move (.slot 24))⟩]
abbrev aCl:List aA:=[
 ⟨some 25,none, .val (.move (.slot 0))⟩,
 ⟨some 26,none, .val (.len (.slot 25))⟩,
 ⟨some 27,none, .val (.move (.const (.int .i64 0)))⟩]
abbrev aCk:List aA:=[
 ⟨some 28,none, .val (.bin .lss (.slot 27) (.slot 26))⟩]
abbrev aCj:List aA:=[
 ⟨some 29,none, .val (.idxA .leaf (.slot 25) (.slot 27))⟩,
 ⟨some 30,none, .val (.load .leaf (.slot 29))⟩,
 ⟨some 8,none, .val (.move (.slot 30))⟩]
abbrev aCi(k:Sh)(bs:Nat):List aA:=[
 ⟨some 31,none, .val (.move (.slot 6))⟩,
 ⟨some 32,none, .val (.move (.slot 8))⟩,
 ⟨some 33,none, .append k bs (.slot 31) (.slot 32)⟩,
 ⟨some 6,none, .val (.move (.slot 33))⟩]
abbrev aCh:List aA:=[
 ⟨some 34,none, .val (.bin .add (.slot 27) (.const (.int .i64 1)))⟩,
 ⟨some 27,none, .val (.move (.slot 34))⟩]
abbrev aDc(k:Sh)(bs:Nat):aS:=(.seq (.ops aCk) (.seq (.cond (.slot 28) .skip (.exit 2)) (.seq (.block 3 (.seq (.ops aCj) (.ops (aCi k bs)))) (.ops aCh))))
abbrev aCg:List aA:=[
 ⟨some 35,none, .val (.move (.slot 6))⟩,
 ⟨some 2,none, .val (.move (.slot 35))⟩]
def Concat(k:Sh)(bs:Nat)(ts:Nat)(f0:Nat):LFn:=⟨(.seq (.ops (aDb k)) (.seq (.ops aDa) (.seq (.seq (.ops aDZ) (.block 0 (.loop (aDd ts)))) (.seq (.ops (aDS k f0)) (.seq (.seq (.ops aCl) (.block 2 (.loop (aDc k bs)))) (.seq (.ops aCg) .ret)))))),36,[.slot 2]⟩
end LB
section
variable{P:Program}{k:Sh}{bs ts:Nat}
theorem Ei{f:Nat}{z:V}(hL:aE P f=some (LB.Grow k z bs ts))(m:Nat)(hm:m≤1000000000)(hbs:bs≤140737)(h':Hp)(nx:Nat):
 aR P f [.sl k .nil [], .int .i64 m] h' nx fun v h'' _=>(m=0∧v= .sl k .nil []∧h''=h')∨(0<m∧∃id es,nx≤id∧v= .rs id k 0 0∧h''=h'.set id (.arr k es)):=by
 have hb:=oK hm hbs;refine aB hL fun hd=>?_;refine ZK ?_;have w1:IntKind.i64.wrap ((m:Int)-0)=m:=by rw[fQ]<;>omega
 have w2:IntKind.i64.wrap ((0:Int)-0)=0:=by rw[fQ]<;>omega
 repeat (first|with_reducible refine bG ?_|with_reducible refine bE ?_|with_reducible refine bV ?_|with_reducible refine aW ?_|with_reducible refine aT ?_|with_reducible refine bR ?_|(refine bZ rfl (by simp only[ go_sem,reduceIte,jA,jB,jC,jD,reduceCtorEq,jE,jF];try omega) ?_;simp only[ go_sem,reduceIte,jA,jB,jC,jD,reduceCtorEq,jE,jF])|(with_reducible refine bN ?_))
 refine cY _ rfl (fun hc=>?_) (fun hc=>?_)
 ·have:=of_decide_eq_true hc;omega
 repeat (first|with_reducible refine bG ?_|with_reducible refine bE ?_|with_reducible refine bV ?_|with_reducible refine aW ?_|with_reducible refine aT ?_|with_reducible refine bR ?_|(refine bZ rfl (by simp only[w1,w2,jJ,go_sem,reduceIte,jA,jB,jC,jD,reduceCtorEq,jE,jF];try omega) ?_;simp only[w1,w2,jJ,go_sem,reduceIte,jA,jB,jC,jD,reduceCtorEq,jE,jF])|(with_reducible refine bN ?_))
 refine cY _ rfl (fun hc=>?_) (fun hc=>?_)
 ·have aAh:0<m:=by have:=of_decide_eq_true hc;omega
  have aHB:(0<(m:Int)):=or;repeat (first|with_reducible refine bG ?_|with_reducible refine bE ?_|with_reducible refine bV ?_|with_reducible refine aW ?_|with_reducible refine aT ?_|with_reducible refine bR ?_|(refine bZ rfl (by simp only[w1,w2,jJ,hb,aHB,aAh,QK,QT,Wn,go_sem,reduceIte,jA,jB,jC,jD,reduceCtorEq,jE,jF];try omega) ?_;simp only[w1,w2,jJ,hb,aHB,aAh,QK,QT,Wn,go_sem,reduceIte,jA,jB,jC,jD,reduceCtorEq,jE,jF])|(with_reducible refine bN ?_))
  refine dF (aC _ (Kb _) ⟨nx,Ki m z,Kp _,?_,?_⟩)
  ·simp only[go_sem,reduceIte,jA,jB,jC,jD,reduceCtorEq,jE,jF]
  rfl
 have hz:m=0:=by have:=of_decide_eq_false hc;omega
 repeat (first|with_reducible refine bG ?_|with_reducible refine bE ?_|with_reducible refine bV ?_|with_reducible refine aW ?_|with_reducible refine aT ?_|with_reducible refine bR ?_|(refine bZ rfl (by simp only[ go_sem,reduceIte,jA,jB,jC,jD,reduceCtorEq,jE,jF];try omega) ?_;simp only[ go_sem,reduceIte,jA,jB,jC,jD,reduceCtorEq,jE,jF])|(with_reducible refine bN ?_))
 refine dF (aC h' (Kb _) (.inl ⟨hz,?_,rfl⟩));simp only[go_sem,reduceIte,jA,jB,jC,jD,reduceCtorEq,jE,jF]
def cF(L:List (Own×List V)):List V:=L.flatMap (·.2)
theorem aq(L:List (Own×List V))(i:Nat)(h:i<L.length):cF (L.take (i+1))=cF (L.take i)++L[i].2:=by
 unfold cF;rw[Kf h,QO];simp
theorem jq(L:List (Own×List V))(i:Nat):(cF (L.take i)).length≤(cF L).length:=by
 have:cF L=cF (L.take i)++cF (L.drop i):=by
  unfold cF;rw[←QO,Qf]
 rw[this];simp
theorem pk{f f0:Nat}{z:V}(hL:aE P f=some (LB.Concat k bs ts f0))(hL0:aE P f0=some (LB.Grow k z bs ts))(hbs:bs≤140737)(own:Own)(L:List (Own×List V))(hl:L.length≤1000000)(ht:(cF L).length≤100000000)(h':Hp)(nx:Nat):
 aR P f [.sl .leaf own (L.map fun p=> .sl k p.1 p.2)] h' nx fun v h'' _=>pz nx h' k (cF L) v h'':=by
 refine aB hL fun hd=>?_;refine ZK ?_;repeat (first|with_reducible refine bG ?_|with_reducible refine bE ?_|with_reducible refine bV ?_|with_reducible refine aW ?_|with_reducible refine aT ?_|with_reducible refine bR ?_|(refine bZ rfl (by simp only[ go_sem,reduceIte,jA,jB,jC,jD,reduceCtorEq,jE,jF];try omega) ?_;simp only[ go_sem,reduceIte,jA,jB,jC,jD,reduceCtorEq,jE,jF])|(with_reducible refine bN ?_))
 refine aQ (fun i:Nat=>aD 36 0 [(0, .sl .leaf own (L.map fun p=> .sl k p.1 p.2)),(3, .int .i64 (cF (L.take i)).length),(9, .sl .leaf own (L.map fun p=> .sl k p.1 p.2)),(10, .int .i64 L.length),(11, .int .i64 i)]) (fun i h2 nx2=>i≤L.length∧h2=h'∧nx≤nx2) (fun i=>L.length-i) 0 ⟨Kx _,rfl,Kp _⟩ ?_ ?_
 ·have e0:cF ([]:List (Own×List V))=[]:=rfl;simp only[WkL,aD,jH,jI,jJ,e0,jK,go_sem,reduceIte,jA,jB,jC,jD,reduceCtorEq,jE,jF]
 rintro i h2 nx2 ⟨hi,rfl,hnx⟩;generalize hQ:bB _ _ _ _ _=Q0;refine Zk ?_;repeat (first|with_reducible refine bG ?_|with_reducible refine bE ?_|with_reducible refine bV ?_|with_reducible refine aW ?_|with_reducible refine aT ?_|with_reducible refine bR ?_|(refine bZ rfl (by simp only[ go_sem,reduceIte,jA,jB,jC,jD,reduceCtorEq,jE,jF];try omega) ?_;simp only[ go_sem,reduceIte,jA,jB,jC,jD,reduceCtorEq,jE,jF])|(with_reducible refine bN ?_))
 refine cY _ rfl (fun hc=>?_) (fun hc=>?_)
 ·have hlt:i<L.length:=by have:=of_decide_eq_true hc;omega
  have hg:=aN (fun p:Own×List V=>V.sl k p.1 p.2) L i hlt;have hlen:(i:Int)<((L.map fun p=>V.sl k p.1 p.2).length:Int):=by simp;omega
  have h0:=jq L (i+1);have h1:=congrArg QY (aq L i hlt);rw[KR] at h1;have hw:IntKind.i64.wrap (((cF (L.take i)).length:Int)+(L[i].2.length:Int))=((cF (L.take (i+1))).length:Int):=by rw[fQ]<;>omega
  repeat (first|with_reducible refine bG ?_|with_reducible refine bE ?_|with_reducible refine bV ?_|with_reducible refine aW ?_|with_reducible refine aT ?_|with_reducible refine bR ?_|(refine bZ rfl (by simp only[hg,hlen,hlt,hw,jG,jK,go_sem,reduceIte,jA,jB,jC,jD,reduceCtorEq,jE,jF];try omega) ?_;simp only[hg,hlen,hlt,hw,jG,jK,go_sem,reduceIte,jA,jB,jC,jD,reduceCtorEq,jE,jF])|(with_reducible refine bN ?_))
  refine cY _ rfl (fun hc2=>?_) (fun hc2=>?_)
  ·have:=of_decide_eq_true hc2;omega
  repeat (first|with_reducible refine bG ?_|with_reducible refine bE ?_|with_reducible refine bV ?_|with_reducible refine aW ?_|with_reducible refine aT ?_|with_reducible refine bR ?_|(refine bZ rfl (by simp only[ go_sem,reduceIte,jA,jB,jC,jD,reduceCtorEq,jE,jF];try omega) ?_;simp only[ go_sem,reduceIte,jA,jB,jC,jD,reduceCtorEq,jE,jF])|(with_reducible refine bN ?_))
  rw[fQ or or,←hQ];refine aF (i+1) or ⟨or,rfl,or⟩ ?_;simp only[WkL,aD,jH,jI,jJ,go_sem,reduceIte,jA,jB,jC,jD,reduceCtorEq,jE,jF]
 have hge:i=L.length:=by have:=of_decide_eq_false hc;omega
 rw[←hQ];refine qG ?_;repeat (first|with_reducible refine lR ?_|with_reducible refine kR ?_|with_reducible refine iI ?_|with_reducible refine cD ZM ?_|with_reducible refine gG ?_|with_reducible refine aW ?_)
 have hT:cF (L.take i)=cF L:=by rw[hge,KI]
 rw[hT];repeat (first|with_reducible refine bG ?_|with_reducible refine bE ?_|with_reducible refine bV ?_|with_reducible refine aW ?_|with_reducible refine aT ?_|with_reducible refine bR ?_|(refine bZ rfl (by simp only[ go_sem,reduceIte,jA,jB,jC,jD,reduceCtorEq,jE,jF];try omega) ?_;simp only[ go_sem,reduceIte,jA,jB,jC,jD,reduceCtorEq,jE,jF])|(with_reducible refine bN ?_))
 refine aU ((Ei hL0 (cF L).length or hbs _ _).dom.mono ?_);rintro v h3 nx3 aFS ⟨hv,aHR,_⟩;unfold bQ;refine Zn ?_;repeat (first|with_reducible refine bG ?_|with_reducible refine bE ?_|with_reducible refine bV ?_|with_reducible refine aW ?_|with_reducible refine aT ?_|with_reducible refine bR ?_|(refine bZ rfl (by simp only[jK,go_sem,reduceIte,jA,jB,jC,jD,reduceCtorEq,jE,jF];try omega) ?_;simp only[jK,go_sem,reduceIte,jA,jB,jC,jD,reduceCtorEq,jE,jF])|(with_reducible refine bN ?_))
 obtain⟨I,hI⟩:∃I:Nat×V→Hp→Nat→Prop,∀i u h4 nx4,I (i,u) h4 nx4↔(i≤L.length∧nx≤nx4∧((cF L=[]∧u= .sl k .nil []∧h4=h2)∨(cF L≠ []∧∃id es,nx≤id∧id<nx4∧u= .rs id k 0 (cF (L.take i)).length∧(cF (L.take i)=[]∨es=cF (L.take i))∧h4 id=some (.arr k es)∧h2.le (h4.del id)))):=⟨fun p h4 nx4=>p.1≤L.length∧nx≤nx4∧((cF L=[]∧p.2= .sl k .nil []∧h4=h2)∨(cF L≠ []∧∃id es,nx≤id∧id<nx4∧p.2= .rs id k 0 (cF (L.take p.1)).length∧(cF (L.take p.1)=[]∨es=cF (L.take p.1))∧h4 id=some (.arr k es)∧h2.le (h4.del id))),fun _ _ _ _=>Iff.rfl⟩;simp only at aFS hv;have e0:cF ([]:List (Own×List V))=[]:=rfl;have aAd:∀n,nx≤n→h2 n=none:=fun n hn=>aV.none hd hn;refine aQ (fun p:Nat×V=>aD 36 0 [(6,p.2),(25, .sl .leaf own (L.map fun p=> .sl k p.1 p.2)),(26, .int .i64 L.length),(27, .int .i64 p.1)]) I (fun p=>L.length-p.1) (0,v) ((hI _ _ _ _).2 ⟨Kx _,(by show nx≤nx3;omega),?_⟩) ?_ ?_
 ·rcases hv with⟨q1,rfl,rfl⟩|⟨q1,id,es,q2,rfl,rfl⟩
  ·exact .inl ⟨Qc.1 q1,rfl,rfl⟩
  refine .inr ⟨fun e=>by rw[e] at q1;simp at q1,id,es,or,aHR id (.arr k es) (by simp[Ka]),?_, .inl rfl,by simp[Ka],kE (eO (Kb _) (aAd id or) _) (aAd id or)⟩;simp[cF]
 ·simp only[WkL,aD,jH,jI,jJ,jK,go_sem,reduceIte,jA,jB,jC,jD,reduceCtorEq,jE,jF]
 rintro⟨i,u⟩ h4 nx4 hii;generalize hQ2:bB _ _ _ _ _=Q2;obtain⟨q1,q2,q3⟩:=(hI _ _ _ _).1 hii;refine Zk ?_;repeat (first|with_reducible refine bG ?_|with_reducible refine bE ?_|with_reducible refine bV ?_|with_reducible refine aW ?_|with_reducible refine aT ?_|with_reducible refine bR ?_|(refine bZ rfl (by simp only[ go_sem,reduceIte,jA,jB,jC,jD,reduceCtorEq,jE,jF];try omega) ?_;simp only[ go_sem,reduceIte,jA,jB,jC,jD,reduceCtorEq,jE,jF])|(with_reducible refine bN ?_))
 refine cY _ rfl (fun hc4=>?_) (fun hc4=>?_)
 ·have hlt:i<L.length:=by have:=of_decide_eq_true hc4;omega
  have hg:=aN (fun p:Own×List V=>V.sl k p.1 p.2) L i hlt;have hlen:(i:Int)<((L.map fun p=>V.sl k p.1 p.2).length:Int):=by simp;omega
  have aBj:=aq L i hlt;have h1:=jq L (i+1);have h2':=congrArg QY aBj;rw[KR] at h2';have hw:IntKind.i64.wrap ((i:Int)+1)=((i+1:Nat):Int):=by rw[fQ]<;>omega
  repeat (first|with_reducible refine bG ?_|with_reducible refine bE ?_|with_reducible refine bV ?_|with_reducible refine aW ?_|with_reducible refine aT ?_|with_reducible refine bR ?_|with_reducible refine bN ?_)
  refine bZ rfl (by simp only[hg,hlen,hlt,jG,jK,go_sem,reduceIte,jA,jB,jC,jD,reduceCtorEq,jE,jF];try omega) ?_;simp only[hg,hlen,hlt,jG,jK,go_sem,reduceIte,jA,jB,jC,jD,reduceCtorEq,jE,jF];repeat (first|with_reducible refine bG ?_|with_reducible refine bE ?_|with_reducible refine bV ?_|with_reducible refine aW ?_|with_reducible refine aT ?_|with_reducible refine bR ?_|with_reducible refine bN ?_)
  rcases q3 with⟨q4,rfl,rfl⟩|⟨q4,id,es,q5,q6,rfl,q7,q8,q9⟩
  ·have hy:L[i].2=[]:=by
    rw[q4] at h1;exact Qc.1 (by simp at h1;rw[h1] at h2';simp at h2';omega)
   refine bZ rfl (by simp only[hy,go_sem,reduceIte,jA,jB,jC,jD,reduceCtorEq,jE,jF];try omega) ?_;simp only[hy,go_sem,reduceIte,jA,jB,jC,jD,reduceCtorEq,jE,jF];rw[←hQ2];repeat (first|with_reducible refine bG ?_|with_reducible refine bE ?_|with_reducible refine bV ?_|with_reducible refine aW ?_|with_reducible refine aT ?_|with_reducible refine bR ?_|with_reducible refine bN ?_)
   refine bZ rfl (by simp only[hw,go_sem,reduceIte,jA,jB,jC,jD,reduceCtorEq,jE,jF];try omega) ?_;simp only[hw,go_sem,reduceIte,jA,jB,jC,jD,reduceCtorEq,jE,jF];repeat (first|with_reducible refine bG ?_|with_reducible refine bE ?_|with_reducible refine bV ?_|with_reducible refine aW ?_|with_reducible refine aT ?_|with_reducible refine bR ?_|with_reducible refine bN ?_)
   refine aF (i+1, .sl k .nil []) (by(try simp only);omega) ((hI _ _ _ _).2 ⟨or,by(try simp only[go_sem,reduceIte,jA,jB,jC,jD,reduceCtorEq,jE,jF]);omega, .inl ⟨q4,rfl,rfl⟩⟩) ?_;simp only[WkL,aD,jH,jI,jJ,hw,go_sem,reduceIte,jA,jB,jC,jD,reduceCtorEq,jE,jF]
  refine lT 2 rfl (by simp only[go_sem,reduceIte,jA,jB,jC,jD,reduceCtorEq,jE,jF]) ?_;refine Zn ?_;by_cases hy:L[i].2=[]
  ·refine rY rfl q8 (by simp only[dI,hy,go_sem,reduceIte,jA,jB,jC,jD,reduceCtorEq,jE,jF]) ?_;refine bZ rfl (by simp only[ go_sem,reduceIte,jA,jB,jC,jD,reduceCtorEq,jE,jF];try omega) ?_;refine Zn ?_;rw[←hQ2];repeat (first|with_reducible refine bG ?_|with_reducible refine bE ?_|with_reducible refine bV ?_|with_reducible refine aW ?_|with_reducible refine aT ?_|with_reducible refine bR ?_|with_reducible refine bN ?_)
   refine bZ rfl (by simp only[hw,go_sem,reduceIte,jA,jB,jC,jD,reduceCtorEq,jE,jF];try omega) ?_;simp only[hw,go_sem,reduceIte,jA,jB,jC,jD,reduceCtorEq,jE,jF];repeat (first|with_reducible refine bG ?_|with_reducible refine bE ?_|with_reducible refine bV ?_|with_reducible refine aW ?_|with_reducible refine aT ?_|with_reducible refine bR ?_|with_reducible refine bN ?_)
   have aA8:cF (L.take (i+1))=cF (L.take i):=by rw[aBj,hy,Qi]
   refine aF (i+1, .rs id k 0 (cF (L.take i)).length) (by(try simp only);omega) ((hI _ _ _ _).2 ⟨or,by(try simp only[go_sem,reduceIte,jA,jB,jC,jD,reduceCtorEq,jE,jF]);omega, .inr ⟨q4,id,es,q5,by(try simp only[go_sem,reduceIte,jA,jB,jC,jD,reduceCtorEq,jE,jF]);omega,by rw[aA8],by rw[aA8];exact q7,q8,q9⟩⟩) ?_;simp only[WkL,aD,jH,jI,jJ,hw,go_sem,reduceIte,jA,jB,jC,jD,reduceCtorEq,jE,jF]
  have aPg:es.take (cF (L.take i)).length=cF (L.take i):=by
   rcases q7 with q7|q7
   ·rw[q7];rfl
   rw[q7,KI]
  have hcl:(cF (L.take i)).length≤es.length:=by
   rcases q7 with q7|q7
   ·rw[q7];exact Kx _
   rw[q7];exact Kp _
  refine pH rfl q8 hcl (by simp only[dI,go_sem,reduceIte,jA,jB,jC,jD,reduceCtorEq,jE,jF]) hy (oK or hbs) ?_;refine bZ rfl (by simp only[ go_sem,reduceIte,jA,jB,jC,jD,reduceCtorEq,jE,jF];try omega) ?_;refine Zn ?_;rw[←hQ2];repeat (first|with_reducible refine bG ?_|with_reducible refine bE ?_|with_reducible refine bV ?_|with_reducible refine aW ?_|with_reducible refine aT ?_|with_reducible refine bR ?_|with_reducible refine bN ?_)
  refine bZ rfl (by simp only[hw,go_sem,reduceIte,jA,jB,jC,jD,reduceCtorEq,jE,jF];try omega) ?_;simp only[hw,go_sem,reduceIte,jA,jB,jC,jD,reduceCtorEq,jE,jF];repeat (first|with_reducible refine bG ?_|with_reducible refine bE ?_|with_reducible refine bV ?_|with_reducible refine aW ?_|with_reducible refine aT ?_|with_reducible refine bR ?_|with_reducible refine bN ?_)
  refine aF (i+1, .rs nx4 k 0 ((cF (L.take i)).length+L[i].2.length)) (by(try simp only);omega) ((hI _ _ _ _).2 ⟨or,by(try simp only[go_sem,reduceIte,jA,jB,jC,jD,reduceCtorEq,jE,jF]);omega, .inr ⟨q4,nx4,cF (L.take (i+1)),q2,by(try simp only[go_sem,reduceIte,jA,jB,jC,jD,reduceCtorEq,jE,jF]);omega,by rw[h2'], .inr rfl,?_,?_⟩⟩) ?_
  ·simp only[aPg,aBj,go_sem,reduceIte,jA,jB,jC,jD,reduceCtorEq,jE,jF]
  ·try simp only[go_sem,reduceIte,jA,jB,jC,jD,reduceCtorEq,jE,jF]
   intro m b e;have h5:=q9 m b e;have h6:=hd m b e;simp only[Hp.aAM,Ku] at h5⊢;split at h5
   ·cases h5
   rename_i hne;rw[if_neg or,if_neg or,if_neg hne];exact h5
  simp only[WkL,aD,jH,jI,jJ,hw,go_sem,reduceIte,jA,jB,jC,jD,reduceCtorEq,jE,jF]
 have aVm:i=L.length:=by have:=of_decide_eq_false hc4;omega
 rw[←hQ2];refine qG ?_;repeat (first|with_reducible refine lR ?_|with_reducible refine kR ?_|with_reducible refine iI ?_|with_reducible refine cD ZM ?_|with_reducible refine gG ?_|with_reducible refine aW ?_)
 repeat (first|with_reducible refine bG ?_|with_reducible refine bE ?_|with_reducible refine bV ?_|with_reducible refine aW ?_|with_reducible refine aT ?_|with_reducible refine bR ?_|(refine bZ rfl (by simp only[ go_sem,reduceIte,jA,jB,jC,jD,reduceCtorEq,jE,jF];try omega) ?_;simp only[ go_sem,reduceIte,jA,jB,jC,jD,reduceCtorEq,jE,jF])|(with_reducible refine bN ?_))
 have hT2:cF (L.take i)=cF L:=by rw[aVm,KI]
 rw[hT2] at q3;rcases q3 with⟨q4,rfl,rfl⟩|⟨q4,id,es,q5,q6,rfl,q7,q8,q9⟩
 ·exact dF (aC _ (Kb _) (.inl ⟨q4,rfl,rfl⟩))
 refine dF (aC (h2.set id (.arr k (cF L))) ?_ (.inr ⟨q4,id,q5,rfl,rfl⟩));have hes:es=cF L:=q7.resolve_left q4;subst hes;refine wU ?_ q8;intro m b e;have h5:=q9 m b e;simp only[Ku] at h5;split at h5
 ·cases h5
 exact h5
end
end Go.Proofs.YtlhedpgobaellaaGreatDoor
namespace Go.Proofs.YtlhedpgobaellaaGreatDoor
open Go.RowKit Go.Sort
attribute [local irreducible] KS
namespace LB
end LB
section
variable{P:Program}{α:Type} [DecidableEq α] [Inhabited α](e:α→V){k:Sh}{z:V}{q:zK}
end
namespace LB
end LB
theorem Eg{hc h:Hp}{n:Nat}(hh:Hp.has hc h)(hn:hc n=none)(b:Blk):Hp.has hc (h.set n b):=fun m k e hb=>by
 unfold Ka;rw[if_neg (fun e2=>by rw[e2,hn] at e;cases e)];exact hh m k e hb
section
variable{P:Program}{α:Type} [Inhabited α](e:α→V){k:Sh}{z:V}
theorem vP{f:Nat}(hfit:∀x,(e x).fits k=true)(hL:aE P f=some (LB.aAX k))(p:α→Bool)(n:Nat)(l:List α)(g:Nat)(caps:List V)(h:Hp)(hn:h n=some (.arr k (l.map e)))(hp:∀x∈l,aL P g ([e x]++caps) h (.bool (p x)))(hl:l.length≤1000000000):
 aL P f [.rs n k 0 l.length, .fn (.func g) [] caps] h (.int .i64 (bI p l)):=by
 refine aJ (fun L=>trivial) fun h' nx hh=>aB hL fun hd=>?_;have hn':=hh n _ hn rfl;refine ZK ?_;refine au ?_;refine aQ (fun i:Nat=>aD 19 0 [(0, .rs n k 0 l.length),(1, .fn (.func g) [] caps),(7, .int .i64 l.length),(8, .int .i64 i)]) (fun i hp2 _=>i≤l.length∧hp2=h'∧∀x∈l.take i,p x=false) (fun i=>l.length-i) 0 ⟨Kx _,rfl,Zm⟩ ?_ ?_
 ·simp only[WkL,aD,jH,jI,jJ,go_sem,reduceIte,jA,jB,jC,jD,reduceCtorEq,jE,jF]
 rintro i hp2 nx1 ⟨hi,rfl,hno⟩;generalize hQ:bB _ _ _ _ _=Q0;refine Zk ?_;rcases Ks i l.length with hlt|hge
 ·have hc:decide ((i:Int)<(l.length:Int))=true:=decide_eq_true or;have hg:=aN e l i hlt;have hw:IntKind.i64.wrap ((i:Int)+1)=((i+1:Nat):Int):=by rw[fQ]<;>omega
  have htk:l.take (i+1)=l.take i++[l[i]]:=Kf hlt
  (repeat' (first|(with_reducible first|refine stp ?_|refine cD ZM ?_|refine wE (fun _=>?_) (fun _=>?_))|((first|(with_reducible refine nC ?_;first|refine kX rfl ?_ ?_|refine cT rfl (hp l[i] (KB _)) (by simp only[go_sem,reduceIte,jA,jB,jC,jD,reduceCtorEq,jE,jF]) hh ?_|refine Zx ?_)|(with_reducible refine nE ?_;first|refine lC rfl ?_ ?_|refine ZX ?_)|refine Zy ?_)<;>try simp only[hc,hg,hw,hlt,hn',hfit,jK,jG,jQ,go_sem,reduceIte,jA,jB,jC,jD,reduceCtorEq,jE,jF])|refine ZY ?_|omega))
  ·rename_i hx;rw[←hQ];refine au ?_;refine aC hp2 (Kb _) ⟨?_,rfl⟩;refine Zn ?_;rw[bI,(Qd (p:=p) (xs:=l) (i:=i)).2 ⟨hlt,hx,fun j hj=>by simp[hno l[j] (Qt.2 ⟨j,or,rfl⟩)]⟩]
  rename_i hx;rw[←hQ];refine aF (i+1) or ⟨hlt,rfl,fun x hx2=>?_⟩ ?_
  ·rw[htk] at hx2;rcases KE.1 hx2 with h1|h1
   ·exact hno x h1
   simp at h1;rw[h1];exact hx
  simp only[WkL,aD,jH,jI,jJ,go_sem,reduceIte,jA,jB,jC,jD,reduceCtorEq,jE,jF]
 have hc:decide ((i:Int)<(l.length:Int))=false:=decide_eq_false or;refine aue hc ?_;rw[←hQ];refine au ?_;refine aC hp2 (Kb _) ⟨?_,rfl⟩;refine Zn ?_;rw[show i=l.length by omega,KI] at hno;rw[bI,Qu.2 (fun x hx=>by simp[hno x hx])]
theorem qO(p:α→Bool)(l:List α):((bI p l==-1)=true↔∀x∈l,p x=false)∧∀i:Nat,bI p l=i→∃h:i<l.length,p l[i]=true∧∀x∈l.take i,p x=false:=by
 unfold bI;cases hf:l.findIdx? p with
 |none=>
  have:=Qu.1 hf;refine⟨by simpa using this,fun i hi=>?_⟩;exact absurd hi (by simp only;omega)
 |some j=>
  obtain⟨h1,h2,h3⟩:=Qd.1 hf;refine⟨⟨fun h=>?_,fun h=>?_⟩,fun i hi=>?_⟩
  ·exfalso;simp at h<;>omega
  ·have:=h l[j] (KB _);rw[this] at h2;cases h2
  have:j=i:=by simp only at hi;omega
  subst this;refine⟨h1,h2,fun x hx=>?_⟩;obtain⟨q,hq,rfl⟩:=Qt.1 hx;have:=h3 q or;simpa using this
end
end Go.Proofs.YtlhedpgobaellaaGreatDoor
namespace Go.Proofs.YtlhedpgobaellaaGreatDoor
open Go.RowKit
variable{P:Program}{K:Ker}{h:Hp}{k:Sh}
def nR(es:List V)(o:Nat)(ys:List V):List V:=es.take o++ys++es.drop (o+ys.length)
theorem gq{es ys:List V}{o:Nat}(hle:o+ys.length≤es.length):(nR es o ys).length=es.length:=by simp[nR];omega
theorem EJ{es ys:List V}{o:Nat}(hle:o+ys.length≤es.length)(q:Nat):(nR es o ys).getD q Kc=if q<o then es.getD q Kc else if q<o+ys.length then ys.getD (q-o) Kc else es.getD q Kc:=by
 simp only[nR,Ke,Kw];have htk:(es.take o).length=o:=by simp;omega
 by_cases e1:q<o
 ·rw[if_pos e1,Km (by rw[htk];exact e1),Qa,if_pos e1]
 rw[if_neg e1,Kt (by rw[htk];omega),htk];by_cases e2:q<o+ys.length
 ·rw[if_pos e2,Km or]
 rw[if_neg e2,Kt or,Qr];have:o+ys.length+(q-o-ys.length)=q:=or;rw[this]
def nK(K:Ker)(k:Sh)(ys:List V)(cs:List Value):Prop:=cs.length=ys.length*k.size∧(∀y∈ys,y.fits k=true)∧∀i,i<ys.length→∀j,j<k.size→VR K ((ys.getD i Kc).cell j) (cs.getD (i*k.size+j) KN)
theorem nK.one{ys:List V}{cs:List Value}(c:nK K k ys cs):∀u∈cs,u.oneCell'=true:=by
 obtain⟨hcl,hfy,hv⟩:=c;intro u hu;obtain⟨q,hq,rfl⟩:=List.getElem_of_mem hu;rw[hcl] at hq;obtain⟨d1,d2,d3⟩:=rT hq;have h1:=hv _ d1 _ d2;rw[d3,Ke (l:=cs),Ky (by rw[hcl];exact hq)] at h1;have hm:ys.getD (q / k.size) Kc∈ys:=by rw[Ke,Ky d1];exact KB _
 have h2:=hfy _ hm;refine VR.aA6 h1 ?_;cases k with
 |leaf=>
  have hz:q % Sh.leaf.size=0:=by simp[Kd,Wo]
  rw[hz];rw[Kh] at h2;generalize ys.getD (q / Sh.leaf.size) Kc=y at h2;cases y<;>first|rfl|(simp[V.aAE] at h2)
 |agg n=>
  generalize ys.getD (q / (Sh.agg n).size) Kc=y at h2;cases y with
  |agg cs2=>
   simp only[Kh,Bool.and_eq_true,decide_eq_true_eq,List.all_eq_true] at h2;show(cs2.getD _ Kc).aAE=true;have hlt:q % (Sh.agg n).size<cs2.length:=by rw[h2.1];exact d2
   rw[Ke,Ky hlt];exact h2.2 _ (KB _)
  |_=>simp[Kh] at h2
theorem nK.mono{K K':Ker}(hle:K.le K'){ys:List V}{cs:List Value}(c:nK K k ys cs):nK K' k ys cs:=⟨c.1,c.2.1,fun i hi j hj=>(c.2.2 i hi j hj).mono hle⟩
theorem nH(hr:Rel K h){n o:Nat}{es ys:List V}(hn:h n=some (.arr k es))(hle:o+ys.length≤es.length){cs:List Value}(c:nK K k ys cs):
 ∃K',(storeCells ⟨K.mu n,o*k.size,none⟩ cs 0).run P K.w= .ok () K'.w∧K.le K'∧K'.live=K.live∧K'.mu=K.mu∧(∀b,K'.w.shape? b=K.w.shape? b)∧Rel K' (h.set n (.arr k (nR es o ys))):=by
 have hone:=c.one;obtain⟨hcl,hfy,hv⟩:=c;have hbr:=hr.blk n _ hn;cases hbr with
 |arr _ _ c T hh hcs himm hfit hvs=>
  have aCL:o*k.size+ys.length*k.size≤es.length*k.size:=by rw[←Qg];exact KM _ hle
  have hst:=run_storeCells_at P (K.mu n) (o*k.size) T cs 0 c K.w hh (by rw[hcl];omega) hone;simp only[Qb,hcl] at hst;generalize hc':(c.toList.take (o*k.size)++cs++c.toList.drop (o*k.size+ys.length*k.size)).toArray=c' at hst;have hcsz:c'.size=c.size:=by rw[←hc'];simp only[Qv,KR,QZ,Wa,Qm,hcl];omega
  have hle1:=K.le_row (K.mu n) c' c T hh hcsz (hr.base n _ hn) (fun o ho=>by rw[himm] at ho;omega);have hlen:=gq hle;refine⟨K.row (K.mu n) c',hst,hle1,rfl,rfl,fun b=>oO K.w _ c' c T (0,0) hh hcsz b,?_⟩;refine hr.row hn c' c T hh hcsz (fun o ho=>by rw[himm] at ho;omega) (.arr k _ c' T ?_ (by rw[hlen,hcsz];exact hcs) himm ?_ ?_)
  ·show(K.w.setRow (K.mu n) c').heap[K.mu n]?=_;exact setRow_heap K.w (K.mu n) c c' T (0,0) hh
  ·intro x hx;rcases KE.1 hx with hx|hx
   ·rcases KE.1 hx with hx|hx
    ·exact hfit x (KU hx)
    exact hfy x hx
   exact hfit x (QN hx)
  intro q hq j hj;rw[hlen] at hq;have aD6:=cC hj hq;have hget:c'[q*k.size+j]?=if q<o then c[q*k.size+j]? else if q<o+ys.length then cs[(q-o)*k.size+j]? else c[q*k.size+j]?:=by
   rw[←hc'];simp only[Qh,Kw];by_cases e1:q<o
   ·have h1:=cC hj e1;rw[if_pos e1,Km (by simp;omega),Qa,if_pos h1];simp
   rw[if_neg e1];have h1:o*k.size≤q*k.size:=KM _ or;have hsub:q*k.size-o*k.size=(q-o)*k.size:=(Wp _ _ _).symm;have htk:(c.toList.take (o*k.size)).length=o*k.size:=by simp;omega
   rw[Kt (by rw[htk];omega),htk];by_cases e2:q<o+ys.length
   ·have h2:=cC (k:=k.size) (i:=q-o) (n:=ys.length) hj or;rw[if_pos e2,Km (by rw[hcl];omega)];have:q*k.size+j-o*k.size=(q-o)*k.size+j:=or;rw[this]
   have h2:(o+ys.length)*k.size≤q*k.size:=KM _ or;rw[Qg] at h2;rw[if_neg e2,Kt (by rw[hcl];omega),hcl,Qr];have:o*k.size+ys.length*k.size+(q*k.size+j-o*k.size-ys.length*k.size)=q*k.size+j:=or;rw[this];simp
  rw[EJ hle,Kk,hget];by_cases e1:q<o
  ·rw[if_pos e1,if_pos e1,←Kk];exact(hvs q hq j hj).mono hle1
  rw[if_neg e1,if_neg e1];by_cases e2:q<o+ys.length
  ·rw[if_pos e2,if_pos e2,←Ke];exact(hv _ or j hj).mono hle1
  rw[if_neg e2,if_neg e2,←Kk];exact(hvs q hq j hj).mono hle1
theorem lU(hr:Rel K h){n o m:Nat}{es:List V}(hn:h n=some (.arr k es))(hle:o+m≤es.length):
 ∃cs,nK K k ((es.drop o).take m) cs∧cs.length=m*k.size∧∀j u,cs[j]?=some u→K.w.cell? ⟨K.mu n,o*k.size+j,none⟩=some u:=by
 have hbr:=hr.blk n _ hn;cases hbr with
 |arr _ _ c T hh hcs himm hfit hvs=>
  have aCL:o*k.size+m*k.size≤es.length*k.size:=by rw[←Qg];exact KM _ hle
  have hml:((es.drop o).take m).length=m:=by simp;omega
  refine⟨(Wq (m*k.size)).map fun j=>c.getD (o*k.size+j) KN,⟨by rw[hml];simp,fun y hy=>hfit y (QN (KU hy)),fun i hi j hj=>?_⟩,Zm,fun j u hu=>?_⟩
  ·rw[hml] at hi;have h1:=cC hj hi;have h2:=hvs (o+i) or j hj;have e1:((es.drop o).take m).getD i Kc=es.getD (o+i) Kc:=by rw[Ke,Ke,List.getElem?_take_of_lt hi,Qr]
   have e2:((Wq (m*k.size)).map fun j=>c.getD (o*k.size+j) KN).getD (i*k.size+j) KN=c.getD ((o+i)*k.size+j) KN:=by
    rw[Ke,Qe,QP h1,Qg,Nat.add_assoc];rfl
   rw[e1,e2];exact h2
  rw[Qe] at hu;have hj:j<m*k.size:=by
   rcases Ks j (m*k.size) with h|h
   ·exact h
   rw[List.getElem?_eq_none (by simpa using h)] at hu;cases hu
  rw[QP hj] at hu;have hu:c.getD (o*k.size+j) KN=u:=by simpa using hu
  simp only[QM,hh,KY,KZ,if_false];rw[←hu,Kk,Qw or];rfl
theorem oQ(w:World)(dT sT ty elem:TypeId)(i:TypeInfo)(b o aWg aZ5:Nat)(a:Addr)(aO3 aVa m:Nat)(cs:List Value){w':World}
 (hu:P.underlying dT=some (.slice elem)) (hi:P.info? elem=some i) (hm:m=Nat.min aO3 aWg) (hn:cs.length=m*i.size)
 (aPE:∀j v,cs[j]?=some v→w.cell? (a.add j)=some v) (hst:(storeCells ⟨b,o,none⟩ cs 0).run P w= .ok () w'):
 (KO #[dT,sT] ty #[.slice (some ⟨b,o,none⟩) aWg aZ5, .slice (some a) aO3 aVa]).run P w= .ok (goInt m) w':=by
 have hl:=run_firstCells_some (P:=P) w i.size m a aO3 aVa cs hn aPE;simp[KO,run_underlying hu,Wf,sizeOf,typeInfo,hi,←hm,hl,hst]
theorem np(w:World)(t t' ty e e':TypeId)(i:TypeInfo)(b o n cap:Nat)(a:Addr)(m c:Nat)(cs:List Value){w':World}
 (hu:P.underlying t=some (.slice e)) (hu':P.underlying t'=some (.slice e')) (hi:P.info? e=some i) (hn:cs.length=m*i.size) (hroom:n+m≤cap)
 (aPE:∀j v,cs[j]?=some v→w.cell? (a.add j)=some v) (hst:(storeCells ⟨b,o+n*i.size,none⟩ cs 0).run P w= .ok () w'):
 (KC #[t,t'] ty #[.slice (some ⟨b,o,none⟩) n cap, .slice (some a) m c]).run P w= .ok (.slice (some ⟨b,o,none⟩) (n+m) cap) w':=by
 have hl:=run_firstCells_some (P:=P) w i.size m a m c cs hn aPE;simp[KC,run_underlying hu,run_underlying hu',sizeOf,typeInfo,hi,Wf,hroom,hl,Addr.add_lit,hst]
theorem oM{ops:Array Oper}{o:Oper}{a:Act}{w:World}{K:Act→World→Prop}{Q:Exit→Act→World→Prop}{E:Prop}(bi:Builtin)
 (hg:o.guard=none) (xs:Array Operand) (ts:Array TypeId) (hop:o.op=Op.call {callee:=Callee.builtin bi,args:=xs,argTypes:=ts})
 (F:Sem Value) (hF:∀cs,builtin bi ts o.type cs (xs.map a.eval)=(do pure (.value (←F)))) {v':Value} {w':World} (hr:F.run P w= .ok v' w') (hK:K (a.put o.dst v') w'):
 if Region.wanted o (yielded ops a.tmps)=true then Oper.wp P o a w K Q else E:=by
 have hw:Region.wanted o (yielded ops a.tmps)=true:=by simp[Region.wanted,hg]
 rw[if_pos hw];unfold Oper.wp;simp[execOp,hop,resolve,invoke,hF,hr,Result.andThen];exact hK
theorem eM{ops:Array Oper}{rest:List Oper}{o:Oper}{a:Act}{w:World}{Q:Exit→Act→World→Prop}(bi:Builtin)
 (hg:o.guard=none) (xs:Array Operand) (ts:Array TypeId) (hop:o.op=Op.call {callee:=Callee.builtin bi,args:=xs,argTypes:=ts})
 (F:Sem Value) (hF:∀cs,builtin bi ts o.type cs (xs.map a.eval)=(do pure (.value (←F)))) {v':Value} {w':World} (hr:F.run P w= .ok v' w') (hK:wpList P ops Q rest (a.put o.dst v') w'):wpList P ops Q (o::rest) a w:=
 wpList_plain hg fun _ hk=>by
  unfold Oper.wp;simp[execOp,hop,resolve,invoke,hF,hr,Result.andThen];exact hk _ _ hK
theorem yI{v:V}(h:v.aAE=true):v.loose.aAE=true:=by
 cases v with
 |sl k o es=>cases o<;>rfl
 |_=>first|exact h|rfl
theorem VR.deep{K:Ker}{own:Own}{es:List V}{cv:Value}(r:VR K (.sl .leaf own es) cv):VR K (.sl .leaf own (es.map Ko)) cv:=by
 cases r with
 |slnil=>exact .slnil _
 |slz _ a=>exact .slz _ a
 |sl _ _ _ b off cap f hb hfit hcell hst hv hcap hnil hfull htok=>
  have hl:es.length=(es.map Ko).length:=(Qj ..).symm;have:=VR.sl (K:=K) .leaf own (es.map Ko) b off cap f hb (fun e he=>by
   obtain⟨x,hx,rfl⟩:=KT.1 he;have:=hfit x hx;rw[iM] at this⊢;exact yI this) (by rw[←hl];exact hcell) (by rw[←hl];exact hst) (fun i hi j hj=>by
   rw[←hl] at hi;have h1:=hv i hi j hj;have hm:es.getD i Kc∈es:=by rw[Ke,Ky hi];exact KB _
   have hf:=hfit _ hm;rw[iM] at hf;have hj0:j=0:=by simp[Kd] at hj;exact hj
   subst hj0;have e1:(es.map Ko).getD i Kc=(es.getD i Kc).loose:=by
    rw[Ke,Ke,Qe,Ky hi];rfl
   rw[gK hf] at h1;rw[e1,gK (yI hf)];exact h1.loose) (by rw[←hl];exact hcap) hnil (by rw[←hl];exact hfull) (by rw[←hl];exact htok)
  rw[←hl] at this;exact this
theorem Bg{sl:List V}{h:Hp}{nx:Nat}(t:Nat){own:Own}{es:List V}(ht:sl.getD t Kc= .sl .leaf own es):qZ ⟨sl,h,nx⟩ ⟨sl.set t (.sl .leaf own (es.map Ko)),h,nx⟩:=by
 intro K0 K nx0 a r;have hv:=r.aAC.2 t;rw[ht] at hv;exact⟨K,rfl,r.le,r.aAC.set hv.deep,r.rel,r.live,r.nx,r.defers⟩
end Go.Proofs.YtlhedpgobaellaaGreatDoor
namespace Go.Proofs.YtlhedpgobaellaaGreatDoor
open Go.RowKit Go.Sort Go.Shelf
def Gi{α:Type}(P:Program)(gf:Nat)(caps:List V)(hb:Hp)(e:α→List V)(ok:List α→α→Prop)(fin:List α→Prop):Prop:=
 ∀(yn n0:Nat) (J:Hp→List α→Hp→Nat→Prop) (D:Hp→Nat→Prop),
  (∀F i h nx,J F i h nx→F.le h)→(∀F i h nx nx',J F i h nx→nx≤nx'→J F i h nx')→
  (∀F i h nx b,J F i h nx→aV h nx→n0≤nx→J (F.set nx b) i (h.set nx b) (nx+1))→
  (∀F i h nx n b b',J F i h nx→n0≤n→F n=some b→J (F.set n b') i (h.set n b') nx)→(∀h nx nx',D h nx→nx≤nx'→D h nx')→
  (∀F i x,ok i x→∀h nx,J F i h nx→aV h nx→n0≤nx→dL P yn (e x) h nx fun v h' nx'=>(v= .bool true∧J F (i++[x]) h' nx')∨(v= .bool false∧D h' nx'))→
  ∀F h,J F [] h n0→hb.has F→aV h n0→aR P gf (.yld yn::caps) h n0 fun _ h' nx'=>(∃F' i,F.le F'∧fin i∧J F' i h' nx')∨D h' nx'
theorem yY{α:Type}{e0:α→List V}{ok:List α→α→Prop}{fin:List α→Prop}{P:Program}{g:aK}{ps:List Nat}{asg b:aS}{Q:bL→St→Prop}{s:St}{gf:Nat}{caps:List V}{hb:Hp}(hit:Gi P gf caps hb e0 ok fin)(hg:g.ev s.sl= .fn (.func gf) [] caps)
 (hlen:∀x,(e0 x).length=ps.length) (hd:aV s.h s.nx) (I:Hp→List α→Hp→Nat→Prop) (E:bL→Hp→Nat→Prop)
 (hlI:∀F i h nx,I F i h nx→F.le h) (hnI:∀F i h nx nx',I F i h nx→nx≤nx'→I F i h nx') (hsI:∀F i h nx b,I F i h nx→F s.nx=none→I F i (h.set s.nx b) nx)
 (haI:∀F i h nx b,I F i h nx→aV h nx→s.nx<nx→I (F.set nx b) i (h.set nx b) (nx+1)) (huI:∀F i h nx n b b',I F i h nx→s.nx<n→F n=some b→I (F.set n b') i (h.set n b') nx)
 (hnE:∀e h nx nx',E e h nx→nx≤nx'→E e h nx') (hsE:∀e h nx b,E e h nx→E e (h.set s.nx b) nx)
 (F0:Hp) (h0:I F0 [] s.h (s.nx+1)) (hb0:hb.has F0) (hF0:F0 s.nx=none)
 (aBr:∀F i x,ok i x→∀h nx X,I F i h nx→F s.nx=none→s.nx<nx→h s.nx=some X→aV h nx→
   lwp P asg (EM s.nx X fun s1=>∀X',lwp P b (mF s.nx X' (I F (i++[x])) E) ⟨s1.sl,s1.h.set s.nx X',s1.nx⟩) ⟨aAR s.sl ps (e0 x),h,nx⟩)
 (aCL:∀F i,fin i→F0.le F→∀h nx,I F i h nx→s.nx<nx→aV h nx→Q .normal ⟨s.sl,h.del s.nx,nx⟩)
 (hex:∀e h nx,E e h nx→s.nx<nx→aV h nx→(e= .ret∨∃id,e= .exit id)→Q e ⟨s.sl,h.del s.nx,nx⟩):lwp P (.range g ps asg b) Q s:=by
 simp only[lwp,hg];intro rcd U hpl hY;have aAN:∀(h:Hp) (b:Blk),(h.set s.nx b) s.nx=some b:=fun h b=>by simp[Ka]
 refine((hit s.nx (s.nx+1) (fun F i h nx=>I F i h nx∧h s.nx=some (.obj (rcd .ready none) U)∧F s.nx=none)
  (fun h nx=>(h s.nx=some (.obj (rcd .done (some .ret)) U)∧E .ret h nx)∨∃id,h s.nx=some (.obj (rcd .done (some (.exit id))) U)∧E (.exit id) h nx)
  (fun F i h nx hj=>hlI F i h nx hj.1) (fun F i h nx nx' hj hle=>⟨hnI F i h nx nx' hj.1 hle,hj.2⟩)
  (fun F i h nx b hj hdm hle=>⟨haI F i h nx b hj.1 hdm or,by simp only[Ka];rw[if_neg or];exact hj.2.1,by simp only[Ka];rw[if_neg or];exact hj.2.2⟩)
  (fun F i h nx n b b' hj hle hn=>⟨huI F i h nx n b b' hj.1 or hn,by simp only[Ka];rw[if_neg or];exact hj.2.1,by simp only[Ka];rw[if_neg or];exact hj.2.2⟩)
  (fun h nx nx' hD hle=>hD.imp (fun hD=>⟨hD.1,hnE _ _ _ _ hD.2 hle⟩) (fun⟨id,hD⟩=>⟨id,hD.1,hnE _ _ _ _ hD.2 hle⟩)) ?_ F0 _ ⟨hsI _ _ _ _ _ h0 hF0,aAN _ _,hF0⟩ hb0 ?_).dom).mono ?_
 ·rintro F i x hi h nx ⟨hI,hr,hFn⟩ aA1 aCK;refine hY (e0 x) h nx _ (hlen _) hr ?_;refine mN ?_ (aBr F i x hi h nx _ hI hFn (aA1 _ _ hr) hr aA1);intro e s1 hq;cases e with
  |exit id=>exact hq.elim
  |ret=>exact hq.elim
  |normal=>
   refine⟨hq.1,mN ?_ (hq.2 (.obj (rcd .busy none) U))⟩;intro e s2 hq2;cases e with
   |normal=>exact⟨hq2.1, .inl ⟨rfl,hsI _ _ _ _ _ hq2.2 hFn,aAN _ _,hFn⟩⟩
   |ret=>exact⟨hq2.1, .inr ⟨rfl, .inl ⟨aAN _ _,hsE _ _ _ _ hq2.2⟩⟩⟩
   |exit id=>exact⟨hq2.1, .inr ⟨rfl, .inr ⟨id,aAN _ _,hsE _ _ _ _ hq2.2⟩⟩⟩
 ·intro m b hm;unfold Ka at hm;split at hm
  ·omega
  have:=hd m b hm;omega
 rintro v h' nx' _ ⟨(⟨F',i,hFF,aAi,hI,hr,_⟩|(⟨hr,hE⟩|⟨id,hr,hE⟩)),aA1,hle⟩
 ·exact .inl ⟨hr,aCL F' i aAi hFF _ _ hI or aA1⟩
 ·exact .inr (.inl ⟨hr,hex _ _ _ hE or aA1 (.inl rfl)⟩)
 exact .inr (.inr ⟨id,hr,hex _ _ _ hE or aA1 (.inr ⟨id,rfl⟩)⟩)
section
variable{P:Program}{k:Sh}{α:Type}(e:α→V)(hfit:∀x,(e x).fits k=true)
include hfit
end
section
variable{P:Program}{α:Type}(e:α→V)
end
end Go.Proofs.YtlhedpgobaellaaGreatDoor
namespace Go.Proofs.YtlhedpgobaellaaGreatDoor
open Go.RowKit Go.Shelf
section
variable{P:Program}{Q:St→Prop}{s:St}{dst:Option Nat}{r:List aA}{x:aK}
theorem sx{n c:Nat}{es:List ME}(hx:x.ev s.sl= .map n)(hn:s.h n=some (.mp es c))(h:aZ P r Q ⟨bH s.sl dst (.ptr s.nx .leaf 0 0),s.h.set s.nx (.mit n c [] c),s.nx+1⟩):aZ P (⟨dst,none, .mp (.rng x)⟩::r) Q s:=by
 unfold aZ;simp only[LOp.run,LOp.sem,MOp.sem,hx,hn];exact h
theorem s5{it m c since last:Nat}{seen:List Nat}{es:List ME}(hx:x.ev s.sl= .ptr it .leaf 0 0)(hi:s.h it=some (.mit m since seen last))(hm:s.h m=some (.mp es c))(hb:∀e∈es,e.b<since)(hl:since≤last)
 (h1:∀e∈es,e.b∉seen→aZ P r Q ⟨bH s.sl dst (.tup [.bool true,e.k,e.v]),s.h.set it (.mit m since (seen++[e.b]) c),s.nx+1⟩) (h2:(∀e∈es,e.b∈seen)→aZ P r Q ⟨bH s.sl dst (.tup [.bool false]),s.h,s.nx+1⟩):aZ P (⟨dst,none, .mp (.nxt x)⟩::r) Q s:=by
 unfold aZ;simp only[LOp.run,LOp.sem,MOp.sem,hx,hi,hm];exact⟨hb,hl,h1,h2⟩
theorem s7{it m c since:Nat}{seen:List Nat}{es:List ME}(hx:x.ev s.sl= .ptr it .leaf 0 0)(hi:s.h it=some (.mit m since seen c))(hm:s.h m=some (.mp es c)){b:Nat}{e:ME}(hs:seen.getLast?=some b)(he:es.find? (fun e=>e.b==b)=some e)
 (h:aZ P r Q ⟨bH s.sl dst (.tup [e.k,e.v]),s.h,s.nx+1⟩):aZ P (⟨dst,none, .mp (.key x)⟩::r) Q s:=by
 unfold aZ;simp only[LOp.run,LOp.sem,MOp.sem,hx,hi,hm];exact⟨trivial,b,e,hs,he,h⟩
end
section
variable{β:Type}(bn:β→Nat)
theorem GP{l:List β}(hn:(l.map bn).Nodup){x y:β}(hx:x∈l)(hy:y∈l)(h:bn x=bn y):x=y:=by
 induction l with
 |nil=>cases hx
 |cons a l ih=>
  rw[KW,Qk] at hn;rcases KL.1 hx with e1|h1
  ·rcases KL.1 hy with e2|h2
   ·rw[e1,e2]
   exact absurd (KT.2 ⟨y,h2,by rw[←h,e1]⟩) hn.1
  rcases KL.1 hy with e2|h2
  ·exact absurd (KT.2 ⟨x,h1,by rw[h,e2]⟩) hn.1
  exact ih hn.2 h1 h2
theorem oU{l:List β}(hn:(l.map bn).Nodup):l.Nodup:=by
 refine(QU.1 hn).imp ?_;rintro a b h rfl;exact h rfl
theorem AF{l js:List β}(hl:(l.map bn).Nodup)(hj:(js.map bn).Nodup)(hs:∀y∈js,y∈l)(h:∀y∈l,bn y∈js.map bn):js.Perm l:=by
 rw[List.perm_ext_iff_of_nodup (oU bn hj) (oU bn hl)];intro y;refine⟨hs y,fun hy=>?_⟩;obtain⟨z,hz,hzy⟩:=KT.1 (h y hy);rw[GP bn hl hy (hs z hz) hzy.symm];exact hz
theorem vA:∀{js l:List β},js.Nodup→(∀y∈js,y∈l)→js.length≤l.length
 | [],_,_,_=>Kx _
 |y::js,l,hn,hs=>by
  obtain⟨a,b,rfl⟩:=List.append_of_mem (hs y (List.mem_cons_self ..));have hn:=Qk.1 hn;have:=vA (l:=a++b) hn.2 (fun z hz=>by
   have:=hs z (List.mem_cons_of_mem _ hz);rw[KE,KL] at this;rcases this with h|h|h
   ·exact KE.2 (.inl h)
   ·subst h;exact absurd hz hn.1
   exact KE.2 (.inr h))
  simp only[KR,jL] at this⊢;omega
theorem kz{l js:List β}(hj:(js.map bn).Nodup)(hs:∀y∈js,y∈l){y:β}(hy:y∈l)(hn:bn y∉js.map bn):js.length<l.length:=by
 have:=vA (js:=y::js) (l:=l) (Qk.2 ⟨fun h=>hn (KT.2 ⟨y,h,rfl⟩),oU bn hj⟩) (fun z hz=>by
  rcases KL.1 hz with rfl|hz
  ·exact hy
  exact hs z hz)
 simp only[jL] at this;omega
theorem cq{js:List β}(hj:(js.map bn).Nodup){y:β}(hn:bn y∉js.map bn):((js++[y]).map bn).Nodup:=by
 rw[Wh,List.nodup_append];refine⟨hj,Zm,?_⟩;intro a ha b hb hab;simp only[KW,QS,List.mem_singleton] at hb;subst hab;subst hb;exact hn ha
end
theorem AV{β:Type}(me:β→ME){l:List β}(hn:(l.map fun y=>(me y).b).Nodup){y:β}(hy:y∈l):(l.map me).find? (fun e=>e.b==(me y).b)=some (me y):=by
 induction l with
 |nil=>cases hy
 |cons a l ih=>
  rw[KW,Qk] at hn;rw[KW,List.find?_cons];rcases KL.1 hy with rfl|hy
  ·simp
  have:((me a).b==(me y).b)=false:=by
   simp only[beq_eq_false_iff_ne,ne_eq];exact fun h=>hn.1 (KT.2 ⟨y,hy,h.symm⟩)
  rw[this];exact ih hn.2 hy
namespace LB
end LB
attribute [local irreducible] KS
end Go.Proofs.YtlhedpgobaellaaGreatDoor
namespace Go.Proofs.YtlhedpgobaellaaGreatDoor
open Go.RowKit Go.Sort
attribute [local irreducible] KS
abbrev vls(o:Own)(l:List Vl):V:= .sl (.agg 3) o (l.map Vl.v)
abbrev TR:Type:=Own×List Vl
def TR.v(p:TR):V:=vls p.1 p.2
abbrev tps(o:Own)(l:List TR):V:= .sl .leaf o (l.map TR.v)
abbrev aP(l:List TR):List (List Vl):=l.map Prod.snd
def TR.ok(p:TR):Prop:=(p.1= .nil∧p.2=[])∨p.1= .free
theorem wN{o:Own}(l:List Vl)(h:o= .nil∨o= .free∨o= .full)(L:Nat→Prop):(vls o l).names L:=by
 rcases h with rfl|rfl|rfl<;>exact⟨(fun n e=>by cases e),cQ (fun x=>Vl.aAO L x) l⟩
theorem TR.names{p:TR}(h:p.ok)(L:Nat→Prop):p.v.names L:=wN p.2 (by rcases h with⟨h,_⟩|h<;>simp[h]) L
theorem TR.aAD(p:TR):p.v.fits .leaf=true:=rfl
def Rd(h:Hp)(v:V)(l:List Vl):Prop:=(∃o,v=vls o l)∨∃n tail,v= .rs n (.agg 3) 0 l.length∧h n=some (.arr (.agg 3) (l.map Vl.v++tail))
theorem Cb(l:List Vl)(tail:List V)(i:Nat)(h:i<l.length):(l.map Vl.v++tail).getD i (.tup [])=l[i].v:=by
 rw[Ke,Km (by simpa using h)];simp[h]
theorem Cu{α:Type}(c:α→α→Int)(a b:List α)(i:Nat)(h1:i<a.length)(h2:i<b.length)(h0:c a[i] b[i]=0):eI c (a.drop i) (b.drop i)=eI c (a.drop (i+1)) (b.drop (i+1)):=by
 rw[Kg h1,Kg h2];simp only[eI,orC,h0,if_true]
theorem xT(o1:Own)(a b:List Vl)(ha:a.length≤1000000000)(v2:V)(h:Hp)(hv:Rd h v2 b):aL Tryz.prog 99 [vls o1 a,v2, .fn (.func 100) [] []] h (.int .i64 (cM a b)):=by
 refine aJ (fun L=>trivial) fun h' nx hh=>aB L.aYe fun hd=>?_;refine ZK ?_;have hal:(a.map Vl.v).length=a.length:=jK ..;refine aue hal ?_
 refine aQ (fun i:Nat=>aD 39 0 [(0,vls o1 a),(1,v2),(2, .fn (.func 100) [] []),(11,vls o1 a),(12, .int .i64 a.length),(13, .int .i64 i)])
  (fun i hp nx1=>i≤a.length∧i≤b.length∧cM a b=cM (a.drop i) (b.drop i)∧nx≤nx1∧aV hp nx1∧Kj nx h' hp)
  (fun i=>a.length-i) 0 ⟨Kx _,Kx _,rfl,Kp _,hd,Hp.same.aAz⟩ (by simp only[WkL,aD,jH,jI,jJ,go_sem,reduceIte,jA,jB,jC,jD,reduceCtorEq,jE,jF]) ?_
 rintro i hp nx1 ⟨hi,hib,hcm,hnx,hdm,hsm⟩;generalize hQ:bB _ _ _ _ _=Q0;refine Zk ?_;rcases Ks i a.length with hlt|hge
 ·have hc:decide ((i:Int)<(a.length:Int))=true:=dct;have hw:IntKind.i64.wrap ((i:Int)+1)=((i+1:Nat):Int):=wrp;have hg:(a.map Vl.v).getD i (.tup [])= .agg [.int .i64 a[i].k, .int .i64 a[i].n, .str a[i].s]:=aN Vl.v a i hlt;rcases Ks i b.length with hlb|hgb
  ·have hc2:decide ((b.length:Int)≤(i:Int))=false:=dcf;have hk:=fun h=>Bd a[i] b[i] h;have hg2:(b.map Vl.v).getD i (.tup [])= .agg [.int .i64 b[i].k, .int .i64 b[i].n, .str b[i].s]:=aN Vl.v b i hlb;obtain⟨c,hcc⟩:∃c,qU a[i] b[i]=c:=⟨_,rfl⟩;rw[hcc] at hk;have aAi:c≠0→cM a b=c:=fun h0=>by
    rw[hcm,Kg hlt,Kg hlb];simp only[cM,eI,orC,hcc,if_neg h0]
   rcases hv with⟨o2,rfl⟩|⟨n,tail,rfl,hn⟩
   case' inl=>have E:=e9 hc hw hal hg hlt hc2 (@jK Vl V) jG (e2 hg2 hlb)
   case' inr=>
    have hn1:hp n=some (.arr (.agg 3) (b.map Vl.v++tail)):=by rw[hsm n (hd _ _ (hh _ _ hn rfl))];exact hh _ _ hn rfl
    have hn2:n<nx1:=hdm _ _ hn1;have hg3:(b.map Vl.v++tail).getD i (.tup [])= .agg [.int .i64 b[i].k, .int .i64 b[i].n, .str b[i].s]:=Cb b tail i hlb;have hl3:(b.map Vl.v++tail).length=b.length+tail.length:=Zm;have hl4:i<b.length+tail.length:=or;have E:=e12 hc hw hal hg hlt hc2 (@jK Vl V) jG hn1 hn2 hg3 (e4 hlb hl3 hl4 KG)
   all_goals
    refine aue E ?_;refine cT rfl (hk _) rfl (aH _) ?_;refine Zn ?_;by_cases h0:c=0
    ·have hc3:(c != 0)=false:=bnf;refine aue hc3 ?_;rw[←hQ];refine aue hw ?_;exact aF (i+1) or ⟨hlt,hlb,by rw[hcm,cM,Cu qU a b i hlt hlb (by rw[hcc];exact h0)],or,dmo hdm,kep hsm⟩ (by simp only[WkL,aD,jH,jI,jJ,hw,go_sem,reduceIte,jA,jB,jC,jD,reduceCtorEq,jE,jF])
    have hc3:(c != 0)=true:=bnt;refine aue hc3 ?_;rw[←hQ];refine au ?_;exact aC h' (lef hd (hsm.le hd (Kb _))) ⟨by rw[aAi h0]<;>rfl,rfl⟩
  have hc2:decide ((b.length:Int)≤(i:Int))=true:=dct;have hl2:∃m:Nat,m=b.length:=⟨_,rfl⟩;have aAi:cM a b=1:=by
   rw[hcm,Kg hlt,Kq hgb];rfl
  rcases hv with⟨o2,rfl⟩|⟨n,tail,rfl,hn⟩
  all_goals
   refine aue (e8 hc hw hal hg hlt hc2 (@jK Vl V) jG) ?_;rw[←hQ];refine au ?_;exact aC h' (lef hd (hsm.le hd (Kb _))) ⟨by rw[aAi]<;>rfl,rfl⟩
 have hc:decide ((i:Int)<(a.length:Int))=false:=dcf;have hia:i=a.length:=or;have aAi:cM a b=if a.length<b.length then-1 else 0:=by
  rw[hcm,hia,Wb];split
  ·rename_i k;rw[Kg k];rfl
  rw[Kq or];rfl
 by_cases hl:a.length<b.length
 ·have hc2:decide ((a.length:Int)<(b.length:Int))=true:=dct;rw[if_pos hl] at aAi;rcases hv with⟨o2,rfl⟩|⟨n,tail,rfl,hn⟩
  all_goals
   refine aue hc ?_;rw[←hQ];refine aue (e3 hc2 hal (@jK Vl V)) ?_;exact aC h' (lef hd (hsm.le hd (Kb _))) ⟨by rw[aAi]<;>rfl,rfl⟩
 have hc2:decide ((a.length:Int)<(b.length:Int))=false:=dcf;rw[if_neg hl] at aAi;rcases hv with⟨o2,rfl⟩|⟨n,tail,rfl,hn⟩
 all_goals
  refine aue hc ?_;rw[←hQ];refine aue (e3 hc2 hal (@jK Vl V)) ?_;exact aC h' (lef hd (hsm.le hd (Kb _))) ⟨by rw[aAi]<;>rfl,rfl⟩
theorem rC(o1:Own)(a b:List Vl)(ha:a.length≤1000000000)(v2:V)(h:Hp)(hv:Rd h v2 b):aL Tryz.prog 53 [vls o1 a,v2] h (.int .i64 (cM a b)):=by
 refine aJ (fun L=>trivial) fun h' nx hh=>aB L.aY2 fun hd=>?_;refine ZK ?_;refine au ?_;refine aI (xT o1 a b ha v2 h hv) rfl hh ?_;refine Zn ?_;refine au ?_;exact aC h' (leo hd) ⟨rfl,rfl⟩
theorem ab(a b:Vl):veq (.plain (.agg 3) [.int, .int, .str]) a.v b.v=some (decide (a=b)):=by
 have e:(decide (a=b))=(decide (a.k=b.k)&&(decide (a.n=b.n)&&decide (a.s=b.s))):=by
  rw[Bool.eq_iff_iff];cases a;cases b;simp
 rw[e];have e1:(a.k==b.k)=decide (a.k=b.k):=rfl;have e2:(a.n==b.n)=decide (a.n=b.n):=rfl;simp[Vl.v,ww,Kh,V.aAE,gQ,gT,eA,e1,e2]
theorem sD(o1 o2:Own)(a b:List Vl)(ha:a.length≤1000000000)(h:Hp):aL Tryz.prog 27 [vls o1 a,vls o2 b] h (.bool (decide (a=b))):=by
 refine aJ (fun L=>trivial) fun h' nx hh=>aB L.aZS fun hd=>?_;refine ZK ?_;by_cases hl:a.length=b.length
 ·have cl:((a.length:Int) != (b.length:Int))=false:=bnf;refine aue (e2 cl (@jK Vl V)) ?_;refine aQ (fun i:Nat=>aD 26 0 [(0,vls o1 a),(1,vls o2 b),(12, .int .i64 a.length),(13, .int .i64 i)]) (fun i hp nx1=>i≤a.length∧nx≤nx1∧aV hp nx1∧Kj nx h' hp∧a.take i=b.take i) (fun i=>a.length-i) 0 ⟨Kx _,Kp _,hd,Hp.same.aAz,rfl⟩ (by simp only[WkL,aD,jH,jI,jJ,go_sem,reduceIte,jA,jB,jC,jD,reduceCtorEq,jE,jF]) ?_;rintro i hp nx1 ⟨hi,hnx,hdm,hsm,htk⟩;generalize hQ:bB _ _ _ _ _=Q0;refine Zk ?_;rcases Ks i a.length with hlt|hge
  ·have hc:decide ((i:Int)<(a.length:Int))=true:=dct;have hw:IntKind.i64.wrap ((i:Int)+1)=((i+1:Nat):Int):=wrp;have hlb:i<b.length:=or;have hg:=aN Vl.v a i hlt;have hg2:=aN Vl.v b i hlb;have hv:=ab a[i] b[i];have E:=e9 hc hw hg hg2 hv hlt hlb (@jK Vl V) (e2 jG Vl.aAD);cases he:decide (a[i]=b[i]) with
   |true=>
    have he':a[i]=b[i]:=of_decide_eq_true he;refine aue (e4 E he KH KD) ?_;rw[←hQ];exact aF (i+1) or ⟨hlt,or,dmo hdm,kep hsm,by rw[Kf hlt,Kf hlb,htk,he']⟩ (by simp only[WkL,aD,jH,jI,jJ,hw,go_sem,reduceIte,jA,jB,jC,jD,reduceCtorEq,jE,jF])
   |false=>
    have he':a[i]≠b[i]:=of_decide_eq_false he;refine aue (e4 E he KH KD) ?_;rw[←hQ];refine au ?_;refine aC h' (lef hd (hsm.le hd (Kb _))) ⟨?_,rfl⟩;have:a≠b:=fun e=>he' (by subst e;rfl);simp only[go_sem,reduceIte,jA,jB,jC,jD,reduceCtorEq,jE,jF];rw[decide_eq_false this]
  have hc:decide ((i:Int)<(a.length:Int))=false:=dcf;refine aue hc ?_;rw[←hQ];refine au ?_;refine aC h' (lef hd (hsm.le hd (Kb _))) ⟨?_,rfl⟩;have:a=b:=by rw[Kv or,Kv or] at htk;exact htk
  simp only[go_sem,reduceIte,jA,jB,jC,jD,reduceCtorEq,jE,jF];rw[decide_eq_true this]
 have cl:((a.length:Int) != (b.length:Int))=true:=bnt;refine aue (e2 cl (@jK Vl V)) ?_;refine aC h' (leo hd) ⟨?_,rfl⟩;have:a≠b:=fun e=>hl (by rw[e]);simp only[go_sem,reduceIte,jA,jB,jC,jD,reduceCtorEq,jE,jF];rw[decide_eq_false this]
def lu(n:Int):List Vl→Option Int
 | []=>some n
 |x::l=>if 2000<IntKind.i64.wrap (n+(x.s.size:Int)) then none else lu (IntKind.i64.wrap (n+(x.s.size:Int))) l
def qI(n:Int):List (List Vl)→Bool
 | []=>false
 |t::l=>if 50<t.length then true else match lu n t with
  |none=>true
  |some m=>qI m l
theorem xE:∀(l:List (List Vl)) (n:Int),qI n l=false→∀t∈l,t.length≤50
 | [],_,_=>Zm
 |t::l,n,h=>by
  unfold qI at h;split at h
  ·cases h
  rename_i h1;split at h
  ·cases h
  rename_i m _;intro q hq;rcases KL.1 hq with rfl|hq
  ·omega
  exact xE l m h q hq
theorem lf(o:Own)(l:List TR)(hl:l.length≤1000000000)(h:Hp):aL Tryz.prog 23 [tps o l] h (.bool (qI 0 (aP l))):=by
 refine aJ (fun L=>trivial) fun h' nx hh=>aB L.aZv fun hd=>?_;refine ZK ?_;refine aue (@jK TR V) ?_;refine aQ (fun q:Nat×Int=>aD 32 0 [(3, .int .i64 q.2),(8,tps o l),(9, .int .i64 l.length),(10, .int .i64 q.1)]) (fun q hp nx1=>q.1≤l.length∧nx≤nx1∧aV hp nx1∧Kj nx h' hp∧qI 0 (aP l)=qI q.2 (aP (l.drop q.1))) (fun q=>l.length-q.1) (0,0) ⟨Kx _,Kp _,hd,Hp.same.aAz,rfl⟩ (by simp only[WkL,aD,jH,jI,jJ,go_sem,reduceIte,jA,jB,jC,jD,reduceCtorEq,jE,jF]) ?_;rintro⟨i,n⟩ hp nx1 ⟨hi,hnx,hdm,hsm,hto⟩;generalize hQ:bB _ _ _ _ _=Q0;dsimp only at hi hto;refine Zk ?_;have hle:=hsm.le hd (Kb _);rcases Ks i l.length with hlt|hge
 ·have hc:decide ((i:Int)<(l.length:Int))=true:=dct;have hw:IntKind.i64.wrap ((i:Int)+1)=((i+1:Nat):Int):=wrp;obtain⟨p,hpq⟩:∃p,l[i]=p:=⟨_,rfl⟩;have hg:(l.map TR.v).getD i (.tup [])=vls p.1 p.2:=by rw[aN TR.v l i hlt,hpq];rfl
  have hdr:aP (l.drop i)=p.2::aP (l.drop (i+1)):=by rw[Kg hlt,hpq];rfl
  rw[hdr,qI] at hto;by_cases aHJ:50<p.2.length
  ·have cl:decide ((50:Int)<(p.2.length:Int))=true:=dct;rw[if_pos aHJ] at hto;refine aue (e8 hc hw hg hlt (@jK TR V) (@jK Vl V) jG cl) ?_;rw[←hQ];refine au ?_;refine aC h' (lef hd hle) ⟨?_,rfl⟩;simp only[hto,go_sem,reduceIte,jA,jB,jC,jD,reduceCtorEq,jE,jF]
  have cl:decide ((50:Int)<(p.2.length:Int))=false:=dcf;rw[if_neg aHJ] at hto;refine aue (e8 hc hw hg hlt (@jK TR V) (@jK Vl V) jG cl) ?_;refine aQ (fun q:Nat×Int=>aD 32 0 [(3, .int .i64 q.2),(8,tps o l),(9, .int .i64 l.length),(10, .int .i64 i),(17,vls p.1 p.2),(18, .int .i64 p.2.length),(19, .int .i64 q.1)]) (fun q hp nx2=>q.1≤p.2.length∧nx≤nx2∧aV hp nx2∧Kj nx h' hp∧lu n p.2=lu q.2 (p.2.drop q.1)) (fun q=>p.2.length-q.1) (0,n) ⟨Kx _,hnx,hdm,hsm,rfl⟩ (by simp only[WkL,aD,jH,jI,jJ,go_sem,reduceIte,jA,jB,jC,jD,reduceCtorEq,jE,jF]) ?_;rintro⟨j,m⟩ hp2 nx2 ⟨hj,aGn,aGr,aPG,aEW⟩;generalize hQ2:bB _ _ _ _ _=Q2;dsimp only at hj aEW;refine Zk ?_;have aAS:=aPG.le hd (Kb _);rcases Ks j p.2.length with hlj|hgj
  ·have hcj:decide ((j:Int)<(p.2.length:Int))=true:=dct;have hwj:IntKind.i64.wrap ((j:Int)+1)=((j+1:Nat):Int):=wrp;have hgj:(p.2.map Vl.v).getD j (.tup [])= .agg [.int .i64 p.2[j].k, .int .i64 p.2[j].n, .str p.2[j].s]:=aN Vl.v p.2 j hlj;rw[Kg hlj,lu] at aEW;cases cb:decide (2000<IntKind.i64.wrap (m+(p.2[j].s.size:Int))) with
   |true=>
    rw[if_pos (of_decide_eq_true cb)] at aEW;rw[aEW] at hto;refine aue (e7 hcj hwj hgj hlj (@jK Vl V) jG cb) ?_;rw[←hQ2,←hQ];refine au ?_;refine aC h' (lef hd aAS) ⟨?_,rfl⟩;simp only[hto,go_sem,reduceIte,jA,jB,jC,jD,reduceCtorEq,jE,jF]
   |false=>
    rw[if_neg (of_decide_eq_false cb)] at aEW;refine aue (e7 hcj hwj hgj hlj (@jK Vl V) jG cb) ?_;rw[←hQ2];exact aF (j+1,_) Zw ⟨hlj,or,dmo aGr,kep aPG,aEW⟩ (by simp only[WkL,aD,jH,jI,jJ,hwj,go_sem,reduceIte,jA,jB,jC,jD,reduceCtorEq,jE,jF])
  have hcj:decide ((j:Int)<(p.2.length:Int))=false:=dcf;rw[Kq hgj,lu] at aEW;rw[aEW] at hto;dsimp only at hto;refine aue hcj ?_;rw[←hQ2];clear hQ2 Q2;refine aue hw ?_;rw[←hQ];exact aF (i+1,m) Zw ⟨hlt,or,aGr,aPG,hto⟩ (by simp only[WkL,aD,jH,jI,jJ,hw,go_sem,reduceIte,jA,jB,jC,jD,reduceCtorEq,jE,jF])
 have hc:decide ((i:Int)<(l.length:Int))=false:=dcf;rw[Kq hge] at hto;refine aue hc ?_;rw[←hQ];refine au ?_;refine aC h' (lef hd hle) ⟨?_,rfl⟩;rw[hto];rfl
theorem pf{a b:List Vl}:∀(i:Nat),a.take i=b.take i→i≤a.length→i≤b.length→cM a b=cM (a.drop i) (b.drop i):=fun i h h1 h2=>by
 conv=>lhs;rw[←Qf i a,←Qf i b,←h]
 clear h h1 h2;induction a.take i with
 |nil=>rfl
 |cons x l ih=>
  simp only[jP,cM,eI,orC,c3V.self,if_true];exact ih
theorem sO(o1 o2:Own)(a b:List Vl)(ha:a.length≤1000000000)(h:Hp):aL Tryz.prog 83 [vls o1 a,vls o2 b] h (.bool (pI a b)):=by
 refine aJ (fun L=>trivial) fun h' nx hh=>aB L.aYs fun hd=>?_;refine ZK ?_;refine au ?_;refine aQ (fun i:Nat=>aD 41 0 [(0,vls o1 a),(1,vls o2 b),(5, .int .i64 i)]) (fun i hp nx1=>i≤a.length∧i≤b.length∧nx≤nx1∧aV hp nx1∧Kj nx h' hp∧a.take i=b.take i) (fun i=>a.length-i) 0 ⟨Kx _,Kx _,Kp _,hd,Hp.same.aAz,rfl⟩ (by simp only[WkL,aD,jH,jI,jJ,go_sem,reduceIte,jA,jB,jC,jD,reduceCtorEq,jE,jF]) ?_;rintro i hp nx1 ⟨hi,hib,hnx,hdm,hsm,htk⟩;generalize hQ:bB _ _ _ _ _=Q0;refine Zk ?_;have hle:=hsm.le hd (Kb _);have hcm:=pf i htk hi hib;rcases Ks i a.length with hlt|hge
 ·have hc:decide ((i:Int)<(a.length:Int))=true:=dct;have hw:IntKind.i64.wrap ((i:Int)+1)=((i+1:Nat):Int):=wrp;rcases Ks i b.length with hlb|hgb
  ·have hc2:decide ((i:Int)<(b.length:Int))=true:=dct;have hg:=aN Vl.v a i hlt;have hg2:=aN Vl.v b i hlb;have hv:=ab a[i] b[i];have E:=e11 hc hc2 hw hg hg2 hv hlt hlb (@jK Vl V) jG Vl.aAD;cases he:decide (a[i]=b[i]) with
   |true=>
    have he':a[i]=b[i]:=of_decide_eq_true he;refine aue (e4 E he KH KD) ?_;rw[←hQ];exact aF (i+1) or ⟨hlt,hlb,or,dmo hdm,kep hsm,by rw[Kf hlt,Kf hlb,htk,he']⟩ (by simp only[WkL,aD,jH,jI,jJ,hw,go_sem,reduceIte,jA,jB,jC,jD,reduceCtorEq,jE,jF])
   |false=>
    have he':a[i]≠b[i]:=of_decide_eq_false he;have D1:=fun h=>qd a[i] b[i] h;refine aue (e4 E he KH KD) ?_;rw[←hQ];refine au ?_;refine aC h' (lef hd hle) ⟨?_,rfl⟩;have:pI a b=AP a[i] b[i]:=by
     unfold pI AP;rw[hcm,Kg hlt,Kg hlb];simp only[cM,eI,orC,if_neg (fun e=>he' ((c3V.eq _ _).1 e))]
    simp only[this,go_sem,reduceIte,jA,jB,jC,jD,reduceCtorEq,jE,jF]
  have hc2:decide ((i:Int)<(b.length:Int))=false:=dcf;have hl2:decide ((a.length:Int)<(b.length:Int))=false:=dcf;refine aue (e4 hc hc2 (@jK Vl V) hl2) ?_;rw[←hQ];refine aue (e2 (@jK Vl V) hl2) ?_;refine aC h' (lef hd hle) ⟨?_,rfl⟩;have:pI a b=false:=by
   unfold pI;rw[hcm,Kg hlt,Kq hgb];rfl
  simp only[this,go_sem,reduceIte,jA,jB,jC,jD,reduceCtorEq,jE,jF]
 have hc:decide ((i:Int)<(a.length:Int))=false:=dcf;have hia:i=a.length:=or;have:pI a b=decide ((a.length:Int)<(b.length:Int)):=by
  unfold pI;rw[hcm,hia,Wb];rcases Ks a.length b.length with k|k
  ·rw[Kg k,decide_eq_true (by omega:(a.length:Int)<b.length)];rfl
  rw[Kq k,decide_eq_false (by omega:¬(a.length:Int)<b.length)];rfl
 refine aue hc ?_;rw[←hQ];refine aue (@jK Vl V) ?_;refine aC h' (lef hd hle) ⟨?_,rfl⟩;simp only[this,go_sem,reduceIte,jA,jB,jC,jD,reduceCtorEq,jE,jF]
end Go.Proofs.YtlhedpgobaellaaGreatDoor
namespace Go.Proofs.YtlhedpgobaellaaGreatDoor
open Go.RowKit Go.Sort
theorem AS{α:Type}{c:α→α→Int}(h:C3 c){x:α}:∀{l:List α} {k:Nat},k≤l.length→(∀y∈l.take k,c y x<0)→(∀hk:k<l.length,¬c l[k] x<0)→x∉l→jR c x l=l.take k++x::l.drop k
 | [],k,hk,_,_,_=>by
  have:k=0:=by simpa using hk
  subst this;rfl
 |y::l,0,_,_,h2,h3=>by
  have h2:=h2 Zm;simp only[List.getElem_cons_zero] at h2;have hne:c y x≠0:=fun e=>h3 (by simp[(h.eq _ _).1 e]);rw[jR,if_pos (h.pos hne h2)];rfl
 |y::l,k+1,hk,h1,h2,h3=>by
  have hy:c y x<0:=h1 y Zm;have n1:¬c x y<0:=fun e=>by have:=(h.aBx _ _).1 e;omega
  have n2:c x y≠0:=fun e=>by rw[(h.eq _ _).1 e,h.self] at hy;omega
  rw[jR,if_neg n1,if_neg n2,AS h (k:=k) (by simpa using hk) (fun z hz=>h1 z (by simp[hz])) (fun hk=>by have:=h2 (by simpa using hk);simpa using this) (fun e=>h3 (by simp[e]))];rfl
structure Ae(l:List Vl)(i:Nat)(many sum:Int)(low high:Vl):Prop where
 many:many=(lK qU (l.take i)).length
 sum:sum=Gn (lK qU (l.take i))
 aWl:low∈l
 aWm:∀z∈l.take i,¬qU z low<0
 aPW:high∈l
 aPX:∀z∈l.take i,¬qU high z<0
theorem Ae.step{l:List Vl}{i:Nat}{many sum:Int}{low high:Vl}(f:Ae l i many sum low high)(hi:i<l.length):
 Ae l (i+1) (if l[i]∈l.take i then many else many+1) (if l[i]∈l.take i then sum else sum+l[i].n) (if decide (qU l[i] low<0)=true then l[i] else low) (if decide (qU high l[i]<0)=true then l[i] else high):=by
 have h1:=DG c3V hi f.aWl f.aWm;have h2:=B6 c3V hi f.aPW f.aPX;refine⟨?_,?_,h1.1,h1.2,h2.1,h2.2⟩
 ·rw[Kf hi,Bn c3V,f.many];split<;>simp
 rw[Kf hi,Bh,f.sum];split<;>simp
end Go.Proofs.YtlhedpgobaellaaGreatDoor
namespace Go.Proofs.YtlhedpgobaellaaGreatDoor
open Go.RowKit Go.Sort
attribute [local irreducible] KS
theorem Fw:aE Tryz.prog 175=some (LB.aAX (.agg 3)):=Zz
theorem Fz:aE Tryz.prog 113=some (LB.ContainsFunc (.agg 3) 175):=Zz
theorem nj(x:Vl)(h:Hp):aL Tryz.prog 112 [x.v] h (.bool (!bK x)):=by
 refine aJ (fun L=>trivial) fun h' nx hh=>aB L.aYc fun hd=>?_;have C1:=fun h=>iG x h;have hf:=Vl.aAD x;generalize x.v=X at*;simp only[Qy,QB,QQ,QR,Qo,Qp,Qz,KX,Kc];refine aue hf ?_;exact aC h' (leo hd) ⟨rfl,rfl⟩
theorem ip(o:Own)(l:List Vl)(hl:l.length≤1000000000)(h:Hp):aL Tryz.prog 64 [vls o l] h (.bool (decide (l.length≤6)&&l.all bK)):=by
 refine aJ (fun L=>trivial) fun h' nx hh=>aB L.aY0 fun hd=>?_;have C1:=fun h=>gI Vl.v (fun _=>Vl.aAD _) Fz Fw (fun x=> !bK x) o l 112 [] h (fun x _=>nj x h) hl;have ha:(!l.any fun x=> !bK x)=l.all bK:=by rw[List.not_any_eq_all_not];simp
 simp only[Qy,QB,QQ,QR,Qo,Qp,Qz,KX,Kc];by_cases h6:l.length≤6
 ·have g:decide ((l.length:Int)≤6)=true:=dct;rw[decide_eq_true h6];refine aue (e3 g (@Qj Vl V) ha) ?_;exact aC h' (leo hd) ⟨rfl,rfl⟩
 have g:decide ((l.length:Int)≤6)=false:=dcf;rw[decide_eq_false h6];refine aue (e2 g (@Qj Vl V)) ?_;exact aC h' (leo hd) ⟨rfl,rfl⟩
end Go.Proofs.YtlhedpgobaellaaGreatDoor
namespace Go.Proofs.YtlhedpgobaellaaGreatDoor
open Go.RowKit Go.Sort
attribute [local irreducible] KS
theorem bz(o1 o2:Own)(a b:List TR)(ha:a.length≤1000000000)(hr:∀p∈a,p.2.length≤1000000000)(h:Hp):aL Tryz.prog 18 [tps o1 a,tps o2 b] h (.bool (decide (aP a=aP b))):=by
 refine aJ (fun L=>trivial) fun h' nx hh=>aB L.aZ0 fun hd=>?_;refine ZK ?_;by_cases hl:a.length=b.length
 ·have cl:((a.length:Int) != (b.length:Int))=false:=bnf;refine aue (e2 cl (@jK TR V)) ?_;refine aQ (fun i:Nat=>aD 27 0 [(0,tps o1 a),(1,tps o2 b),(12, .int .i64 a.length),(13, .int .i64 i)]) (fun i hp nx1=>i≤a.length∧nx≤nx1∧aV hp nx1∧Kj nx h' hp∧aP (a.take i)=aP (b.take i)) (fun i=>a.length-i) 0 ⟨Kx _,Kp _,hd,Hp.same.aAz,rfl⟩ (by simp only[WkL,aD,jH,jI,jJ,go_sem,reduceIte,jA,jB,jC,jD,reduceCtorEq,jE,jF]) ?_;rintro i hp nx1 ⟨hi,hnx,hdm,hsm,htk⟩;generalize hQ:bB _ _ _ _ _=Q0;refine Zk ?_;rcases Ks i a.length with hlt|hge
  ·have hc:decide ((i:Int)<(a.length:Int))=true:=dct;have hw:IntKind.i64.wrap ((i:Int)+1)=((i+1:Nat):Int):=wrp;have hlb:i<b.length:=or;have hg:(a.map TR.v).getD i (.tup [])=vls a[i].1 a[i].2:=aN TR.v a i hlt;have hg2:(b.map TR.v).getD i (.tup [])=vls b[i].1 b[i].2:=aN TR.v b i hlb;have D1:=fun h=>sD a[i].1 b[i].1 a[i].2 b[i].2 (hr _ (KB _)) h;have E:=e8 hc hw hg hg2 hlt hlb (@jK TR V) jG;cases he:decide (a[i].2=b[i].2) with
   |true=>
    rw[he] at D1;have he':a[i].2=b[i].2:=of_decide_eq_true he;refine aue (e3 E KH KD) ?_;rw[←hQ];exact aF (i+1) or ⟨hlt,or,dmo hdm,kep hsm,by
     rw[Kf hlt,Kf hlb];simp only[aP,Wh,KW,QS,he'] at htk⊢;rw[htk]⟩ (by simp only[WkL,aD,jH,jI,jJ,hw,go_sem,reduceIte,jA,jB,jC,jD,reduceCtorEq,jE,jF])
   |false=>
    rw[he] at D1;have he':a[i].2≠b[i].2:=of_decide_eq_false he;refine aue (e3 E KH KD) ?_;rw[←hQ];refine au ?_;refine aC h' (lef hd (hsm.le hd (Kb _))) ⟨?_,rfl⟩;have:aP a≠aP b:=fun e=>he' (by
     have h1:(aP a)[i]'(by simpa using hlt)=a[i].2:=Zm;have h2:(aP b)[i]'(by simpa using hlb)=b[i].2:=Zm;rw[←h1,←h2];congr 1)
    simp only[go_sem,reduceIte,jA,jB,jC,jD,reduceCtorEq,jE,jF];rw[decide_eq_false this]
  have hc:decide ((i:Int)<(a.length:Int))=false:=dcf;refine aue hc ?_;rw[←hQ];refine au ?_;refine aC h' (lef hd (hsm.le hd (Kb _))) ⟨?_,rfl⟩;have:aP a=aP b:=by rw[Kv or,Kv or] at htk;exact htk
  simp only[go_sem,reduceIte,jA,jB,jC,jD,reduceCtorEq,jE,jF];rw[decide_eq_true this]
 have cl:((a.length:Int) != (b.length:Int))=true:=bnt;refine aue (e2 cl (@jK TR V)) ?_;refine aC h' (leo hd) ⟨?_,rfl⟩;have:aP a≠aP b:=fun e=>hl (by have:=congrArg QY e;simpa using this);simp only[go_sem,reduceIte,jA,jB,jC,jD,reduceCtorEq,jE,jF];rw[decide_eq_false this]
namespace LB
abbrev aBZ(k:Sh):List aA:=[
 ⟨some 4,none, .val (.move (.const (.sl k .nil [])))⟩]
abbrev aBY:List aA:=[
 ⟨some 8,none, .val (.move (.slot 0))⟩,
 ⟨some 9,none, .val (.len (.slot 8))⟩,
 ⟨some 10,none, .val (.bin .lss (.slot 9) (.const (.int .i64 2)))⟩]
abbrev aBX:List aA:=[
 ⟨some 11,none, .val (.move (.slot 0))⟩,
 ⟨some 4,none, .val (.move (.slot 11))⟩]
abbrev aBW:List aA:=[
 ⟨some 5,none, .val (.move (.const (.int .i64 1)))⟩]
abbrev aBV:List aA:=[
 ⟨some 12,none, .val (.move (.slot 5))⟩,
 ⟨some 13,none, .val (.move (.slot 0))⟩,
 ⟨some 14,none, .val (.len (.slot 13))⟩,
 ⟨some 15,none, .val (.bin .lss (.slot 12) (.slot 14))⟩]
abbrev aBU(k:Sh):List (aA×List Nat):=[
 (⟨some 18,none, .val (.move (.slot 1))⟩,[]),
 (⟨some 19,none, .val (.move (.slot 0))⟩,[]),
 (⟨some 20,none, .val (.move (.slot 5))⟩,[]),
 (⟨some 21,none, .val (.idxA k (.slot 19) (.slot 20))⟩,[1,2]),
 (⟨some 22,none, .val (.load k (.slot 21))⟩,[1,2,3]),
 (⟨some 23,none, .val (.move (.slot 0))⟩,[]),
 (⟨some 24,none, .val (.move (.slot 5))⟩,[]),
 (⟨some 25,none, .val (.bin .sub (.slot 24) (.const (.int .i64 1)))⟩,[6]),
 (⟨some 26,none, .val (.idxA k (.slot 23) (.slot 25))⟩,[5,6,7]),
 (⟨some 27,none, .val (.load k (.slot 26))⟩,[5,6,7,8]),
 (⟨some 28,none, .callv (.slot 18) [(.slot 22),(.slot 27)]⟩,[0,1,2,3,4,5,6,7,8,9])]
abbrev aBE:List aA:=[]
abbrev aBT(k:Sh):List aA:=[
 ⟨some 29,none, .val (.move (.slot 0))⟩,
 ⟨some 30,none, .val (.move (.slot 5))⟩,
 ⟨some 31,none, .val (.slc k (.slot 29) (.some (.slot 30)) .none .none)⟩,
 ⟨some 6,none, .val (.move (.slot 31))⟩]
abbrev aBS:List aA:=[
 ⟨some 7,none, .val (.move (.const (.int .i64 1)))⟩]
abbrev aBR:List aA:=[
 ⟨some 32,none, .val (.move (.slot 7))⟩,
 ⟨some 33,none, .val (.move (.slot 6))⟩,
 ⟨some 34,none, .val (.len (.slot 33))⟩,
 ⟨some 35,none, .val (.bin .lss (.slot 32) (.slot 34))⟩]
abbrev aBQ(k:Sh):List (aA×List Nat):=[
 (⟨some 38,none, .val (.move (.slot 1))⟩,[]),
 (⟨some 39,none, .val (.move (.slot 6))⟩,[]),
 (⟨some 40,none, .val (.move (.slot 7))⟩,[]),
 (⟨some 41,none, .val (.idxA k (.slot 39) (.slot 40))⟩,[1,2]),
 (⟨some 42,none, .val (.load k (.slot 41))⟩,[1,2,3]),
 (⟨some 43,none, .val (.move (.slot 6))⟩,[]),
 (⟨some 44,none, .val (.move (.slot 7))⟩,[]),
 (⟨some 45,none, .val (.bin .sub (.slot 44) (.const (.int .i64 1)))⟩,[6]),
 (⟨some 46,none, .val (.idxA k (.slot 43) (.slot 45))⟩,[5,6,7]),
 (⟨some 47,none, .val (.load k (.slot 46))⟩,[5,6,7,8]),
 (⟨some 48,none, .callv (.slot 38) [(.slot 42),(.slot 47)]⟩,[0,1,2,3,4,5,6,7,8,9]),
 (⟨some 49,none, .val (.not (.slot 48))⟩,[0,1,2,3,4,5,6,7,8,9,10])]
abbrev aBD:List aA:=[]
abbrev aBL(k:Sh):List aA:=[
 ⟨some 50,none, .val (.move (.slot 0))⟩,
 ⟨some 51,none, .val (.move (.slot 5))⟩,
 ⟨some 52,none, .val (.move (.slot 6))⟩,
 ⟨some 53,none, .val (.move (.slot 7))⟩,
 ⟨some 54,none, .val (.idxA k (.slot 52) (.slot 53))⟩,
 ⟨some 55,none, .val (.load k (.slot 54))⟩,
 ⟨some 56,none, .val (.idxA k (.slot 50) (.slot 51))⟩,
 ⟨none,none, .store k (.slot 56) (.slot 55)⟩]
abbrev aBK:List aA:=[
 ⟨some 57,none, .val (.move (.slot 5))⟩,
 ⟨some 58,none, .val (.bin .add (.slot 57) (.const (.int .i64 1)))⟩,
 ⟨some 5,none, .val (.move (.slot 58))⟩]
abbrev aBJ:List aA:=[
 ⟨some 36,none, .val (.move (.slot 7))⟩,
 ⟨some 37,none, .val (.bin .add (.slot 36) (.const (.int .i64 1)))⟩,
 ⟨some 7,none, .val (.move (.slot 37))⟩]
abbrev aBb(k:Sh):aS:=(.seq (.seq (.ops aBR) (.cond (.slot 35) .skip (.exit 2))) (.seq (.block 3 (.seq (.draw 12 (aBQ k) aBD) (.cond (.slot 49) (.seq (.ops (aBL k)) (.ops aBK)) .skip))) (.ops aBJ)))
abbrev aBI(k:Sh)(z:V):List aA:=[
 ⟨some 59,none, .val (.move (.slot 0))⟩,
 ⟨some 60,none, .val (.move (.slot 5))⟩,
 ⟨some 61,none, .val (.slc k (.slot 59) (.some (.slot 60)) .none .none)⟩,
 ⟨none,none, .clear k (.slot 61) z⟩]
abbrev aBH(k:Sh):List aA:=[
 ⟨some 62,none, .val (.move (.slot 0))⟩,
 ⟨some 63,none, .val (.move (.slot 5))⟩,
 ⟨some 64,none, .val (.slc k (.slot 62) .none (.some (.slot 63)) .none)⟩,
 ⟨some 4,none, .val (.move (.slot 64))⟩]
abbrev aBG:List aA:=[
 ⟨some 16,none, .val (.move (.slot 5))⟩,
 ⟨some 17,none, .val (.bin .add (.slot 16) (.const (.int .i64 1)))⟩,
 ⟨some 5,none, .val (.move (.slot 17))⟩]
abbrev aBa(k:Sh)(z:V):aS:=(.seq (.seq (.ops aBV) (.cond (.slot 15) .skip (.exit 0))) (.seq (.block 1 (.seq (.draw 11 (aBU k) aBE) (.cond (.slot 28) (.seq (.ops (aBT k)) (.seq (.seq (.ops aBS) (.block 2 (.loop (aBb k)))) (.seq (.ops (aBI k z)) (.seq (.ops (aBH k)) .ret)))) .skip))) (.ops aBG)))
abbrev aBF:List aA:=[
 ⟨some 65,none, .val (.move (.slot 0))⟩,
 ⟨some 4,none, .val (.move (.slot 65))⟩]
def aAr(k:Sh)(z:V):LFn:=⟨(.seq (.ops (aBZ k)) (.seq (.seq (.ops aBY) (.cond (.slot 10) (.seq (.ops aBX) .ret) .skip)) (.seq (.seq (.ops aBW) (.block 0 (.loop (aBa k z)))) (.seq (.ops aBF) .ret)))),66,[.slot 4]⟩
end LB
section
variable{P:Program}{α:Type} [Inhabited α](e:α→V){k:Sh}{z:V}
theorem tT(ds:List α)(j:Nat)(h1:0<j)(h2:j<ds.length):ds.take (j+1)=ds.take (j-1)++[ds[j-1],ds[j]]∧ds.take j=ds.take (j-1)++[ds[j-1]]:=by
 have e1:ds.take j=ds.take (j-1)++[ds[j-1]]:=by
  have:=Kf (i:=j-1) (l:=ds) or;rwa [show j-1+1=j by omega] at this
 refine⟨?_,e1⟩;rw[Kf h2,e1,Kw];rfl
theorem u6{p:α→α→Bool}(ds:List α)(j:Nat)(h1:0<j)(h2:j<ds.length)(he:p ds[j] ds[j-1]=true):cpt p (ds.take (j+1))=cpt p (ds.take j):=by
 rw[(tT ds j h1 h2).1,(tT ds j h1 h2).2,u5,if_pos he,Qi]
theorem AY{p:α→α→Bool}(ds:List α)(j:Nat)(h1:0<j)(h2:j<ds.length)(he:p ds[j] ds[j-1]=false):cpt p (ds.take (j+1))=cpt p (ds.take j)++[ds[j]]:=by
 rw[(tT ds j h1 h2).1,(tT ds j h1 h2).2,u5,if_neg (by simp[he])]
theorem ft{f:Nat}(hL:aE P f=some (LB.aAr k z))(hz:z.fits k=true)(hfit:∀x,(e x).fits k=true)(g:Nat)(caps:List V)(p:α→α→Bool)(hc0:Hp)(n:Nat)(ds:List α)
 (hp0:∀x∈ds,∀y∈ds,aL P g ([e x,e y]++caps) hc0 (.bool (p x y))) (hlen:ds.length≤1000000) (h:Hp) (nx:Nat) (hh:hc0.has h) (hcn:hc0 n=none) (hn:h n=some (.arr k (ds.map e))):
 aR P f [.rs n k 0 ds.length, .fn (.func g) [] caps] h nx fun v h' _=>∃es m,v= .rs n k 0 m∧m≤es.length∧h'=h.set n (.arr k es)∧es.take m=(cpt p ds).map e:=by
 have aFM:h.set n (.arr k (ds.map e))=h:=by
  funext x;unfold Ka;split
  ·rename_i hx;rw[hx,hn]
  rfl
 have aAZ:cpt p ds=ds→∃es m,V.rs n k 0 ds.length= .rs n k 0 m∧m≤es.length∧h=h.set n (.arr k es)∧es.take m=(cpt p ds).map e:=fun hc=>
  ⟨ds.map e,ds.length,rfl,Zm,aFM.symm,by rw[hc];exact Kv Zm⟩
 have xJ:∀H:Hp,(∀x,x≠n→H x=h x)→hc0.has H:=fun H hH m b e hb=>by
  have:m≠n:=by rintro rfl;rw[hcn] at e;cases e
  rw[hH m this];exact hh m b e hb
 have hpp:∀i j (hi:i<ds.length) (hj:j<ds.length),aL P g ([e ds[i],e ds[j]]++caps) hc0 (.bool (p ds[i] ds[j])):=fun i j hi hj=>hp0 _ (KB _) _ (KB _);clear hp0;refine aB hL fun hd=>?_;refine ZK ?_;rcases Ks ds.length 2 with h2|h2
 ·have hc:decide ((ds.length:Int)<2)=true:=dct;refine aue hc ?_;refine aC h (Kb _) ?_;refine Zn ?_;refine aAZ ?_;match ds,h2 with
  | [],_=>rfl
  | [x],_=>rfl
 have hc:decide ((ds.length:Int)<2)=false:=dcf;refine aue hc ?_;refine aQ (fun i:Nat=>aD 66 0 [(0, .rs n k 0 ds.length),(1, .fn (.func g) [] caps),(5, .int .i64 i)]) (fun i hp _=>1≤i∧i≤ds.length∧hp=h∧cpt p (ds.take i)=ds.take i) (fun i=>ds.length-i) 1 ⟨Kp _,or,rfl,?_⟩ ?_ ?_
 ·match ds,h2 with
  |x::l,_=>rfl
 ·simp only[WkL,aD,jH,jI,jJ,go_sem,reduceIte,jA,jB,jC,jD,reduceCtorEq,jE,jF]
 rintro i hp nx1 ⟨hi1,hi,rfl,hcs⟩;generalize hQ:bB _ _ _ _ _=Q0;refine Zk ?_;rcases Ks i ds.length with hlt|hge
 ·have hc:decide ((i:Int)<(ds.length:Int))=true:=dct;have hg:=aN e ds i hlt;have hg1:=aN e ds (i-1) or;have hw1:IntKind.i64.wrap ((i:Int)-1)=((i-1:Nat):Int):=wrp;have hw:IntKind.i64.wrap ((i:Int)+1)=((i+1:Nat):Int):=wrp;have aCD:i-1<ds.length:=or;have hne:(i=ds.length)=False:=eq_false or;have hq:=hpp i (i-1) hlt aCD;refine aue (e11 hc hg hg1 hw1 hw hlt aCD hn hne hfit (e2 (@jK α V) jG)) ?_;refine fk rfl hq rfl (xJ _ fun _ _=>rfl) ?_;refine Zn ?_;cases hx:p ds[i] ds[i-1] with
  |true=>
   refine aue (e11 hc hg hg1 hw1 hw hlt aCD hn hne hfit (e2 (@jK α V) jG)) ?_
   refine aQ (fun q:Nat×Nat×List α=>aD 66 0 [(0, .rs n k 0 ds.length),(1, .fn (.func g) [] caps),(5, .int .i64 q.1),(6, .rs n k i (ds.length-i)),(7, .int .i64 q.2.1)])
    (fun q hp2 _=>i≤q.1∧q.1+1≤i+q.2.1∧1≤q.2.1∧i+q.2.1≤ds.length∧q.2.2.length=ds.length∧q.2.2.take q.1=cpt p (ds.take (i+q.2.1))∧q.2.2.drop q.1=ds.drop q.1∧hp2 n=some (.arr k (q.2.2.map e))∧∀x,x≠n→hp2 x=hp x)
    (fun q=>ds.length-q.2.1) (i,1,ds) ⟨Kp _,Kp _,Kp _,Zw,rfl,?_,rfl,hn,fun _ _=>rfl⟩ ?_ ?_
   ·dsimp only;rw[u6 ds i or hlt hx,hcs]
   ·simp only[WkL,aD,jH,jI,jJ,go_sem,reduceIte,jA,jB,jC,jD,reduceCtorEq,jE,jF]
   rintro⟨m,k2,xs⟩ hp2 nx2 ⟨a1,a2,a3,a4,a5,a6,a7,a8,a9⟩;generalize hQ2:bB _ _ _ _ _=Q2;dsimp only at a1 a2 a3 a4 a5 a6 a7 a8;refine Zk ?_;have hat:∀j,m≤j→(hj:j<ds.length)→xs[j]'or=ds[j]:=fun j hm hj=>by
    have e1:xs[j]'or=(xs.drop m)[j-m]'(by simp;omega):=by simp[show m+(j-m)=j by omega]
    have e2:ds[j]=(ds.drop m)[j-m]'(by simp;omega):=by simp[show m+(j-m)=j by omega]
    rw[e1,e2];congr 1
   rcases Ks k2 (ds.length-i) with aOv|aVm
   ·have hcc:decide ((k2:Int)<((ds.length-i:Nat):Int))=true:=dct;have hj:i+k2<ds.length:=or;have hj1:i+k2-1<ds.length:=or;have g1:(xs.map e).getD (i+k2) (.tup [])=e ds[i+k2]:=by rw[aN e xs (i+k2) or,hat _ or hj]
    have g2:(xs.map e).getD (i+(k2-1)) (.tup [])=e ds[i+k2-1]:=by
     rw[aN e xs (i+(k2-1)) or];rw[show e xs[i+(k2-1)]=e (xs[i+k2-1]'or) by congr 2;omega,hat _ or or]
    have w1:IntKind.i64.wrap ((k2:Int)-1)=((k2-1:Nat):Int):=wrp;have w2:IntKind.i64.wrap ((k2:Int)+1)=((k2+1:Nat):Int):=wrp;have w3:IntKind.i64.wrap ((m:Int)+1)=((m+1:Nat):Int):=wrp;have b1:i+(k2-1)<ds.length:=or;have b2:k2-1<ds.length-i:=or;have b3:m<ds.length:=or;have hq2:=hpp (i+k2) (i+k2-1) hj hj1;have E:=e14 hcc g1 g2 w1 w2 w3 hj b1 b2 b3 aOv a8 a5 (e3 hfit (@jK α V) jG);refine aue E ?_;refine fk rfl hq2 rfl (xJ _ a9) ?_;refine Zn ?_;cases hy:p ds[i+k2] ds[i+k2-1] with
    |false=>
     refine aue (e3 E KD KH) ?_;rw[←hQ2];refine aF (m+1,k2+1,xs.set m ds[i+k2]) Zw ⟨Zw,Zw,Zw,Zw,by simpa using a5,?_,?_,?_,?_⟩ ?_
     ·dsimp only;rw[show i+(k2+1)=(i+k2)+1 by omega,AY ds (i+k2) or hj hy,←a6,Kf (by simp;omega),List.getElem_set_self,List.take_set_of_le (Kp _)]
     ·dsimp only;rw[List.drop_set_of_lt or];have:=congrArg (List.drop 1) a7;rwa [QL,QL] at this
     ·refine Zn ?_;rw[List.map_set,aN e xs m or,lW (hfit _) (hfit _)]
     ·intro x hx;simp only[hx,go_sem,reduceIte,jA,jB,jC,jD,reduceCtorEq,jE,jF];exact a9 x hx
     simp only[WkL,aD,jH,jI,jJ,w2,go_sem,reduceIte,jA,jB,jC,jD,reduceCtorEq,jE,jF]
    |true=>
     refine aue (e3 E KD KH) ?_;rw[←hQ2];refine aF (m,k2+1,xs) Zw ⟨a1,Zw,Zw,Zw,a5,?_,a7,a8,a9⟩ ?_
     ·dsimp only;rw[show i+(k2+1)=(i+k2)+1 by omega,u6 ds (i+k2) or hj hy,a6]
     simp only[WkL,aD,jH,jI,jJ,w2,go_sem,reduceIte,jA,jB,jC,jD,reduceCtorEq,jE,jF]
   have hcc:decide ((k2:Int)<((ds.length-i:Nat):Int))=false:=dcf;have aCL:i+k2=ds.length:=or;rw[aCL,KI] at a6;have hm1:m<ds.length:=or;have hml:(m=ds.length)=False:=eq_false or;refine aue hcc ?_;rw[←hQ2];refine aue (ee5 hml hm1 a8 a5 hz) ?_;rw[←hQ];refine au ?_;refine aC _ (Kb _) ⟨(xs.map e).take m++Ki (ds.length-m) z++(xs.map e).drop (m+(ds.length-m)),m,?_,?_,?_,?_⟩
   ·simp only[QT,go_sem,reduceIte,jA,jB,jC,jD,reduceCtorEq,jE,jF]
   ·simp;omega
   ·funext x;by_cases hx:x=n
    ·subst hx;simp only[go_sem,reduceIte,jA,jB,jC,jD,reduceCtorEq,jE,jF]
    simp only[hx,go_sem,reduceIte,jA,jB,jC,jD,reduceCtorEq,jE,jF];exact a9 x hx
   rw[Kw,KF (by simp;omega),Wi,Nat.min_self,←List.map_take,a6]
  |false=>
   refine aue (e11 hc hg hg1 hw1 hw hlt aCD hn hne hfit (e2 (@jK α V) jG)) ?_;rw[←hQ];refine aF (i+1) or ⟨or,or,rfl,?_⟩ ?_
   ·rw[AY ds i or hlt hx,hcs,←Kf hlt]
   simp only[WkL,aD,jH,jI,jJ,hw,go_sem,reduceIte,jA,jB,jC,jD,reduceCtorEq,jE,jF]
 have hc:decide ((i:Int)<(ds.length:Int))=false:=dcf;refine aue hc ?_;rw[←hQ];refine au ?_;refine aC hp (Kb _) ?_;refine Zn ?_;refine aAZ ?_;rw[show i=ds.length by omega,KI] at hcs;exact hcs
end
end Go.Proofs.YtlhedpgobaellaaGreatDoor
namespace Go.Proofs.YtlhedpgobaellaaGreatDoor
open Go.RowKit Go.Sort Go.Shelf Go.Lib
theorem hZ{α:Type} [Inhabited α](enc:α→Value)(w:World)(blk off m:Nat)(dk:Array α)(os:Array Obj)(b:Nat)(hb:b<w.heap.size)(hne:b≠blk):(sortWorld enc w blk off m dk os).heap[b]?=w.heap[b]?:=by
 unfold sortWorld putRow mapBlock grow;simp only[heap_ahead];rw[KJ (by simpa using hb),QG,if_neg (fun e=>hne e.symm)]
theorem pT{α:Type} [Inhabited α](enc:α→Value)(w:World)(blk off m:Nat)(dk:Array α)(os:Array Obj):w.heap.size≤(sortWorld enc w blk off m dk os).heap.size:=by
 unfold sortWorld putRow mapBlock grow;simp only[heap_ahead,QW,Array.size_modify];omega
theorem sA{α:Type} [Inhabited α](enc:α→Value)(w:World)(blk off m:Nat)(dk:Array α)(os:Array Obj){c:Array Value}{T:TypeId}{fr:Nat×Nat}(hh:w.heap[blk]?=some (.cells c T fr)):∃c':Array Value,(sortWorld enc w blk off m dk os).heap[blk]?=some (.cells c' T fr)∧c'.size=c.size:=by
 have hb:blk<w.heap.size:=by
  rcases Ks blk w.heap.size with hlt|hge
  ·exact hlt
  rw[QC hge] at hh;exact absurd hh Zm
 refine⟨putCells enc off dk c,?_,by simp[putCells]⟩;unfold sortWorld putRow mapBlock grow;simp only[heap_ahead];rw[KJ (by simpa using hb),QG,if_pos rfl,hh];rfl
theorem vJ{K:Ker}{α:Type} [Inhabited α](enc:α→Value)(blk off m:Nat)(dk:Array α)(os:Array Obj){c:Array Value}{T:TypeId}(hh:K.w.heap[blk]?=some (.cells c T (0,0)))(hf:¬K.fro blk)(hi:K.imm blk=0):
 K.le {K with w:=sortWorld enc K.w blk off m dk os} where
 live _ hn:=hn
 mu _ _:=rfl
 tp _ _:=rfl
 fro:=rfl
 imm _ _:=Kp _
 cell b o hb hst:=by
  have hne:b≠blk:=by
   rintro rfl;rcases hst with h|h
   ·exact hf h
   omega
  exact gJ (hZ enc K.w blk off m dk os b hb hne)
 shape b hb:=by
  by_cases e:b=blk
  ·subst e;obtain⟨c',h1,h2⟩:=sA enc K.w b off m dk os hh;simp only[QF,h1,hh,h2]
  simp only[QF,hZ enc K.w blk off m dk os b hb e]
 below:=⟨rfl,rfl,rfl,Nat.le_add_right _ _,pT enc K.w blk off m dk os,fun b hb hF=>hZ enc K.w blk off m dk os b hb (fun e=>hF.elim (fun hF=>hf (e▸hF)) fun hm=>by subst e;unfold fZ at hm;rw[hh] at hm;cases hm)⟩
theorem xd{P:Program}{ρ:Ren}(L:SlLaysF.n6 P ρ)(hen:kF P (ρ.f 6)=true)
 {δ:Type} (e:δ→V) (hfit:∀d,(e d).fits .leaf=true) (cf:δ→δ→Int) (hO:SWO (ltOf cf)) (g:Nat) (caps:List V) (aVu:∀x y,aL P g ([e x,e y]++caps) Kz (.int .i64 (cf x y)))
 (n:Nat) (ds:List δ) (hne:ds≠ []) (h:Hp) (nx:Nat) (hn:h n=some (.arr .leaf (ds.map e))) (hlen:ds.length<4611686018427387904):
 aR P (ρ.f 6) [.rs n .leaf 0 ds.length, .fn (.func g) [] caps] h nx fun v h' nx'=>v= .tup []∧nx'=nx∧∃ds':List δ,ds'.Perm ds∧ic cf ds'∧h'=h.set n (.arr .leaf (ds'.map e)):=by
 refine⟨hen,fun K cargs hlv hr hv=>?_⟩;obtain⟨hsz,hv⟩:=hv;have hsz:cargs.size=2:=by simpa using hsz.symm
 obtain⟨c1,c2,rfl⟩:∃c1 c2,cargs=#[c1,c2]:=⟨cargs[0],cargs[1],by
  apply Wl
  ·simp[hsz]
  intro i h1 h2;have:i=0∨i=1:=by simp at h2;omega
  rcases this with rfl|rfl<;>rfl⟩
 have v1:=hv 0 Zm;have v2:=hv 1 Zm;have hb:=hr.blk n _ hn;have aVn:=hr.base n _ hn;cases hb with
 |arr _ _ c T hh hcs himm hfit' hcv=>
  have v1:VR K (.rs n .leaf 0 ds.length) c1:=v1;have v2:VR K (.fn (.func g) [] caps) c2:=v2;cases v1 with
  |rs _ _ _ _ cap hl hcap hm=>
   cases v2 with
   |fn _ _ _ cfirst ccap q1 q2 w1 w2=>
    have hcf:cfirst=#[]:=by
     have:cfirst.size=0:=by simpa using q1.symm
     exact Array.eq_empty_of_size_eq_zero this
    subst hcf;have hcs:ds.length≤c.size:=by simpa [Kd] using hcs
    have hblk:K.mu n<K.w.heap.size:=by
     rcases Ks (K.mu n) K.w.heap.size with hlt|hge
     ·exact hlt
     rw[QC hge] at hh;exact absurd hh Zm
    let A:={p:δ×Value // VR K (e p.1) p.2}
    have hcell:∀i (hi:i<ds.length),VR K (e ds[i]) (c.getD i KN):=fun i hi=>by
     have h1:=hcv i (by simpa using hi) 0 (by simp[Kd]);simp only[Ke,Qe,Ky hi,Option.map_some,QX,Kd,KK,Qb] at h1;rwa [gK (by simpa [Kh] using hfit ds[i])] at h1
    have aAh:0<ds.length:=List.length_pos_iff.2 hne
    haveI:Inhabited A:=⟨⟨(ds[0],c.getD 0 KN),hcell 0 aAh⟩⟩
    let d:Array A:=Array.ofFn fun i:Fin ds.length=>(⟨(ds[i],c.getD i KN),hcell i i.2⟩:A)
    have hds:d.size=ds.length:=by simp[d]
    have hd:∀i (hi:i<ds.length),d[i]! =(⟨(ds[i],c.getD i KN),hcell i hi⟩:A):=fun i hi=>by
     rw[getElem!_pos d i (by rw[hds];exact hi)];simp[d]
    let enc:A→Value:=fun p=>p.1.2
    have h1:OneCell enc:=fun x=>x.2.aA6 (by simpa [Kh] using hfit x.1.1);have hH:Holds enc K.w (K.mu n) 0 d:=by
     intro j hj;rw[hds] at hj;constructor
     ·rw[hd _ hj];simp only[QM,hh,KG,enc,KY,KZ,if_false];rw[Kk,Qw or];rfl
     simp only[Wg,hh];simp
    have hC:CmpLays1 P g ccap enc (fun x y:A=>cf x.1.1 y.1.1) (K.mu n) 0 d.size K.w:=by
     intro m os dk _ x y;have hle:=vJ enc (K.mu n) 0 m dk os hh aVn himm;generalize hW:sortWorld enc K.w (K.mu n) 0 m dk os=W at hle⊢;have hp:=(aVu x.1.1 y.1.1) Kz nx (aH _);have up:∀{v cv},VR K v cv→VR {K with w:=W,fro:=fun b=>b<W.heap.size} v cv:=fun r=>VR.refro (K:={K with w:=W}) (fun b hb=>Nat.lt_of_lt_of_le (hr.size.lt b hb) (by rw[←hW];exact pT enc K.w _ _ m dk os)) (r.mono hle)
     have c:=hp.2 {K with w:=W,fro:=fun b=>b<W.heap.size} (#[enc x,enc y]++ccap) hlv ⟨(fun n b e=>by cases e),(fun n b e=>by cases e),(fun n b e=>by cases e),(fun n n' b b' e=>by cases e),((hr.size.keep hle).all)⟩
      ((show VRs _ [e x.1.1,e y.1.1] #[enc x,enc y] from⟨rfl,fun i hi=>by
        have:i=0∨i=1:=by simp at hi;omega
        rcases this with rfl|rfl
        ·exact up x.2
        exact up y.2⟩).append ⟨q2,fun i hi=>up (w2 i hi)⟩)
     refine c.mono ?_;rintro e' w' ⟨K',v,cv,h',nx',rfl,rfl,a1,a2,a3,a4,a5,rfl,rfl,rfl⟩;cases a2;exact⟨rfl,BX a1.below⟩
    have key:=Any.slices_SortFunc L enc h1 (fun x y:A=>cf x.1.1 y.1.1) (qx (fun x:A=>x.1.1) hO) g ccap (K.mu n) 0 cap d K.w (fun args w=>iT (aVu ds[0] ds[0] Kz 0 (aH _)).1 args w) hC hH hblk (by rw[hds];exact hlen);rw[hds] at key;have e0:(0:Nat)*Sh.leaf.size=0:=KQ _;rw[e0];refine key.mono ?_;rintro e' w' ⟨rfl,d',m,os,hp,hs,rfl⟩;obtain⟨hp1,_,hp3⟩:=hp;have hp1:d'.size=ds.length:=by rw[hp1,hds]
    have hle:=vJ enc (K.mu n) 0 m d' os hh aVn himm;have hH':=holds_sortWorld enc K.w (K.mu n) 0 m d d' os hblk hH (by rw[hp1,hds]);obtain⟨c',hh',hcz⟩:=sA enc K.w (K.mu n) 0 m d' os hh;refine⟨{K with w:=sortWorld enc K.w (K.mu n) 0 m d' os}, .tup [], .tuple #[],h.set n (.arr .leaf ((d'.toList.map fun x=>x.1.1).map e)),nx,rfl,rfl,hle, .tup [] #[] rfl (fun i hi=>absurd hi Zm),?_,fun m hm=>⟨hlv m hm, .inl hm⟩,Kp _,rfl,rfl,_,?_,?_,rfl⟩
    ·have aDw:∀m b,(h.set n (.arr .leaf ((d'.toList.map fun x=>x.1.1).map e))) m=some b→∃b',h m=some b':=fun m' b' e'=>by
      unfold Ka at e';split at e'
      ·rename_i em;subst em;exact⟨_,hn⟩
      exact⟨_,e'⟩
     refine⟨fun m' b' e'=>?_,fun m' b' e'=>?_,fun m' b' e'=>?_,fun m1 m2 b1 b2 e1 e2 em=>?_,hr.size.keep hle⟩
     ·obtain⟨b2,e2⟩:=aDw m' b' e';exact hr.lt m' b2 e2
     ·obtain⟨b2,e2⟩:=aDw m' b' e';exact hr.base m' b2 e2
     ·by_cases em:m'=n
      ·subst em;have eb:b'= .arr .leaf ((d'.toList.map fun x=>x.1.1).map e):=by simpa [Ka] using e'.symm
       subst eb;refine .arr _ _ c' T hh' (by
        have e0:((d'.toList.map fun x=>x.1.1).map e).length=ds.length:=by
         simp only[Qj,Qm];omega
        rw[hcz,e0];simpa [Kd] using hcs) himm (fun v hv=>?_) fun i hi j hj=>?_
       ·obtain⟨x,_,rfl⟩:=KT.1 hv;exact hfit x
       have hi:i<d'.size:=by simpa using hi
       have hj:j=0:=by simp[Kd] at hj;exact hj
       subst hj;obtain⟨g1,_⟩:=hH' i hi;simp only[QM,hh',KY,KZ,if_false,KG] at g1;have:=(d'[i]!).2.mono hle;have e1:(((d'.toList.map fun x=>x.1.1).map e).getD i Kc)=e (d'[i]!).1.1:=by
        rw[getElem!_pos d' i hi];simp[Ke,hi]
       rw[e1,gK (by simpa [Kh] using hfit _)];have e2:c'.getD (i*Sh.leaf.size+0) KN=(d'[i]!).1.2:=by
        show c'.getD (i*1+0) KN=_;rw[KK,Qb,Kk,g1];rfl
       rw[e2];exact this
      have e2:h m'=some b':=by unfold Ka at e';rw[if_neg em] at e';exact e'
      have hne:K.mu m'≠K.mu n:=fun e3=>em (hr.inj m' n _ _ e2 hn e3);exact(hr.blk m' b' e2).mono hle (hr.lt m' b' e2) (hZ enc K.w (K.mu n) 0 m d' os _ (hr.blk m' b' e2).lt_size hne) rfl
     obtain⟨b3,e3⟩:=aDw m1 b1 e1;obtain⟨b4,e4⟩:=aDw m2 b2 e2;exact hr.inj m1 m2 b3 b4 e3 e4 em
    ·have p:=hp3.map fun x:A=>x.1.1;have ex:∀(x:Array A),x.size=ds.length→x.extract 0 ds.length=x:=fun x hx=>by rw[←hx];simp
     rw[ex d' hp1,ex d hds] at p;have:d.toList.map (fun x:A=>x.1.1)=ds:=by
      apply List.ext_getElem
      ·simp[hds]
      intro i h1 h2;simp[d]
     rw[this] at p;exact p
    unfold ic;rw[QU,List.pairwise_iff_getElem];intro i j hi hj hij;have:=hs i j (Kx _) hij (by simpa [hp1] using hj);rw[getElem!_pos d' i (by simpa using hi),getElem!_pos d' j (by simpa using hj)] at this;simpa [ltOf] using this
end Go.Proofs.YtlhedpgobaellaaGreatDoor
namespace Go.Proofs.YtlhedpgobaellaaGreatDoor
open Go.RowKit Go.Sort Go.Shelf Go.Lib
theorem Cv{P:Program}{k:Sh}{f bs:Nat}(hL:aE P f=some (LB.aDp k bs))(hbs:bs≤140737)(own:Own)(es:List V)(hl:es.length≤1000000000)(hn:own≠ .nil)(hne:es≠ [])(h:Hp)(nx:Nat):
 aR P f [.sl k own es] h nx fun v h' _=>∃id,nx≤id∧v= .rs id k 0 es.length∧h'=h.set id (.arr k es):=by
 refine aB hL fun hd=>?_;refine ZK ?_;refine wl ?_;refine cY _ rfl (fun hc=>?_) (fun hc=>?_)
 ·exact absurd (by simpa using hc) hn
 have hb1:es.length*bs≤140737488355328:=oK hl hbs;repeat (first|with_reducible refine bG ?_|with_reducible refine bE ?_|with_reducible refine bV ?_|with_reducible refine aW ?_|with_reducible refine aT ?_|with_reducible refine bR ?_|with_reducible refine bN ?_)
 refine yZ Zm ?_;refine Zn ?_;refine lT 1 rfl (by simp only[go_sem,reduceIte,jA,jB,jC,jD,reduceCtorEq,jE,jF]) ?_;refine Zn ?_;refine pH (es:=[]) (ys:=es) rfl (by simp only[go_sem,reduceIte,jA,jB,jC,jD,reduceCtorEq,jE,jF]) Zm (by simp only[go_sem,reduceIte,jA,jB,jC,jD,reduceCtorEq,jE,jF]) hne (by simpa using hb1) ?_;refine Zn ?_;refine lT 1 rfl (by simp only[go_sem,reduceIte,jA,jB,jC,jD,reduceCtorEq,jE,jF]) ?_;refine Zn ?_;repeat (first|with_reducible refine bG ?_|with_reducible refine bE ?_|with_reducible refine bV ?_|with_reducible refine aW ?_|with_reducible refine aT ?_|with_reducible refine bR ?_|with_reducible refine bN ?_)
 refine dF (aC (h.set (nx+1) (.arr k es)) ?_ ⟨nx+1,or,?_,rfl⟩)
 ·intro m b e;have hm:∀b,h m=some b→m<nx:=fun b hb=>hd m b hb;simp only[Hp.aAM,Ku] at e⊢;split at e
  ·rename_i e1;rw[if_pos e1];exact e
  rename_i e1;have:=hm _ e;rw[if_neg e1,if_neg or,if_neg or];exact e
 simp only[go_sem,reduceIte,jA,jB,jC,jD,reduceCtorEq,jE,jF]
end Go.Proofs.YtlhedpgobaellaaGreatDoor
namespace Go.Proofs.YtlhedpgobaellaaGreatDoor
open Go.RowKit Go.Sort
attribute [local irreducible] KS
namespace LB
end LB
section
variable{P:Program}{α:Type} [Inhabited α](e:α→V){k:Sh}{z:V}
theorem pl{f:Nat}(hL:aE P f=some (LB.aAr k z))(fv:V)(h:Hp)(nx:Nat):aR P f [.sl k .nil [],fv] h nx fun v h' _=>v= .sl k .nil []∧h'=h:=by
 refine aB hL fun hd=>?_;simp only[Qy,QB,QQ,QR,Qo,Qp,Qz,KX,Kc];have hc:decide ((0:Int)<2)=true:=ZM;refine aue (e2 hc Int.natCast_zero) ?_;exact aC h (Kb _) ⟨rfl,rfl⟩
end
end Go.Proofs.YtlhedpgobaellaaGreatDoor
namespace Go.Proofs.YtlhedpgobaellaaGreatDoor
open Go.RowKit Go.Sort Go.Shelf Go.Lib
namespace LB
end LB
section
variable{P:Program}{α:Type}(e:α→V)(hfit:∀x,(e x).fits .leaf=true)
include hfit
end
end Go.Proofs.YtlhedpgobaellaaGreatDoor
namespace Go.Proofs.YtlhedpgobaellaaGreatDoor
open Go.Shelf
def xe:Go.Shelf.Ren:=⟨fun|6=>52|15=>98|14=>97|28=>153|29=>154|20=>145|21=>146|22=>147|23=>148|24=>149|25=>150|26=>151|27=>152|46=>208|47=>209|48=>210|49=>211|50=>212|57=>248|n=>n,fun|22=>69|24=>57|25=>145|3=>3|39=>84|0=>0|53=>261|55=>263|4=>4|46=>255|45=>254|50=>134|5=>5|9=>9|66=>315|70=>319|76=>345|77=>346|n=>n,fun|n=>n⟩
theorem Db:Go.Proofs.SlLaysF.n6 Tryz.prog xe:={
 mixed:=Zz
 f6:=⟨Tryz.f52.name,ZM,Tryz.func52.trans (congrArg some Zz)⟩
 f14:=⟨Tryz.f97.name,ZM,Tryz.func97.trans (congrArg some Zz)⟩
 f15:=Tryz.func98.trans (congrArg some Zz)
 f20:=⟨Tryz.f145.name,ZM,Tryz.func145.trans (congrArg some Zz)⟩
 f21:=⟨Tryz.f146.name,ZM,Tryz.func146.trans (congrArg some Zz)⟩
 f22:=⟨Tryz.f147.name,ZM,Tryz.func147.trans (congrArg some Zz)⟩
 f23:=⟨Tryz.f148.name,ZM,Tryz.func148.trans (congrArg some Zz)⟩
 f24:=⟨Tryz.f149.name,ZM,Tryz.func149.trans (congrArg some Zz)⟩
 f25:=⟨Tryz.f150.name,ZM,Tryz.func150.trans (congrArg some Zz)⟩
 f26:=⟨Tryz.f151.name,ZM,Tryz.func151.trans (congrArg some Zz)⟩
 f27:=⟨Tryz.f152.name,ZM,Tryz.func152.trans (congrArg some Zz)⟩
 f28:=Tryz.func153.trans (congrArg some Zz)
 f29:=Tryz.func154.trans (congrArg some Zz)
 f46:=⟨Tryz.f208.name,ZM,Tryz.func208.trans (congrArg some Zz)⟩
 f47:=Tryz.func209.trans (congrArg some Zz)
 f48:=Tryz.func210.trans (congrArg some Zz)
 f49:=⟨Tryz.f211.name,ZM,Tryz.func211.trans (congrArg some Zz)⟩
 f50:=⟨Tryz.f212.name,ZM,Tryz.func212.trans (congrArg some Zz)⟩
 f57:=⟨Tryz.f248.name,ZM,Tryz.func248.trans (congrArg some Zz)⟩
 t0:=Tryz.underlying0
 a0:=Tryz.isAgg0
 z0:=Tryz.sizeOf0
 v0:=Tryz.zeroValue0
 t3:=Tryz.underlying3
 a3:=Tryz.isAgg3
 z3:=Tryz.sizeOf3
 v3:=Tryz.zeroValue3
 t4:=Tryz.underlying4
 a4:=Tryz.isAgg4
 z4:=Tryz.sizeOf4
 v4:=Tryz.zeroValue4
 t5:=Tryz.underlying5
 a5:=Tryz.isAgg5
 z5:=Tryz.sizeOf5
 v5:=Tryz.zeroValue5
 t9:=Tryz.underlying9
 a9:=Tryz.isAgg9
 z9:=Tryz.sizeOf9
 v9:=Tryz.zeroValue9
 t22:=Tryz.underlying69
 a22:=Tryz.isAgg69
 z22:=Tryz.sizeOf69
 v22:=Tryz.zeroValue69
 a24:=Tryz.isAgg57
 z24:=Tryz.sizeOf57
 t25:=Tryz.underlying145
 a25:=Tryz.isAgg145
 z25:=Tryz.sizeOf145
 v25:=Tryz.zeroValue145
 t39:=Tryz.underlying84
 a39:=Tryz.isAgg84
 z39:=Tryz.sizeOf84
 v39:=Tryz.zeroValue84
 t45:=Tryz.underlying254
 a45:=Tryz.isAgg254
 z45:=Tryz.sizeOf254
 v45:=Tryz.zeroValue254
 t46:=Tryz.underlying255
 a46:=Tryz.isAgg255
 z46:=Tryz.sizeOf255
 v46:=Tryz.zeroValue255
 t50:=Tryz.underlying134
 a50:=Tryz.isAgg134
 z50:=Tryz.sizeOf134
 v50:=Tryz.zeroValue134
 t53:=Tryz.underlying261
 a53:=Tryz.isAgg261
 z53:=Tryz.sizeOf261
 v53:=Tryz.zeroValue261
 t55:=Tryz.underlying263
 a55:=Tryz.isAgg263
 z55:=Tryz.sizeOf263
 v55:=Tryz.zeroValue263
 t66:=Tryz.underlying315
 a66:=Tryz.isAgg315
 z66:=Tryz.sizeOf315
 v66:=Tryz.zeroValue315
 t70:=Tryz.underlying319
 a70:=Tryz.isAgg319
 z70:=Tryz.sizeOf319
 v70:=Tryz.zeroValue319
 t76:=Tryz.underlying345
 a76:=Tryz.isAgg345
 z76:=Tryz.sizeOf345
 v76:=Tryz.zeroValue345
 t77:=Tryz.underlying346
 a77:=Tryz.isAgg346
 z77:=Tryz.sizeOf346
 v77:=Tryz.zeroValue346}
end Go.Proofs.YtlhedpgobaellaaGreatDoor
namespace Go.Proofs.YtlhedpgobaellaaGreatDoor
open Go.RowKit Go.Shelf Go.Lib Go.Sort
theorem Gb:∃i,Tryz.prog.info? 57=some i∧i.size=1∧i.bytes=24∧i.zero=some (.slice none 0 0):=by
 have h1:(Tryz.prog.info? 57).map (·.size)=some 1:=Zz;have h2:(Tryz.prog.info? 57).bind (·.zero)=some (.slice none 0 0):=Zz;have h3:(Tryz.prog.info? 57).map (·.bytes)=some 24:=Zz;obtain⟨i,hi,h4⟩:=QD.1 h1;rw[hi] at h2 h3;exact⟨i,hi,h4,by simpa using h3,h2⟩
theorem EK{P:Program}{K:Ker}{h:Hp}{k:Sh}(hr:Rel K h){n o m:Nat}{T:TypeId}{es ys:List V}(hn:h n=some (.arr k es))(ho:o≤es.length)(hcov:es.length≤o+ys.length)(hm:K.w.shape? (K.mu n)=some (T,m))(hroom:(o+ys.length)*k.size≤m){cs:List Value}(c:nK K k ys cs):
 ∃K',(storeCells ⟨K.mu n,o*k.size,none⟩ cs 0).run P K.w= .ok () K'.w∧K.le K'∧K'.live=K.live∧K'.mu=K.mu∧(∀b,K'.w.shape? b=K.w.shape? b)∧Rel K' (h.set n (.arr k (es.take o++ys))):=by
 have hone:=c.one;obtain⟨hcl,hfy,hv⟩:=c;cases hr.blk n _ hn with
 |arr _ _ c T' hh hcs himm hfit hvs=>
  have hmc:m=c.size:=by simp[QF,hh] at hm;exact hm.2.symm
  subst hmc;rw[Qg] at hroom;have hst:=run_storeCells_at P (K.mu n) (o*k.size) T' cs 0 c K.w hh (by rw[hcl];omega) hone;simp only[Qb,hcl] at hst;generalize hc':(c.toList.take (o*k.size)++cs++c.toList.drop (o*k.size+ys.length*k.size)).toArray=c' at hst;have hcsz:c'.size=c.size:=by rw[←hc'];simp only[Qv,KR,QZ,Wa,Qm,hcl];omega
  have hle1:=K.le_row (K.mu n) c' c T' hh hcsz (hr.base n _ hn) (fun o ho=>by rw[himm] at ho;omega);have hlen:(es.take o++ys).length=o+ys.length:=by simp;omega
  refine⟨K.row (K.mu n) c',hst,hle1,rfl,rfl,fun b=>oO K.w _ c' c T' (0,0) hh hcsz b,?_⟩;refine hr.row hn c' c T' hh hcsz (fun o ho=>by rw[himm] at ho;omega) (.arr k _ c' T' ?_ (by rw[hlen,hcsz,Qg];exact hroom) himm ?_ ?_)
  ·show(K.w.setRow (K.mu n) c').heap[K.mu n]?=_;exact setRow_heap K.w (K.mu n) c c' T' (0,0) hh
  ·intro x hx;rcases KE.1 hx with hx|hx
   ·exact hfit x (KU hx)
   exact hfy x hx
  intro q hq j hj;rw[hlen] at hq;have htk:(c.toList.take (o*k.size)).length=o*k.size:=by simp;omega
  have htk2:(es.take o).length=o:=by simp;omega
  have hget:c'[q*k.size+j]?=if q<o then c[q*k.size+j]? else cs[(q-o)*k.size+j]?:=by
   rw[←hc'];simp only[Qh,Kw];by_cases e1:q<o
   ·have h1:=cC hj e1;rw[if_pos e1,Km (by rw[htk];exact h1),Qa,if_pos h1,Array.getElem?_toList]
   have h2:=cC (k:=k.size) (i:=q-o) (n:=ys.length) hj or;have h3:o*k.size≤q*k.size:=KM _ or;have hsub:q*k.size-o*k.size=(q-o)*k.size:=(Wp _ _ _).symm;have e4:q*k.size+j-o*k.size=(q-o)*k.size+j:=or;rw[if_neg e1,Kt (by rw[htk];omega),htk,e4,Km (by rw[hcl];exact h2)]
  rw[Kk,hget];by_cases e1:q<o
  ·rw[if_pos e1,Ke,Km or,Qa,if_pos e1,←Ke,←Kk];exact(hvs q or j hj).mono hle1
  rw[if_neg e1,Ke,Kt or,htk2,←Ke,←Ke];exact(hv _ or j hj).mono hle1
set_option maxRecDepth 1000000 in
theorem FH(b n cap i:Nat)(va:Addr)(vc:Nat)(hi:i<n)(hcap:n+1≤cap)(hn63:n≤1000000)(w w1 w2:World)
 (hov:∀lb cb,(callFunc 114 #[.slice (some va) 1 vc, .slice (some ⟨b,i+1,none⟩) lb cb]).run Tryz.prog w= .ok (.value (.bool false)) w)
 (hcp1:∀ty dc sc,(KO #[69,69] ty #[.slice (some ⟨b,i+1,none⟩) (n+1-(i+1)) dc, .slice (some ⟨b,i,none⟩) (n+1-i) sc]).run Tryz.prog w.drew= .ok (goInt ((n-i:Nat):Int)) w1)
 (hcp2:∀ty dc,(KO #[69,69] ty #[.slice (some ⟨b,i,none⟩) (n+1-i) dc, .slice (some va) 1 vc]).run Tryz.prog w1= .ok (goInt 1) w2):
 Calls Tryz.prog 65 #[.slice (some ⟨b,0,none⟩) n cap, .int .i64 i, .slice (some va) 1 vc] w fun e w'=>e= .returned (.slice (some ⟨b,0,none⟩) (n+1) cap)∧w'=w2:=by
 have mixed:Tryz.prog.follows .mixedOrders=true:=Zz;have hne:¬(i:Int)=(n:Int):=or;have hw1:IntKind.i64.wrap ((n:Int)+1)=(n:Int)+1:=by rw[KP];omega
 have hw2:IntKind.i64.wrap ((i:Int)+1)=(i:Int)+1:=by rw[KP];omega
 have hb1:(0:Int)≤(i:Int)+1:=or;have hb2:(0:Int)≤(n:Int)+1:=or;have hin:i≤n:=or;have ht1:((i:Int)+1).toNat=i+1:=or;have ht2:((n:Int)+1).toNat=n+1:=or;have hc1:¬(cap=i+1):=or;have hc2:¬(cap=i):=or;have hc3:(i:Int)+1≤(n:Int)+1:=or;have hc4:(i:Int)≤(n:Int)+1:=or;have hc5:(n:Int)+1≤(cap:Int):=or;have hc6:¬((cap:Int)<(n:Int)+1):=or;clear hi hcap
 go_enter Tryz.func65,Tryz.ntmps65
 go_wp2_with (simp only[hov])
 go_region_law_o (refine oM .copy rfl #[.tmp 73, .tmp 76] _ rfl _ (fun _=>rfl) (by simpa [Act.eval,Act.put] using hcp1 _ _ _) ?_)
 go_wp2_with (at_builtin;refine eM .copy rfl #[.tmp 80, .tmp 81] _ rfl _ (fun _=>rfl) (by simpa [Act.eval,Act.put] using hcp2 _ _) ?_)
 go_ret
 exact⟨rfl,rfl⟩
set_option maxRecDepth 1000000 in
theorem FI(b n cap:Nat)(va:Addr)(vc:Nat)(hcap:n≤cap)(rv:Value)(w w1:World)
 (hap:(KC #[69,69] 69 #[.slice (some ⟨b,0,none⟩) n cap, .slice (some va) 1 vc]).run Tryz.prog w= .ok rv w1):
 Calls Tryz.prog 65 #[.slice (some ⟨b,0,none⟩) n cap, .int .i64 n, .slice (some va) 1 vc] w fun e w'=>e= .returned rv∧w'=w1:=by
 by_cases hc2:cap=n
 ·subst hc2;clear hcap
  go_enter Tryz.func65,Tryz.ntmps65
  go_wp2_with (at_builtin;refine eM .append rfl #[.tmp 23, .tmp 24] _ rfl _ (fun _=>rfl) (by simpa [Act.eval,Act.put] using hap) ?_)
  go_ret
  exact⟨rfl,rfl⟩
 go_enter Tryz.func65,Tryz.ntmps65
 go_wp2_with (at_builtin;refine eM .append rfl #[.tmp 23, .tmp 24] _ rfl _ (fun _=>rfl) (by simpa [Act.eval,Act.put] using hap) ?_)
 go_ret
 exact⟨rfl,rfl⟩
set_option maxRecDepth 1000000 in
theorem FG(va:Addr)(vc:Nat)(rv:Value)(w w1:World)
 (hap:(KC #[69,69] 69 #[.slice none 0 0, .slice (some va) 1 vc]).run Tryz.prog w= .ok rv w1):
 Calls Tryz.prog 65 #[.slice none 0 0, .int .i64 0, .slice (some va) 1 vc] w fun e w'=>e= .returned rv∧w'=w1:=by
 go_enter Tryz.func65,Tryz.ntmps65
 go_wp2_with (at_builtin;refine eM .append rfl #[.tmp 23, .tmp 24] _ rfl _ (fun _=>rfl) (by simpa [Act.eval,Act.put] using hap) ?_)
 go_ret
 exact⟨rfl,rfl⟩
set_option maxRecDepth 1000000 in
theorem Ec(b n i:Nat)(va:Addr)(vc q cp:Nat)(hi:i<n)(hn63:n≤1000000)(hcp:n+1≤cp)(w w1 w2 w3:World)
 (hap:∀(ty:TypeId),(KC #[69,3] ty #[.slice (some ⟨b,0,none⟩) i n, .int .i64 ((n:Int)+1-(i:Int))]).run Tryz.prog w= .ok (.slice (some ⟨q,0,none⟩) (n+1) cp) w1)
 (hcp1:∀ty dc,(KO #[69,69] ty #[.slice (some ⟨q,i,none⟩) (n+1-i) dc, .slice (some va) 1 vc]).run Tryz.prog w1= .ok (goInt 1) w2)
 (hcp2:∀ty dc sc,(KO #[69,69] ty #[.slice (some ⟨q,i+1,none⟩) (n+1-(i+1)) dc, .slice (some ⟨b,i,none⟩) (n-i) sc]).run Tryz.prog w2.drew= .ok (goInt ((n-i:Nat):Int)) w3):
 Calls Tryz.prog 65 #[.slice (some ⟨b,0,none⟩) n n, .int .i64 i, .slice (some va) 1 vc] w fun e w'=>e= .returned (.slice (some ⟨q,0,none⟩) (n+1) cp)∧w'=w3:=by
 have mixed:Tryz.prog.follows .mixedOrders=true:=Zz;have hne:¬(i:Int)=(n:Int):=or;have hw1:IntKind.i64.wrap ((n:Int)+1)=(n:Int)+1:=by rw[KP];omega
 have hw2:IntKind.i64.wrap ((i:Int)+1)=(i:Int)+1:=by rw[KP];omega
 have hw3:IntKind.i64.wrap ((n:Int)+1-(i:Int))=(n:Int)+1-(i:Int):=by rw[KP];omega
 have hb1:(0:Int)≤(i:Int)+1:=or;have hb2:(0:Int)≤(n:Int)+1:=or;have hin:i≤n:=or;have ht1:((i:Int)+1).toNat=i+1:=or;have ht2:((n:Int)+1).toNat=n+1:=or;have hc1:¬(cp=i+1):=or;have hc2:¬(cp=i):=or;have hc7:¬(n=i):=or;have hc3:(i:Int)+1≤(n:Int)+1:=or;have hc4:(i:Int)≤(n:Int)+1:=or;have hc5:(n:Int)<(n:Int)+1:=or;have hc8:i+1≤n+1:=or;have hc9:i≤n+1:=or;clear hi hcp
 go_enter Tryz.func65,Tryz.ntmps65
 go_wp2_with (at_builtin;first|refine eM .append rfl #[.tmp 34, .tmp 39] _ rfl _ (fun _=>rfl) (by simpa [Act.eval,Act.put,hw3] using hap _) ?_|refine eM .copy rfl #[.tmp 43, .tmp 44] _ rfl _ (fun _=>rfl) (by simpa [Act.eval,Act.put] using hcp1 _ _) ?_)
 go_region_law_o (refine oM .copy rfl #[.tmp 50, .tmp 53] _ rfl _ (fun _=>rfl) (by simpa [Act.eval,Act.put] using hcp2 _ _ _) ?_)
 go_wp2
 go_ret
 exact⟨rfl,rfl⟩
theorem bj(h:Hp)(n:Nat)(a b:Blk):(h.set n a).set n b=h.set n b:=by
 funext x;unfold Ka;split<;>rfl
theorem yB{K:Ker}{a b c:V}{cargs:Array Value}(hv:VRs K [a,b,c] cargs):∃x y z,cargs=#[x,y,z]∧VR K a x∧VR K b y∧VR K c z:=by
 obtain⟨hsz,hv⟩:=hv;have hsz:cargs.size=3:=by simpa using hsz.symm
 have h0:=hv 0 Zm;have h1:=hv 1 Zm;have h2:=hv 2 Zm;refine⟨_,_,_,?_,h0,h1,h2⟩;apply Wl
 ·simp[hsz]
 intro i hi _;have:i=0∨i=1∨i=2:=or;rcases this with rfl|rfl|rfl<;>simp[Wr,hsz]
def zT:V:= .sl (.agg 3) .nil []
theorem ue(m:Nat)(x:V)(h:Hp)(nx:Nat)(hm:h m=some (.arr .leaf [x])):
 aR Tryz.prog 65 [.sl .leaf .nil [], .int .i64 0, .rs m .leaf 0 1] h nx fun v h' _=>v= .rs nx .leaf 0 1∧h'=h.set nx (.arr .leaf [x]):=by
 refine⟨Zz,fun K cargs hlv hr hv=>?_⟩;obtain⟨c1,c2,c3,rfl,v1,v2,v3⟩:=yB hv;obtain⟨i0,hi0,hs0,hb0,hz0⟩:=Gb;have ha:¬K.live nx:=fun e=>Wm _ (hlv nx e);have hy:=oP hr v3 (k:= .leaf) (es:=[x]) (by simp[dI,hm]);obtain⟨cv,K',q1,q2,q3,q4,q5⟩:=fS (P:=Tryz.prog) (k:= .leaf) (ty:=69) (xs:=[]) hr ha Tryz.underlying69 hi0 hz0 hs0 rfl ZM v1 hy Zm (.inl ⟨rfl,rfl⟩) (by rw[hb0];simp) Zm;cases v2;cases v1 with
 |sl _ _ _ b off cap f' hb' hfit' hcell hst hv hcap hnil hfull htok=>exact absurd rfl hnil
 |slnil=>
 cases v3 with
 |rs _ _ _ _ vc hl2 hvcap hsm=>
 refine(FG _ vc cv K.w K'.w q1).mono ?_;rintro e w' ⟨rfl,rfl⟩;exact⟨K',_,cv,_,nx+1,rfl,rfl,q2,q4,q5,fun q hq=>(q3 q hq).elim (fun e=>⟨Qx (hlv q e), .inl e⟩) (fun e=>e▸⟨QA _, .inr (Kp _)⟩),Wc _,rfl,rfl⟩
theorem EI(es:List V)(x:V)(i:Nat)(hi:i<es.length):nR (es.take (i+1)++es.drop i) i [x]=es.take i++x::es.drop i:=by
 unfold nR;have h1:(es.take (i+1)).length=i+1:=by simp;omega
 rw[QH,KF or,Wi,Nat.min_eq_left or,List.drop_left' h1,Kw];rfl
theorem EH(es:List V)(x z:V)(i:Nat)(hi:i<es.length):nR (nR (es.take i++Ki (es.length+1-i) z) i [x]) (i+1) (es.drop i)=es.take i++x::es.drop i:=by
 have h1:(es.take i).length=i:=by simp;omega
 have e1:nR (es.take i++Ki (es.length+1-i) z) i [x]=es.take i++x::Ki (es.length-i) z:=by
  unfold nR;rw[QH,QE h1,Wd,h1,Kq or,KX,List.drop_replicate,Kw,show es.length+1-i-(i+1-i)=es.length-i by omega];rfl
 rw[e1];unfold nR;have h2:(es.take i++[x]).length=i+1:=by simp;omega
 have h3:((es.take i++[x])++Ki (es.length-i) z).drop (i+1+(es.drop i).length)=[]:=Kq (by simp;omega);rw[show es.take i++x::Ki (es.length-i) z=(es.take i++[x])++Ki (es.length-i) z by simp,QE h2,h3,Qi,Kw];rfl
set_option maxRecDepth 100000 in
theorem ud(n m i:Nat)(es:List V)(x:V)(h:Hp)(nx:Nat)(hn:h n=some (.arr .leaf es))(hm:h m=some (.arr .leaf [x]))(hnm:m≠n)(hi:i≤es.length)(hl:es.length≤1000000):
 aR Tryz.prog 65 [.rs n .leaf 0 es.length, .int .i64 i, .rs m .leaf 0 1] h nx fun v h' _=>∃id,v= .rs id .leaf 0 (es.length+1)∧(id=n∨id=nx)∧h' id=some (.arr .leaf (es.take i++x::es.drop i))∧∀k,k≠id→k≠n→h' k=h k:=by
 refine⟨Zz,fun K cargs hlv hr hv=>?_⟩;obtain⟨c1,c2,c3,rfl,v1,v2,v3⟩:=yB hv;obtain⟨i0,hi0,hs0,hb0,hz0⟩:=Gb;have ha:¬K.live nx:=fun e=>Wm _ (hlv nx e);have hnn:n≠nx:=fun e=>ha (e▸hr.lt n _ hn);have hmn:m≠nx:=fun e=>ha (e▸hr.lt m _ hm);have hy:=oP hr v3 (k:= .leaf) (es:=[x]) (by simp[dI,hm]);have v1':=v1;have hbn:=hr.blk n _ hn;have hbm:=hr.blk m _ hm;have hne:K.mu m≠K.mu n:=fun e=>hnm (hr.inj m n _ _ hm hn e);cases v2;cases v1 with
 |rs _ _ _ _ cap hl1 hcap hsn=>
 cases v3 with
 |rs _ _ _ _ vc hl2 hvcap hsm=>
 have hsn':=hsn;obtain⟨T,M,hsh,hmm⟩:=hsn;obtain⟨T2,M2,hsh2,hmm2⟩:=hsm;simp only[Kd,KG,KK,KQ] at hmm v1';rcases Ks i es.length with hlt|hge
 ·have hfr:∀o,K.w.frozen? ⟨K.mu m,o,none⟩=false:=fun o=>by
   cases hbm with
   |arr _ _ c T' hh _ _ _ _=>simp only[Wg,hh];simp
  have hdl:((es.drop i).take (es.length-i))=es.drop i:=Kv Zm;by_cases hroom:es.length+1≤cap
  ·obtain⟨cs,hc,hcl,hcr⟩:=lU hr.drew hn (o:=i) (m:=es.length-i) or;rw[hdl] at hc;obtain⟨K1,q1,q2,q3,q4,q5,q6⟩:=EK (P:=Tryz.prog) (K:=K.drew) hr.drew hn (o:=i+1) (ys:=es.drop i) (T:=T) (m:=M) or (by simp;omega) hsh (by simp[Kd];omega) hc;have hn1:(h.set n (.arr .leaf (es.take (i+1)++es.drop i))) n=some (.arr .leaf (es.take (i+1)++es.drop i)):=by simp[Ka]
   have hm1:(h.set n (.arr .leaf (es.take (i+1)++es.drop i))) m=some (.arr .leaf [x]):=by simp only[Ka];rw[if_neg hnm];exact hm
   have hK1:K.le K1:=K.le_drew.trans q2;obtain⟨ds,hd,hdl2,hdr⟩:=lU q6 hm1 (o:=0) (m:=1) Zm;simp only[Qq,Ql,QJ] at hd;obtain⟨K2,p1,p2,p3,p4,p5,p6⟩:=nH (P:=Tryz.prog) q6 hn1 (o:=i) (ys:=[x]) (by simp;omega) hd;have hmuN:K1.mu n=K.mu n:=hK1.mu n hl1;have hmuM:K1.mu m=K.mu m:=hK1.mu m hl2;have hK2:=hK1.trans p2;simp only[Kd,KK,KG,KQ] at hcr hdr q1 p1;rw[bj,EI es x i hlt] at p6;refine(FH (K.mu n) es.length cap i ⟨K.mu m,0*Sh.leaf.size,none⟩ vc hlt hroom hl K.w K1.w K2.w (fun lb cb=>?_) (fun ty dc sc=>?_) (fun ty dc=>?_)).mono ?_
   ·rw[run_callFunc_extern Tryz.func114 Zz Zz Zz (e:=Extern.SlicesOverlaps.overlaps #[69,69] #[4]) Zz,
     Lib.run_overlaps_apart K.w 69 4 57 Tryz.underlying69 1 Tryz.sizeOf57 _ _ 1 vc lb cb hne T2 T M2 M hsh2 hsh or (hfr _) (hfr _)]
    rfl
   ·refine oQ (P:=Tryz.prog) K.w.drew _ _ ty _ i0 (K.mu n) (i+1) _ dc ⟨K.mu n,i,none⟩ _ sc (es.length-i) cs Tryz.underlying69 hi0 ?_ (by rw[hcl,hs0];rfl) (fun j u hj=>by rw[Addr.add_lit];exact hcr j u hj) q1;simp only[QI];split<;>omega
   ·refine oQ (P:=Tryz.prog) K1.w _ _ ty _ i0 (K.mu n) i _ dc _ _ vc 1 ds Tryz.underlying69 hi0 (by simp only[QI];split<;>omega) (by rw[hdl2,hs0];rfl) (fun j u hj=>by rw[Addr.add_lit];rw[hmuM] at hdr;simpa [Kd] using hdr j u hj) (by rw[←hmuN];exact p1)
   rintro e w' ⟨rfl,rfl⟩;have vr:VR K (.rs n .leaf 0 (es.length+1)) (.slice (some ⟨K.mu n,0,none⟩) (es.length+1) cap):=by
    have:=VR.rs (K:=K) n .leaf 0 (es.length+1) cap hl1 hroom ⟨T,M,hsh,by simp[Kd];omega⟩;rwa [KQ] at this
   refine⟨K2,_,_,_,nx,rfl,rfl,hK2,vr.mono hK2,p6,fun q hq=>?_,Kp _,n,rfl, .inl rfl,by simp[Ka],fun k h1 _=>by simp only[Ka];rw[if_neg h1]⟩;rw[p3,q3] at hq;exact⟨hlv q hq, .inl hq⟩
  have hce:cap=es.length:=or;subst hce;obtain⟨os,ho,hol,hor⟩:=lU hr.drew hn (o:=0) (m:=i) or;simp only[Kd,KK,KG,KQ,Qq] at ho hol hor;have hlen:i+(es.length+1-i)=es.length+1:=or;have hold:(Builtin.firstCells i0.size i (.slice (some ⟨K.mu n,0,none⟩) i es.length)).run Tryz.prog K.w.drew= .ok os.toArray K.w.drew:=run_firstCells_some _ _ _ _ _ _ os (by rw[hol,hs0,KK]) (fun j v hj=>by rw[Addr.add_lit,KG];exact hor j v hj);have hap:∀ty,_:=fun ty=>Lib.run_append_grow_zeros (P:=Tryz.prog) K.w 69 3 ty _ i0 _ .i64 .i64 Tryz.underlying69 Tryz.underlying3 hi0 hz0 (some ⟨K.mu n,0,none⟩) i es.length os hold (es.length+1-i) or or or or (by rw[hb0];omega) (by rw[hb0,hlen];exact growslice_fits or or);rw[hlen,show((es.length+1-i:Nat):Int)=(es.length:Int)+1-(i:Int) by omega] at hap;obtain⟨G,hG⟩:∃G,grownCap K.w (es.length+1) es.length 57=G:=⟨_,rfl⟩;have hGe:es.length+1≤G:=hG▸grownCap_ge _ _ _ _;rw[hG] at hap;obtain⟨C,hC⟩:∃C,os.toArray++KV (Value.slice none 0 0).cells (es.length+1-i)++KV (Value.slice none 0 0).cells (G-(es.length+1))=C:=⟨_,rfl⟩;have hCs:C.size=G:=by rw[←hC];simp only[QW,Qv,size_zeroCells,hol];simp[Value.cells];omega
  have hCv:∀q,q<(es.take i++Ki (es.length+1-i) zT).length→∀j,j<Sh.leaf.size→VR K.drew (((es.take i++Ki (es.length+1-i) zT).getD q Kc).cell j) (C.getD (q*Sh.leaf.size+j) KN):=by
   intro q hq j hj;have hj0:j=0:=by simp[Kd] at hj;exact hj
   subst hj0;simp only[Kd,KK,Qb];have htk:(es.take i).length=i:=by simp;omega
   rw[Kk,←hC,Array.append_assoc];by_cases h1:q<i
   ·have h2:=ho.2.2 q or 0 ZM;rw[Ke,Km or,←Ke,KJ (by simp[hol];exact h1),Qh,←Ke];simpa [Kd] using h2
   have hq':q<es.length+1:=by simp at hq;omega
   rw[Ke,Kt or,List.getElem?_replicate,if_pos or,Array.getElem?_append_right (by simp[hol];omega),KJ (by rw[size_zeroCells];simp[Value.cells,hol];omega)];have:(KV (Value.slice none 0 0).cells (es.length+1-i))[q-os.toArray.size]?=some (Value.slice none 0 0):=by
    unfold KV;rw[Array.getElem?_map,Array.getElem?_range,if_pos (by simp[Value.cells,hol];omega)];simp[Value.cells,Wo]
   rw[this];exact .slnil _
  obtain⟨K1,q1,q2,q3,q4,q5⟩:=eE (K:=K.drew) (h:=h) hr.drew (a:=nx) ha (k:= .leaf) (es:=es.take i++Ki (es.length+1-i) zT) (fun e he=>by
   rcases KE.1 he with he|he
   ·cases hbn with
    |arr _ _ c T' hh _ _ hfit _=>exact hfit e (KU he)
   rw[List.eq_of_mem_replicate he];rfl) C 57 G (by simp;omega) (by rw[hCs];simp[Kd]) hCv
  have hlenE:(es.take i++Ki (es.length+1-i) zT).length=es.length+1:=by simp;omega
  have hN:(h.set nx (.arr .leaf (es.take i++Ki (es.length+1-i) zT))) nx=some (.arr .leaf (es.take i++Ki (es.length+1-i) zT)):=by simp[Ka]
  have hM:(h.set nx (.arr .leaf (es.take i++Ki (es.length+1-i) zT))) m=some (.arr .leaf [x]):=by simp only[Ka];rw[if_neg hmn];exact hm
  have hK1:K.le K1:=K.le_drew.trans q2;obtain⟨ds,hd,hdl2,hdr⟩:=lU q5 hM (o:=0) (m:=1) Zm;simp only[Qq,Ql,QJ] at hd;obtain⟨K2,p1,p2,p3,p4,p5,p6⟩:=nH (P:=Tryz.prog) q5 hN (o:=i) (ys:=[x]) (by rw[hlenE];simp;omega) hd;rw[bj] at p6;have hbl:=gq (es:=es.take i++Ki (es.length+1-i) zT) (o:=i) (ys:=[x]) (by rw[hlenE];simp;omega);have hN2:(h.set nx (.arr .leaf (nR (es.take i++Ki (es.length+1-i) zT) i [x]))) nx=some (.arr .leaf (nR (es.take i++Ki (es.length+1-i) zT) i [x])):=by simp[Ka]
  have hn2:(h.set nx (.arr .leaf (nR (es.take i++Ki (es.length+1-i) zT) i [x]))) n=some (.arr .leaf es):=by simp only[Ka];rw[if_neg hnn];exact hn
  obtain⟨cs,hc,hcl,hcr⟩:=lU p6.drew hn2 (o:=i) (m:=es.length-i) or;rw[hdl] at hc;obtain⟨K3,r1,r2,r3,r4,r5,r6⟩:=nH (P:=Tryz.prog) (K:=K2.drew) p6.drew hN2 (o:=i+1) (ys:=es.drop i) (by rw[hbl,hlenE];simp;omega) hc;rw[bj,EH es x zT i hlt] at r6;have hK2:=hK1.trans p2;have hK3:=hK2.trans (K2.le_drew.trans r2);have hmuN:K2.mu n=K.mu n:=hK2.mu n hl1;have hmuM:K1.mu m=K.mu m:=hK1.mu m hl2;have hmuA:K1.mu nx=K.w.heap.size:=by
   have q4':=q4;generalize hcv:Value.slice _ _ _=cv at q4';cases q4' with
   |rs=>injection hcv with e _ _;injection e with e;injection e with e;exact e.symm
  have hmuA2:K2.mu nx=K.w.heap.size:=by rw[p4];exact hmuA
  simp only[Kd,KK,KG,KQ] at hcr hdr r1 p1;refine(Ec (K.mu n) es.length i ⟨K.mu m,0*Sh.leaf.size,none⟩ vc K.w.heap.size G hlt hl hGe K.w K1.w K2.w K3.w (fun ty=>?_) (fun ty dc=>?_) (fun ty dc sc=>?_)).mono ?_
  ·rw[q1,hap ty,←hC];rfl
  ·refine oQ (P:=Tryz.prog) K1.w _ _ ty _ i0 K.w.heap.size i _ dc _ _ vc 1 ds Tryz.underlying69 hi0 (by simp only[QI];split<;>omega) (by rw[hdl2,hs0];rfl) (fun j u hj=>by rw[Addr.add_lit];rw[hmuM] at hdr;simpa [Kd] using hdr j u hj) (by rw[←hmuA];exact p1)
  ·refine oQ (P:=Tryz.prog) K2.w.drew _ _ ty _ i0 K.w.heap.size (i+1) _ dc ⟨K.mu n,i,none⟩ _ sc (es.length-i) cs Tryz.underlying69 hi0 ?_ (by rw[hcl,hs0];rfl) (fun j u hj=>by rw[Addr.add_lit,←hmuN];exact hcr j u hj) (by rw[←hmuA2];exact r1);simp only[QI];split<;>omega
  rintro e w' ⟨rfl,rfl⟩;have vr:VR K3 (.rs nx .leaf 0 (es.length+1)) (.slice (some ⟨K.w.heap.size,0,none⟩) (es.length+1) G):=by
   have:=q4;rw[hlenE] at this;exact(this.mono p2).mono (K2.le_drew.trans r2)
  refine⟨K3,_,_,_,nx+1,rfl,rfl,hK3,vr,r6,fun q hq=>?_,Wc _,nx,rfl, .inr rfl,by simp[Ka],fun k h1 _=>by simp only[Ka];rw[if_neg h1]⟩;rw[r3] at hq;have hq:K2.live q:=hq;rw[p3] at hq;rcases q3 q hq with e|rfl
  ·exact⟨Qx (hlv q e), .inl e⟩
  exact⟨QA _, .inr (Kp _)⟩
 have hie:i=es.length:=or;subst hie;obtain⟨cv,K',q1,q2,q3,q4,q5⟩:=fS (P:=Tryz.prog) (k:= .leaf) (ty:=69) (xs:=es) hr ha Tryz.underlying69 hi0 hz0 hs0 rfl ZM v1' hy Zm (.inr ⟨n,rfl,hn⟩) (by rw[hb0];simp;omega) (by simp;omega);refine(FI (K.mu n) es.length cap ⟨K.mu m,0*Sh.leaf.size,none⟩ vc hcap cv K.w K'.w q1).mono ?_;rintro e w' ⟨rfl,rfl⟩;refine⟨K',_,cv,_,nx+1,rfl,rfl,q2,q4,q5,fun q hq=>(q3 q hq).elim (fun e=>⟨Qx (hlv q e), .inl e⟩) (fun e=>e▸⟨QA _, .inr (Kp _)⟩),Wc _,nx,rfl, .inr rfl,?_,fun k h1 h2=>?_⟩
 ·simp[Ka]
 simp only[Ka,Hp.del];rw[if_neg h1,if_neg h2]
theorem He:∃i,Tryz.prog.info? 3=some i∧i.size=1∧i.zero=some (.int .i64 0):=by
 have h1:(Tryz.prog.info? 3).map (·.size)=some 1:=Zz;have h2:(Tryz.prog.info? 3).bind (·.zero)=some (.int .i64 0):=Zz;obtain⟨i,hi,h3⟩:=QD.1 h1;rw[hi] at h2;exact⟨i,hi,h3,h2⟩
def zin:V:= .int .i64 0
theorem Gj(K:Ker):VR K zin (.int .i64 0):= .int _ _
set_option maxRecDepth 1000000 in
theorem Cp(b L cap i j:Nat)(hij:j=i+1)(hj:j≤L)(hcap:L≤cap)(w w1 w2:World)
 (hap:∀(ty:TypeId) (A:Addr) (c:Nat),A=⟨b,j,none⟩∨L=j→(KC #[81,81] ty #[.slice (some ⟨b,0,none⟩) i cap, .slice (some A) (L-j) c]).run Tryz.prog w.drew= .ok (.slice (some ⟨b,0,none⟩) (i+(L-j)) cap) w1)
 (hcl:∀ty,(Builtin.clear_ #[81] ty #[.slice (some ⟨b,i+(L-j),none⟩) (L-(i+(L-j))) (cap-(i+(L-j)))]).run Tryz.prog w1= .ok (.tuple #[]) w2):
 Calls Tryz.prog 189 #[.slice (some ⟨b,0,none⟩) L cap, .int .i64 i, .int .i64 j] w fun e w'=>e= .returned (.slice (some ⟨b,0,none⟩) (i+(L-j)) cap)∧w'=w2:=by
 have hne:¬(i:Int)=(j:Int):=or;have hic:i≤cap:=or;have hjc:j≤cap:=or;obtain⟨A,hA,hap⟩:∃A:Addr,(if cap=j then some (⟨b,0,none⟩:Addr) else some ⟨b,j,none⟩)=some A∧Hid (∀(ty:TypeId) (c:Nat),(KC #[81,81] ty #[.slice (some ⟨b,0,none⟩) i cap, .slice (some A) (L-j) c]).run Tryz.prog w.drew= .ok (.slice (some ⟨b,0,none⟩) (i+(L-j)) cap) w1):=by
  by_cases h:cap=j
  ·exact⟨⟨b,0,none⟩,by simp[h],fun ty c=>hap ty _ c (.inr or)⟩
  exact⟨⟨b,j,none⟩,by simp[h],fun ty c=>hap ty _ c (.inl rfl)⟩
 have mixed:Tryz.prog.follows .mixedOrders=true:=Zz;have hle:i≤j:=or;have hlt:i<L:=or;have hLi:¬L=i:=or;have hci:¬cap=i:=or;have hcm:¬cap=i+(L-j):=or;have hml:i+(L-j)≤L:=or;clear hij
 go_enter Tryz.func189,Tryz.ntmps189
 go_wp2_with fail
 go_region_law_o (refine oM .append rfl #[.tmp 22, .tmp 25] _ rfl _ (fun _=>rfl) (by simpa [Act.eval,Act.put] using hap.out _ _) ?_)
 go_wp2
 go_ret
 exact⟨rfl,rfl⟩
theorem Dc(h:Hp)(n:Nat)(a b:Blk):(h.set n a).set n b=h.set n b:=by
 funext x;unfold Ka;split<;>rfl
theorem qt{K:Ker}{a b c:V}{cargs:Array Value}(hv:VRs K [a,b,c] cargs):∃x y z,cargs=#[x,y,z]∧VR K a x∧VR K b y∧VR K c z:=by
 obtain⟨hsz,hv⟩:=hv;have hsz:cargs.size=3:=by simpa using hsz.symm
 have h0:=hv 0 Zm;have h1:=hv 1 Zm;have h2:=hv 2 Zm;refine⟨_,_,_,?_,h0,h1,h2⟩;apply Wl
 ·simp[hsz]
 intro i hi _;have:i=0∨i=1∨i=2:=or;rcases this with rfl|rfl|rfl<;>simp[Wr,hsz]
set_option maxRecDepth 100000 in
theorem iz(n:Nat)(l zs:List V)(i:Nat)(h:Hp)(nx:Nat)(hn:h n=some (.arr .leaf (l++zs)))(hi:i<l.length):
 aR Tryz.prog 189 [.rs n .leaf 0 l.length, .int .i64 i, .int .i64 (i+1:Nat)] h nx fun v h' _=>v= .rs n .leaf 0 (l.length-1)∧h'=h.set n (.arr .leaf (l.take i++l.drop (i+1)++(zin::zs))):=by
 refine⟨Zz,fun K cargs hlv hr hv=>?_⟩;obtain⟨x,y,z,rfl,v1,v2,v3⟩:=qt hv;obtain⟨i0,hi0,hs0,hz0⟩:=He;cases v2;cases v3;cases v1 with
 |rs _ _ _ _ cap hl hcap hm=>
  have hlt:=(hr.blk n _ hn).lt_size;obtain⟨cs,hc,hcl,hcr⟩:=lU hr.drew hn (o:=i+1) (m:=l.length-(i+1)) (by simp;omega);have hty:((l++zs).drop (i+1)).take (l.length-(i+1))=l.drop (i+1):=by rw[List.drop_append_of_le_length or,KF Zm,Kv Zm]
  rw[hty] at hc;have hyl:(l.drop (i+1)).length=l.length-(i+1):=Zm;have hbl:=gq (es:=l++zs) (o:=i) (ys:=l.drop (i+1)) (by simp;omega);obtain⟨K1,q1,q2,q3,q4,q5,q6⟩:=nH (P:=Tryz.prog) hr.drew hn (o:=i) (ys:=l.drop (i+1)) (by simp;omega) hc;have hn1:(h.set n (.arr .leaf (nR (l++zs) i (l.drop (i+1))))) n=some (.arr .leaf (nR (l++zs) i (l.drop (i+1)))):=by simp[Ka]
  have hK1:K.le K1:=K.le_drew.trans q2;have hmu1:K1.mu n=K.mu n:=hK1.mu n hl;obtain⟨T,m,hsh,hmm⟩:=hm;have vr1:VR K1 (.rs n .leaf (l.length-1) 1) (.slice (some ⟨K1.mu n,l.length-1,none⟩) 1 (cap-(l.length-1))):=by
   have:=VR.rs (K:=K1) n .leaf (l.length-1) 1 (cap-(l.length-1)) (hK1.live n hl) or ⟨T,m,by rw[hmu1,hK1.shape _ hlt];exact hsh,by rw[←hmm];congr 1;omega⟩;rwa [show Sh.leaf.size=1 from rfl,KK] at this
  obtain⟨K2,c1,c2,c3,c4⟩:=wF (P:=Tryz.prog) q6 hn1 (off:=l.length-1) (ln:=1) (by rw[hbl];simp;omega) vr1 Tryz.underlying81 hi0 hz0 (Gj K1) rfl 0;have e1:i+(l.length-(i+1))=l.length-1:=or;have e2:l.length-(l.length-1)=1:=or;refine(Cp (K.mu n) l.length cap i (i+1) rfl or hcap K.w K1.w K2.w (fun ty A c hA=>?_) (fun ty=>?_)).mono ?_
  ·refine np (P:=Tryz.prog) K.w.drew _ _ ty _ _ i0 (K.mu n) 0 i cap A (l.length-(i+1)) c cs Tryz.underlying81 Tryz.underlying81 hi0 (by rw[hcl,hs0];rfl) or (fun j u hj=>?_) ?_
   ·rcases hA with rfl|hA
    ·rw[Addr.add_lit];have:=hcr j u hj;rwa [show Sh.leaf.size=1 from rfl,KK] at this
    have:cs=[]:=Qc.1 (by rw[hcl,show l.length-(i+1)=0 by omega,KQ]);rw[this] at hj;cases hj
   rw[hs0,KG];exact q1
  ·rw[e1,e2,←hmu1];exact c1
  rintro e w' ⟨rfl,rfl⟩;have hK2:=hK1.trans c2;have vr:VR K (.rs n .leaf 0 (l.length-1)) (.slice (some ⟨K.mu n,0,none⟩) (l.length-1) cap):=by
   have:=VR.rs (K:=K) n .leaf 0 (l.length-1) cap hl or ⟨T,m,hsh,hmm⟩;rwa [KQ] at this
  refine⟨K2,_,_,_,nx,rfl,rfl,hK2,by rw[e1];exact vr.mono hK2,?_,fun m hm=>?_,Kp _,rfl,rfl⟩
  ·rw[Dc] at c4;have e3:nR (l++zs) i (l.drop (i+1))=(l.take i++l.drop (i+1))++((l++zs).drop (l.length-1)):=by
    unfold nR;rw[KF or,hyl,e1]
   have e4:(l.take i++l.drop (i+1)).length=l.length-1:=by simp;omega
   have e5:(l++zs).drop (l.length-1+1)=zs:=by rw[show l.length-1+1=l.length by omega];simp
   have:(nR (l++zs) i (l.drop (i+1))).take (l.length-1)++Ki 1 zin++(nR (l++zs) i (l.drop (i+1))).drop (l.length-1+1)=l.take i++l.drop (i+1)++(zin::zs):=by
    have e6:(l.take i++l.drop (i+1)++(l++zs).drop (l.length-1)).drop (l.length-1+1)=zs:=by
     rw[Wd,Kq or,e4,show l.length-1+1-(l.length-1)=1 by omega,QL,e5,KX]
    rw[e3,QE e4,e6];simp[Kw]
   rw[this] at c4;exact c4
  have h1:=c3 m hm;rw[q3] at h1;exact⟨hlv m h1, .inl h1⟩
end Go.Proofs.YtlhedpgobaellaaGreatDoor
