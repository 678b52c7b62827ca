/-
Texts of this proof,one behind the other. No conditions.
-/
import Derived.Test.YtjfdoohogiojcaaGreatDoorKd
import Derived.Test.YtjfdoohogiojcaaGreatDoorKcb
import Derived.Shelf.SlSortCmp.WholeK
import Derived.Shelf.SlSortCmp.NoneTotal
open Go.Proofs.YtjfdoohogiojcaaGreatDoor.Hp renaming le_refl→Ka,none→Kb,aAL→Kc,set→Kd
open Array renaming getD_eq_getD_getElem?→Ke,getElem?_append_left→Kh,getElem?_eq_none→Kj,getElem?_modify→Kq,ext→KF
open List renaming getElem?_eq_getElem→Kf,getD_eq_getElem?_getD→Kg,findIdx?_eq_some_iff_getElem→Ki,take_succ_eq_append_getElem→Kk,findIdx?_eq_none_iff→Kp,getElem?_toArray→Ks,getElem_mem→Kv,getElem_map→Kx,map_cons→KB,map_nil→KC
open Nat renaming le_refl→Km,zero_le→Kw,lt_or_ge→KD,zero_add→KE
open Go renaming undef→Ko
open Option renaming isSome_none→Kt,getD_some→Ky
open Bool renaming false_eq_true→Ku
open Go.World renaming shape?→Kz,cell?→KA
set_option linter.unusedSimpArgs false
set_option linter.unusedVariables false
set_option linter.unusedSectionVars false
set_option maxHeartbeats 8000000
open Nat renaming reduceAdd→jA,reduceSub→jB,reduceLT→jC,reduceLeDiff→jD,reduceEqDiff→jE
open Int renaming reduceToNat→jF,toNat_natCast→jG,natCast_add→jH,natCast_one→jI,natCast_zero→jJ
open List renaming length_map→jK,length_cons→jL,length_nil→jM,replicate_succ→jN,replicate_zero→jO,cons_append→jP,nil_append→jQ
namespace Go.Proofs.YtjfdoohogiojcaaGreatDoor
open Go.RowKit
namespace LB
abbrev aCS:List aA:=[
 ⟨some 4,none, .val (.move (.const (.int .i64 0)))⟩]
abbrev aCR:List aA:=[
 ⟨some 6,none, .val (.move (.slot 0))⟩,
 ⟨some 7,none, .val (.len (.slot 6))⟩,
 ⟨some 8,none, .val (.move (.const (.int .i64 0)))⟩]
abbrev aCQ:List aA:=[
 ⟨some 9,none, .val (.bin .lss (.slot 8) (.slot 7))⟩]
abbrev aCP:List aA:=[
 ⟨some 10,none, .val (.move (.slot 8))⟩,
 ⟨some 5,none, .val (.move (.slot 10))⟩]
abbrev aCO(k:Sh):List aA:=[
 ⟨some 11,none, .val (.move (.slot 1))⟩,
 ⟨some 12,none, .val (.move (.slot 0))⟩,
 ⟨some 13,none, .val (.move (.slot 5))⟩,
 ⟨some 14,none, .val (.idxA k (.slot 12) (.slot 13))⟩,
 ⟨some 15,none, .val (.load k (.slot 14))⟩,
 ⟨some 16,none, .callv (.slot 11) [(.slot 15)]⟩]
abbrev aCN:List aA:=[
 ⟨some 17,none, .val (.move (.slot 5))⟩,
 ⟨some 4,none, .val (.move (.slot 17))⟩]
abbrev aCM:List aA:=[
 ⟨some 18,none, .val (.bin .add (.slot 8) (.const (.int .i64 1)))⟩,
 ⟨some 8,none, .val (.move (.slot 18))⟩]
abbrev aCT(k:Sh):aJ:=(.seq (.ops aCQ) (.seq (.cond (.slot 9) .skip (.exit 0)) (.seq (.block 1 (.seq (.ops aCP) (.seq (.ops (aCO k)) (.cond (.slot 16) (.seq (.ops aCN) .ret) .skip)))) (.ops aCM))))
abbrev aCL:List aA:=[
 ⟨some 4,none, .val (.move (.const (.int .i64 (-1))))⟩]
def aAo(k:Sh):LFn:=⟨(.seq (.ops aCS) (.seq (.seq (.ops aCR) (.block 0 (.loop (aCT k)))) (.seq (.ops aCL) .ret))),19,[.slot 4]⟩
abbrev aBM:List aA:=[
 ⟨some 4,none, .val (.move (.const (.bool false)))⟩]
abbrev aBL(f0:Nat):List aA:=[
 ⟨some 5,none, .val (.move (.slot 0))⟩,
 ⟨some 6,none, .val (.move (.slot 1))⟩,
 ⟨some 7,none, .call f0 [(.slot 5),(.slot 6)]⟩,
 ⟨some 8,none, .val (.bin .geq (.slot 7) (.const (.int .i64 0)))⟩,
 ⟨some 4,none, .val (.move (.slot 8))⟩]
def ContainsFunc(k:Sh)(f0:Nat):LFn:=⟨(.seq (.ops aBM) (.seq (.ops (aBL f0)) .ret)),9,[.slot 4]⟩
abbrev aCp:List aA:=[
 ⟨some 5,none, .val (.load .leaf (.slot 1))⟩,
 ⟨some 6,none, .val (.len (.slot 5))⟩,
 ⟨some 7,none, .val (.move (.const (.int .i64 0)))⟩]
abbrev aCo:List aA:=[
 ⟨some 8,none, .val (.bin .lss (.slot 7) (.slot 6))⟩]
abbrev aCn(k:Sh)(z:V):List aA:=[
 ⟨some 9,none, .val (.idxA k (.slot 5) (.slot 7))⟩,
 ⟨some 10,none, .val (.load k (.slot 9))⟩,
 ⟨some 4,none, .box k (.const z)⟩,
 ⟨none,none, .store k (.slot 4) (.slot 10)⟩]
abbrev aCm(k:Sh):List aA:=[
 ⟨some 11,none, .val (.move (.slot 0))⟩,
 ⟨some 12,none, .val (.load k (.slot 4))⟩,
 ⟨some 13,none, .callv (.slot 11) [(.slot 12)]⟩,
 ⟨some 14,none, .val (.not (.slot 13))⟩]
abbrev aCl:List aA:=[
 ⟨some 15,none, .val (.bin .add (.slot 7) (.const (.int .i64 1)))⟩,
 ⟨some 7,none, .val (.move (.slot 15))⟩]
abbrev aCq(k:Sh)(z:V):aJ:=(.seq (.ops aCo) (.seq (.cond (.slot 8) .skip (.exit 0)) (.seq (.block 1 (.seq (.ops (aCn k z)) (.seq (.ops (aCm k)) (.cond (.slot 14) .ret .skip)))) (.ops aCl))))
def aC9(k:Sh)(z:V):LFn:=⟨(.seq (.ops aCp) (.block 0 (.loop (aCq k z)))),16,[]⟩
abbrev aEL:List aA:=[
 ⟨some 1,none, .box .leaf (.slot 0)⟩,
 ⟨some 2,none, .val (.move (.const .aAa))⟩]
abbrev aEK(f0:Nat):List aA:=[
 ⟨some 3,none, .val (.mkfn (.func f0) [] [(.slot 1)])⟩,
 ⟨some 2,none, .val (.move (.slot 3))⟩]
def aEM(k:Sh)(f0:Nat):LFn:=⟨(.seq (.ops aEL) (.seq (.ops (aEK f0)) .ret)),4,[.slot 2]⟩
abbrev aCY(k:Sh):List aA:=[
 ⟨some 2,none, .box .leaf (.slot 0)⟩,
 ⟨some 4,none, .val (.move (.const (.sl k .nil [])))⟩]
abbrev aCX:List aA:=[
 ⟨some 6,none, .val (.move (.slot 1))⟩]
abbrev aCW(k:Sh)(z:V):List aA:=[
 ⟨some 5,none, .box k (.const z)⟩,
 ⟨none,none, .store k (.slot 5) (.slot 7)⟩]
abbrev aCV(k:Sh)(bs:Nat):List aA:=[
 ⟨some 8,none, .val (.load .leaf (.slot 2))⟩,
 ⟨some 9,none, .val (.load k (.slot 5))⟩,
 ⟨some 10,none, .bslice k [(.slot 9)]⟩,
 ⟨some 11,none, .append k bs (.slot 8) (.slot 10)⟩,
 ⟨none,none, .store .leaf (.slot 2) (.slot 11)⟩]
abbrev aCZ(k:Sh)(bs:Nat):aJ:=(.block 1 (.ops (aCV k bs)))
abbrev aCU:List aA:=[
 ⟨some 12,none, .val (.load .leaf (.slot 2))⟩,
 ⟨some 4,none, .val (.move (.slot 12))⟩]
def aA2(k:Sh)(z:V)(bs:Nat):LFn:=⟨(.seq (.ops (aCY k)) (.seq (.seq (.ops aCX) (.block 0 (.range (.slot 6) [7] (.ops (aCW k z)) (aCZ k bs)))) (.seq (.ops aCU) .ret))),13,[.slot 4]⟩
abbrev aDG(k:Sh):List aA:=[
 ⟨some 2,none, .val (.move (.const (.sl k .nil [])))⟩]
abbrev aDF(k:Sh)(f0:Nat):List aA:=[
 ⟨some 3,none, .val (.move (.slot 0))⟩,
 ⟨some 4,none, .call f0 [(.const (.sl k .nil [])),(.slot 3)]⟩,
 ⟨some 2,none, .val (.move (.slot 4))⟩]
def Collect(k:Sh)(f0:Nat):LFn:=⟨(.seq (.ops (aDG k)) (.seq (.ops (aDF k f0)) .ret)),5,[.slot 2]⟩
abbrev aB1(k:Sh):List aA:=[
 ⟨some 4,none, .val (.move (.const (.sl k .nil [])))⟩]
abbrev aB0(f0:Nat):List aA:=[
 ⟨some 6,none, .val (.move (.slot 0))⟩,
 ⟨some 7,none, .call f0 [(.slot 6)]⟩,
 ⟨some 5,none, .val (.move (.slot 7))⟩]
abbrev aBz(f1:Nat):List aA:=[
 ⟨some 8,none, .val (.move (.slot 5))⟩,
 ⟨some 9,none, .val (.move (.slot 1))⟩,
 ⟨some 10,none, .call f1 [(.slot 8),(.slot 9)]⟩]
abbrev aBy:List aA:=[
 ⟨some 11,none, .val (.move (.slot 5))⟩,
 ⟨some 4,none, .val (.move (.slot 11))⟩]
def aAr(k:Sh)(f0:Nat)(f1:Nat):LFn:=⟨(.seq (.ops (aB1 k)) (.seq (.ops (aB0 f0)) (.seq (.ops (aBz f1)) (.seq (.ops aBy) .ret)))),12,[.slot 4]⟩
abbrev aFG(k:Sh):List aA:=[
 ⟨some 2,none, .val (.move (.const (.sl k .nil [])))⟩]
abbrev aFF(k:Sh):List aA:=[
 ⟨some 3,none, .val (.move (.slot 0))⟩,
 ⟨some 4,none, .val (.eq false .slice (.slot 3) (.const (.sl k .nil [])))⟩]
abbrev aFE(k:Sh):List aA:=[
 ⟨some 2,none, .val (.move (.const (.sl k .nil [])))⟩]
abbrev aFD(k:Sh)(bs:Nat):List aA:=[
 ⟨some 5,none, .bslice k []⟩,
 ⟨some 6,none, .val (.move (.slot 0))⟩,
 ⟨some 7,none, .append k bs (.slot 5) (.slot 6)⟩,
 ⟨some 2,none, .val (.move (.slot 7))⟩]
def aFH(k:Sh)(bs:Nat):LFn:=⟨(.seq (.ops (aFG k)) (.seq (.seq (.ops (aFF k)) (.cond (.slot 4) (.seq (.ops (aFE k)) .ret) .skip)) (.seq (.ops (aFD k bs)) .ret))),8,[.slot 2]⟩
abbrev aEY:List aA:=[
 ⟨some 4,none, .val (.move (.const (.int .i64 0)))⟩]
abbrev aEX(f0:Nat):List aA:=[
 ⟨some 7,none, .val (.move (.slot 0))⟩,
 ⟨some 8,none, .call f0 [(.slot 7)]⟩,
 ⟨some 5,none, .val (.move (.slot 8))⟩]
abbrev aEW(f0:Nat):List aA:=[
 ⟨some 9,none, .val (.move (.slot 1))⟩,
 ⟨some 10,none, .call f0 [(.slot 9)]⟩,
 ⟨some 6,none, .val (.move (.slot 10))⟩]
abbrev aEV:List aA:=[
 ⟨some 11,none, .val (.move (.slot 5))⟩]
abbrev aEU:List aA:=[
 ⟨some 12,none, .val (.move (.slot 6))⟩]
abbrev aET:List aA:=[
 ⟨some 4,none, .val (.move (.const (.int .i64 0)))⟩]
abbrev aES:List aA:=[
 ⟨some 4,none, .val (.move (.const (.int .i64 (-1))))⟩]
abbrev aER:List aA:=[
 ⟨some 13,none, .val (.move (.slot 6))⟩]
abbrev aEQ:List aA:=[
 ⟨some 4,none, .val (.move (.const (.int .i64 1)))⟩]
abbrev aEP:List aA:=[
 ⟨some 14,none, .val (.move (.slot 0))⟩,
 ⟨some 15,none, .val (.move (.slot 1))⟩,
 ⟨some 16,none, .val (.bin .lss (.slot 14) (.slot 15))⟩]
abbrev aDK:List aA:=[
 ⟨some 4,none, .val (.move (.const (.int .i64 (-1))))⟩]
abbrev aDJ:List aA:=[
 ⟨some 17,none, .val (.move (.slot 0))⟩,
 ⟨some 18,none, .val (.move (.slot 1))⟩,
 ⟨some 19,none, .val (.bin .gtr (.slot 17) (.slot 18))⟩]
abbrev aDI:List aA:=[
 ⟨some 4,none, .val (.move (.const (.int .i64 1)))⟩]
abbrev aDH:List aA:=[
 ⟨some 4,none, .val (.move (.const (.int .i64 0)))⟩]
def aEZ(f0:Nat):LFn:=⟨(.seq (.ops aEY) (.seq (.ops (aEX f0)) (.seq (.ops (aEW f0)) (.seq (.seq (.ops aEV) (.cond (.slot 11) (.seq (.seq (.ops aEU) (.cond (.slot 12) (.seq (.ops aET) .ret) .skip)) (.seq (.ops aES) .ret)) .skip)) (.seq (.seq (.ops aER) (.cond (.slot 13) (.seq (.ops aEQ) .ret) .skip)) (.seq (.seq (.ops aEP) (.cond (.slot 16) (.seq (.ops aDK) .ret) .skip)) (.seq (.seq (.ops aDJ) (.cond (.slot 19) (.seq (.ops aDI) .ret) .skip)) (.seq (.ops aDH) .ret)))))))),20,[.slot 4]⟩
abbrev aFB:List aA:=[
 ⟨some 2,none, .val (.move (.const (.int .i64 0)))⟩]
abbrev aFA:List aA:=[
 ⟨some 3,none, .val (.move (.const (.int .i64 0)))⟩]
abbrev aE9:List aA:=[
 ⟨some 6,none, .val (.move (.slot 0))⟩,
 ⟨some 7,none, .val (.len (.slot 6))⟩,
 ⟨some 8,none, .val (.move (.const (.int .i64 0)))⟩]
abbrev aE8:List aA:=[
 ⟨some 9,none, .val (.bin .lss (.slot 8) (.slot 7))⟩]
abbrev aE7:List aA:=[
 ⟨some 10,none, .val (.idxA .leaf (.slot 6) (.slot 8))⟩,
 ⟨some 11,none, .val (.load .leaf (.slot 10))⟩,
 ⟨some 5,none, .val (.move (.slot 11))⟩]
abbrev aE6:List aA:=[
 ⟨some 12,none, .val (.move (.slot 5))⟩,
 ⟨some 13,none, .val (.move (.slot 3))⟩,
 ⟨some 14,none, .val (.bin .neq (.slot 12) (.slot 13))⟩]
abbrev aE5:List aA:=[
 ⟨some 15,none, .val (.move (.slot 5))⟩,
 ⟨some 2,none, .val (.move (.slot 15))⟩]
abbrev aE4:List aA:=[
 ⟨some 16,none, .val (.bin .add (.slot 8) (.const (.int .i64 1)))⟩,
 ⟨some 8,none, .val (.move (.slot 16))⟩]
abbrev aFC:aJ:=(.seq (.ops aE8) (.seq (.cond (.slot 9) .skip (.exit 0)) (.seq (.block 1 (.seq (.ops aE7) (.seq (.ops aE6) (.cond (.slot 14) (.seq (.ops aE5) .ret) .skip)))) (.ops aE4))))
abbrev aE3:List aA:=[
 ⟨some 17,none, .val (.move (.slot 3))⟩,
 ⟨some 2,none, .val (.move (.slot 17))⟩]
def aKS:LFn:=⟨(.seq (.ops aFB) (.seq (.ops aFA) (.seq (.seq (.ops aE9) (.block 0 (.loop aFC))) (.seq (.ops aE3) .ret)))),18,[.slot 2]⟩
abbrev aEO:List aA:=[
 ⟨some 2,none, .val (.move (.const (.bool false)))⟩]
abbrev aEN:List aA:=[
 ⟨some 3,none, .val (.move (.slot 0))⟩,
 ⟨some 4,none, .val (.move (.slot 0))⟩,
 ⟨some 5,none, .val (.bin .neq (.slot 3) (.slot 4))⟩,
 ⟨some 2,none, .val (.move (.slot 5))⟩]
def aDA:LFn:=⟨(.seq (.ops aEO) (.seq (.ops aEN) .ret)),6,[.slot 2]⟩
end LB
end Go.Proofs.YtjfdoohogiojcaaGreatDoor
namespace Go.Proofs.YtjfdoohogiojcaaGreatDoor
open Go.RowKit
theorem aR{α:Type}(f:α→V)(l:List α)(k:Nat)(h:k<l.length):(l.map f).getD k (.tup [])=f l[k]:=by
 rw[Kg,Kf (by simpa using h)];simp
def lO{α:Type}(p:α→Bool)(l:List α):Int:=match l.findIdx? p with
 |some i=>i
 |none=>-1
theorem vS{α:Type}(p:α→Bool)(l:List α):decide (0≤lO p l)=l.any p:=by
 unfold lO;cases hf:l.findIdx? p with
 |none=>
  rw[Kp] at hf;have:l.any p=false:=by
   rw[List.any_eq_false];intro x hx;simp[hf x hx]
  simp[this]
 |some i=>
  rw[Ki] at hf;obtain⟨h1,h2,_⟩:=hf;have:l.any p=true:=List.any_eq_true.2 ⟨l[i],Kv _,h2⟩;simp[this]
section
variable{P:Program}{k:Sh}{α:Type}(e:α→V)(aAG:∀x,(e x).fits k=true)
include aAG
theorem af{f:Nat}(hL:aF P f=some (LB.aAo k))(p:α→Bool)(own:Own)(l:List α)(g:Nat)(caps:List V)(h:Hp)(hp:∀x∈l,aO P g ([e x]++caps) h (.bool (p x)))(hl:l.length≤1000000000):
 aO P f [.sl k own (l.map e), .fn (.func g) [] caps] h (.int .i64 (lO p l)):=by
 refine aI (fun L=>trivial) fun h' nx hh=>aB hL fun hd=>?_;simp only[jL,jM,jA,jB,jN,jO,jP,jQ,V.undef];refine wle trivial ?_;refine oI (fun i:Nat=>i≤l.length∧∀x∈l.take i,p x=false) (fun i=>⟨aD 19 0 [(0, .sl k own (l.map e)),(1, .fn (.func g) [] caps),(7, .int .i64 l.length),(8, .int .i64 i)],h',nx⟩) (fun i=>l.length-i) 0 ⟨Kw _,Zm⟩ ?_ ?_
 ·refine vD (by simp only[WkL,aD,jH,jI,jJ,go_sem,reduceIte,jA,jB,jC,jD,reduceCtorEq,jE,jF]) ?_ ?_
  ·exact Ka _
  omega
 rintro i ⟨hi,hno⟩;simp only[aD,go_sem,reduceIte,jA,jB,jC,jD,reduceCtorEq,jE,jF];refine wl ?_;refine cL _ rfl (fun hc=>?_) (fun hc=>?_)
 ·have hlt:i<l.length:=by simpa using hc
  have hg:=aR e l i hlt;refine wle (ee2 hg aAG) ?_;refine dB rfl (hp l[i] (Kv _)) (by simp only[go_sem,reduceIte,jA,jB,jC,jD,reduceCtorEq,jE,jF]) hh ?_;refine Zn ?_;refine wl ?_;refine cL _ rfl (fun hc=>?_) (fun hc=>?_)
  ·refine wl ?_;refine cA ?_;repeat (first|with_reducible refine gZ ?_|with_reducible refine fS ?_|with_reducible refine gJ ?_|with_reducible refine fM ?_)
   refine aC h' (Ka _) ⟨?_,rfl⟩;refine Zn ?_;have:l.findIdx? p=some i:=by
    rw[Ki];refine⟨hlt,hc,fun j hj=>?_⟩;have:=hno l[j] (List.mem_take_iff_getElem.2 ⟨j,or,rfl⟩);simp[this]
   simp only[lO,this]
  refine wl ?_;refine iX (i+1) ⟨or,?_⟩ or ?_
  ·intro x hx;rw[Kk hlt,List.mem_append,List.mem_singleton] at hx;rcases hx with hx|rfl
   ·exact hno x hx
   exact hc
  rw[pF or or];refine vD (by simp only[WkL,aD,jH,jI,jJ,go_sem,reduceIte,jA,jB,jC,jD,reduceCtorEq,jE,jF]) ?_ ?_
  ·exact Ka _
  omega
 have hge:i=l.length:=by have:¬i<l.length:=by simpa using hc
                         omega
 refine oJ ?_;repeat (first|with_reducible refine mH ?_|with_reducible refine lJ ?_|with_reducible refine fN ?_|with_reducible refine cD ZM ?_|with_reducible refine fT ?_|with_reducible refine bZ ?_)
 refine wl ?_;refine cA (aC h' (Ka _) ⟨?_,rfl⟩);refine Zn ?_;rw[hge,List.take_length] at hno;have:l.findIdx? p=none:=by
  rw[Kp];exact fun x hx=>hno x hx
 simp only[lO,this]
theorem fZ{f f0:Nat}(hL:aF P f=some (LB.ContainsFunc k f0))(hL0:aF P f0=some (LB.aAo k))(p:α→Bool)(own:Own)(l:List α)(g:Nat)(caps:List V)(h:Hp)(hp:∀x∈l,aO P g ([e x]++caps) h (.bool (p x)))(hl:l.length≤1000000000):
 aO P f [.sl k own (l.map e), .fn (.func g) [] caps] h (.bool (l.any p)):=by
 refine aI (fun L=>trivial) fun h' nx hh=>aB hL fun hd=>?_;simp only[jL,jM,jA,jB,jN,jO,jP,jQ,V.undef];refine wl ?_;refine aP (af e aAG hL0 p own l g caps h hp hl) (by simp only[go_sem,reduceIte,jA,jB,jC,jD,reduceCtorEq,jE,jF]) hh ?_;refine Zn ?_;refine wl ?_;refine cA (aC h' (Ka _) ⟨?_,rfl⟩);refine Zn ?_;rw[←vS]
theorem dr{f:Nat}{z:V}(hL:aF P f=some (LB.aC9 k z))(hz:z.fits k=true)(own:Own)(l:List α)(hl:l.length≤1000000000):
 ap P f [.ept .leaf [.sl k own (l.map e)] 0 0] Kb (l.map fun x=>[e x]):=by
 intro yn J D hbJ hnJ hnD hJ h0 nx0 h0J hd0;simp only[jK];refine aB hL fun hd=>?_;simp only[jL,jM,jA,jB,jN,jO,jP,jQ,V.undef];refine wle trivial ?_;refine oI (fun p:Nat×Hp×Nat=>p.1≤l.length∧J p.1 p.2.1 p.2.2∧aW p.2.1 p.2.2) (fun p=>⟨aD 16 0 [(0, .yld yn),(5, .sl k own (l.map e)),(6, .int .i64 l.length),(7, .int .i64 p.1)],p.2.1,p.2.2⟩) (fun p=>l.length-p.1) (0,h0,nx0) ⟨Kw _,h0J,hd0⟩ ?_ ?_
 ·refine vD (by simp only[WkL,aD,jH,jI,jJ,go_sem,reduceIte,jA,jB,jC,jD,reduceCtorEq,jE,jF]) ?_ ?_
  ·exact Ka _
  exact Km _
 rintro⟨i,h,nx⟩ ⟨hi,hj,hdm⟩;simp only at hi hj hdm;simp only[aD,go_sem,reduceIte,jA,jB,jC,jD,reduceCtorEq,jE,jF];refine wl ?_;refine cL _ rfl (fun hc=>?_) (fun hc=>?_)
 ·have hlt:i<l.length:=by simpa using hc
  have hg:=aR e l i hlt;repeat (first|with_reducible refine eO ?_|with_reducible refine dY ?_|with_reducible refine iC ?_|with_reducible refine bZ ?_|with_reducible refine bW ?_|with_reducible refine fI ?_|(refine iE rfl (by simp only[jK,jG,hg,aAG,hz,aQ (aAG _),aV hz (aAG _),go_sem,reduceIte,jA,jB,jC,jD,reduceCtorEq,jE,jF];try omega) ?_;simp only[jK,jG,hg,aAG,hz,aQ (aAG _),aV hz (aAG _),go_sem,reduceIte,jA,jB,jC,jD,reduceCtorEq,jE,jF])|(with_reducible refine fC ?_))
  refine nB rfl ?_;have hy:=(hJ i (by simpa using hlt) h (nx+1+1) (hnJ i h nx _ hj or) (hdm.up or)).dom;simp only[Kx] at hy;refine(hy.weaken ?_).mono ?_
  ·exact lN hdm (lN hdm (Ka _) or _) or _
  rintro v h' nx' hnx ⟨hq,aGt,_⟩;unfold dF;rcases hq with⟨rfl,hj'⟩|⟨rfl,hD⟩
  ·refine Zn ?_;refine wl ?_;refine cL _ rfl (fun hc=>?_) (fun hc=>?_)
   ·cases hc
   refine wl ?_;refine iX (i+1,h',nx') ⟨hlt,hj',aGt⟩ (by simp only;omega) ?_;rw[pF or or];refine vD (by simp only[WkL,aD,jH,jI,jJ,go_sem,reduceIte,jA,jB,jC,jD,reduceCtorEq,jE,jF]) ?_ ?_
   ·exact Ka _
   exact Km _
  refine Zn ?_;refine wl ?_;refine cL _ rfl (fun hc=>?_) (fun hc=>?_)
  ·refine cA ?_;repeat (first|with_reducible refine gZ ?_|with_reducible refine fS ?_|with_reducible refine gJ ?_|with_reducible refine fM ?_)
   exact⟨h',Ka _, .inr hD⟩
  cases hc
 have hge:i=l.length:=by have:¬i<l.length:=by simpa using hc
                         omega
 subst hge;refine oJ ?_;repeat (first|with_reducible refine mH ?_|with_reducible refine lJ ?_|with_reducible refine fN ?_|with_reducible refine cD ZM ?_|with_reducible refine fT ?_|with_reducible refine bZ ?_)
 exact⟨h,Ka _, .inl hj⟩
end
theorem wK{P:Program}{k:Sh}{f f0:Nat}(hL:aF P f=some (LB.aEM k f0))(own:Own)(l:List V)(hn:∀L,bM L l)(h:Hp):
 aO P f [.sl k own l] h (.fn (.func f0) [] [.ept .leaf [(V.sl k own l).loose] 0 0]):=by
 refine aI (fun L=>?_) fun h' nx hh=>pC (aB hL fun hd=>?_)
 ·cases own<;>simp[V.loose,V.names,bM,hn L]
 simp only[jL,jM,jA,jB,jN,jO,jP,jQ,V.undef];refine wl ?_;refine cA (aC _ (Ka _) ⟨nx,Km _,?_,rfl⟩);simp only[go_sem,reduceIte,jA,jB,jC,jD,reduceCtorEq,jE,jF]
section
variable{P:Program}{k:Sh}{α:Type}(e:α→V)(aAG:∀x,(e x).fits k=true)
include aAG
theorem al{f bs:Nat}{z:V}(hL:aF P f=some (LB.aA2 k z bs))(hz:z.fits k=true)(hbs:bs≤140737)(g:Nat)(caps:List V)(hb:Hp)(xs:List α)(hit:ap P g caps hb (xs.map fun x=>[e x]))(hl:xs.length≤100000000)
 (h':Hp) (nx:Nat) (hh:hb.has h'):
 aX P f [.sl k .nil [], .fn (.func g) [] caps] h' nx fun v h'' _=>(xs=[]∧v= .sl k .nil []∧h''=h')∨(xs≠ []∧∃id,nx≤id∧v= .rs id k 0 xs.length∧h''=h'.set id (.arr k (xs.map e))):=by
 refine aB hL fun hd=>?_;simp only[jL,jM,jA,jB,jN,jO,jP,jQ,V.undef];refine wl ?_;have aAb:∀n,nx≤n→h' n=none:=fun n hn=>aW.none hd hn;obtain⟨I,hI⟩:∃I:Nat→Hp→Nat→Prop,∀i h nx1,I i h nx1↔(h'.le h∧∃acc,h nx=some (.arr .leaf [acc])∧((i=0∧acc= .sl k .nil [])∨(0<i∧∃id,nx≤id∧id≠nx∧id≠nx+1∧acc= .rs id k 0 i∧h id=some (.arr k ((xs.take i).map e))))):=⟨_,fun _ _ _=>Iff.rfl⟩;refine kT hit rfl Zm (aW.set hd Zm Zm _) I (fun _ _ _=>False) ?_ ?_ ?_ (fun _ _ _ _ h=>h.elim) (fun _ _ _ _ h=>h.elim) ?_ ?_ ?_ (fun _ _ _ h=>h.elim)
 ·intro i h nx1 hi;exact pT hh (yj ((hI _ _ _).1 hi).1)
 ·exact fun i h nx1 nx2 hi _=>(hI _ _ _).2 ((hI _ _ _).1 hi)
 ·intro i h nx1 b hi;obtain⟨hle,acc,h1,h2⟩:=(hI _ _ _).1 hi;refine(hI _ _ _).2 ⟨gM hle (aAb _ Zm) b,acc,?_,?_⟩
  ·simp only[Kc];rw[if_neg Zm];exact h1
  rcases h2 with h2|⟨hi,id,h3,h4,h5,h6,h7⟩
  ·exact .inl h2
  refine .inr ⟨hi,id,h3,h4,h5,h6,?_⟩;simp only[Kc];rw[if_neg h5];exact h7
 ·exact(hI _ _ _).2 ⟨gM (Ka _) (aAb _ Zm) _, .sl k .nil [],by simp[Kc], .inl ⟨rfl,rfl⟩⟩
 ·intro i hi h nx1 X hii hnx hX hdm;obtain⟨hle,acc,h1,h2⟩:=(hI _ _ _).1 hii;simp only at hnx hX;have hi':i<xs.length:=by simpa using hi
  have aRE:nx<nx1:=or;have e1:(nx=nx1)=False:=by simp;omega
  have e2:(nx+1=nx1)=False:=by simp;omega
  have e4:(nx1=nx+1)=False:=by simp;omega
  have e6:(nx1=nx)=False:=by simp;omega
  have e7:(nx=nx1+2)=False:=by simp;omega
  have e8:(nx+1=nx1+2)=False:=by simp;omega
  have e9:(nx=nx1+3)=False:=by simp;omega
  have e10:(nx+1=nx1+3)=False:=by simp;omega
  have hx:(xs.map fun x=>[e x])[i]=[e xs[i]]:=Zm;simp only[aAS,hx,List.set_cons_succ,List.set_cons_zero];refine wle (ee5 hz aAG e1 e2 e4) ?_;refine lS (by simp only[e1,e2,e4,go_sem,reduceIte,jA,jB,jC,jD,reduceCtorEq,jE,jF];exact hX) fun X'=>?_;refine Zn ?_;refine dY (fI ?_);have aCx:∀(h'':Hp) (nx2 id:Nat),h'.le h''→nx1≤id→h'' nx=some (.arr .leaf [.rs id k 0 (i+1)])→h'' (nx+1)=some X'→h'' id=some (.arr k ((xs.take (i+1)).map e))→∀sl,cW 1 (lX (nx+1) X' (I (i+1)) (fun _ _ _=>False)) .normal ⟨sl,h'',nx2⟩:=by
   intro h'' nx2 id q1 q2 q3 q4 q5 sl;exact bW (lW q4 ((hI _ _ _).2 ⟨q1,_,q3, .inr ⟨or,id,or,or,or,rfl,q5⟩⟩))
  generalize hQ:cW 1 (lX (nx+1) X' (I (i+1)) (fun _ _ _=>False)) .normal=Qn at aCx⊢;have aAw:∀n b,nx1≤n→∀{h2:Hp},h'.le h2→h'.le (h2.set n b):=fun n b hn h2 q=>gM q (aAb n or) b;have aHH:∀n,nx≤n→∀{h2:Hp},h'.le h2→∀b,h'.le (h2.set n b):=fun n hn h2 q b=>gM q (aAb n hn) b;rcases h2 with⟨rfl,rfl⟩|⟨aAi,id,h3,h4,h5,rfl,h7⟩
  ·refine fB 3 rfl (by simp only[h1,aAG,hz,e1,e2,e4,e6,go_sem,reduceIte,jA,jB,jC,jD,reduceCtorEq,jE,jF]) ?_;simp only[h1,aAG,hz,e1,e2,e4,e6,go_sem,reduceIte,jA,jB,jC,jD,reduceCtorEq,jE,jF];refine nJ rfl rfl Zm (by simp only[jL,jM];omega) ?_;refine iE rfl (by simp only[h1,aAG,hz,e1,e2,e4,e6,e7,e8,e9,e10,go_sem,reduceIte,jA,jB,jC,jD,reduceCtorEq,jE,jF];try omega) ?_;simp only[h1,aAG,hz,e1,e2,e4,e6,e7,e8,e9,e10,go_sem,reduceIte,jA,jB,jC,jD,reduceCtorEq,jE,jF];refine aCx _ _ (nx1+3) ?_ or ?_ ?_ ?_ _
   ·repeat (first|exact hle|refine aHH _ or ?_ _)
   ·simp only[h1,e1,e2,e4,e6,e7,e8,e9,e10,go_sem,reduceIte,jA,jB,jC,jD,reduceCtorEq,jE,jF]
   ·simp only[h1,e1,e2,e4,e6,e7,e8,e9,e10,go_sem,reduceIte,jA,jB,jC,jD,reduceCtorEq,jE,jF]
   have:xs.take (0+1)=[xs[0]]:=by
    cases xs with
    |nil=>simp at hi'
    |cons x l=>simp
   rw[this];simp only[KB,KC,go_sem,reduceIte,jA,jB,jC,jD,reduceCtorEq,jE,jF];have:(nx1+3=nx)=False:=by simp;omega
   simp only[this,go_sem,reduceIte,jA,jB,jC,jD,reduceCtorEq,jE,jF]
  have hid:id<nx1:=hdm _ _ h7;have f1:(id=nx1)=False:=by simp;omega
  have f2:(id=nx1+2)=False:=by simp;omega
  have f3:(id=nx)=False:=by simp;omega
  have f4:(id=nx+1)=False:=by simp;omega
  have f5:(id=nx1+3)=False:=by simp;omega
  have f6:(nx=id)=False:=by simp;omega
  have f7:(nx+1=id)=False:=by simp;omega
  have f8:(nx1+3=id)=False:=by simp;omega
  have hlen:((xs.take i).map e).length=i:=by simp;omega
  have hb1:(i+1)*bs≤140737488355328:=qA or hbs;refine iE rfl (by simp only[h1,h7,hlen,hb1,aAG,hz,e1,e2,e4,e6,e7,e8,e9,e10,f1,f2,f3,f4,f5,f6,f7,f8,go_sem,reduceIte,jA,jB,jC,jD,reduceCtorEq,jE,jF];try omega) ?_;simp only[h1,h7,hlen,hb1,aAG,hz,e1,e2,e4,e6,e7,e8,e9,e10,f1,f2,f3,f4,f5,f6,f7,f8,go_sem,reduceIte,jA,jB,jC,jD,reduceCtorEq,jE,jF];refine aCx _ _ (nx1+3) ?_ or ?_ ?_ ?_ _
  ·repeat (first|exact hle|refine aHH _ or ?_ _|refine kX ?_ (aAb _ h3))
  ·simp only[h1,e1,e2,e4,e6,e7,e8,e9,e10,go_sem,reduceIte,jA,jB,jC,jD,reduceCtorEq,jE,jF]
  ·simp only[h1,e1,e2,e4,e6,e7,e8,e9,e10,f6,f7,go_sem,reduceIte,jA,jB,jC,jD,reduceCtorEq,jE,jF]
  have:(nx1+3=nx)=False:=by simp;omega
  rw[Kk hi',List.map_append];simp only[this,KB,KC,go_sem,reduceIte,jA,jB,jC,jD,reduceCtorEq,jE,jF]
 intro h nx1 hii hnx hdm;obtain⟨hle,acc,h1,h2⟩:=(hI _ _ _).1 hii;simp only at hnx;have e1:(nx=nx+1)=False:=Zm;refine wle (ee2 h1 e1) ?_;rcases h2 with⟨h2,rfl⟩|⟨aAi,id,h3,h4,h5,rfl,h7⟩
 ·refine cA (aC h' ?_ (.inl ⟨?_,?_,rfl⟩))
  ·exact kX hle (aAb _ Zm)
  ·cases xs with
   |nil=>rfl
   |cons x l=>simp at h2
  simp only[go_sem,reduceIte,jA,jB,jC,jD,reduceCtorEq,jE,jF]
 have hne:xs≠ []:=by rintro rfl;simp at aAi
 refine cA (aC (h'.set id (.arr k (xs.map e))) ?_ (.inr ⟨hne,id,h3,?_,rfl⟩))
 ·refine be (kX hle (aAb _ Zm)) ?_;simp only[Hp.aAn];rw[if_neg h5,h7];simp
 simp only[jK,go_sem,reduceIte,jA,jB,jC,jD,reduceCtorEq,jE,jF]
theorem k8{f f0 bs:Nat}{z:V}(hL:aF P f=some (LB.Collect k f0))(hL0:aF P f0=some (LB.aA2 k z bs))(hz:z.fits k=true)(hbs:bs≤140737)(g:Nat)(caps:List V)(hb:Hp)(xs:List α)(hit:ap P g caps hb (xs.map fun x=>[e x]))(hl:xs.length≤100000000)
 (h':Hp) (nx:Nat) (hh:hb.has h'):
 aX P f [.fn (.func g) [] caps] h' nx fun v h'' _=>(xs=[]∧v= .sl k .nil []∧h''=h')∨(xs≠ []∧∃id,nx≤id∧v= .rs id k 0 xs.length∧h''=h'.set id (.arr k (xs.map e))):=by
 refine aB hL fun hd=>?_;simp only[jL,jM,jA,jB,jN,jO,jP,jQ,V.undef];refine wl ?_;refine bG ((al e aAG hL0 hz hbs g caps hb xs hit hl _ _ hh).mono ?_);intro v h'' nx' hnx hv;unfold dF;refine Zn ?_;refine wl ?_;exact cA (aC h'' (Ka _) hv)
end
end Go.Proofs.YtjfdoohogiojcaaGreatDoor
namespace Go.Proofs.YtjfdoohogiojcaaGreatDoor
open Go.RowKit Go.Sort Go.Shelf Go.Lib
theorem VR.refro{K:Ker}{F:Nat→Prop}(hF:∀b,K.fro b→F b){v:V}{cv:Value}(r:VR K v cv):VR {K with fro:=F} v cv:=by
 have st:∀b o,K.still b o→Ker.still {K with fro:=F} b o:=fun b o h=>h.elim (fun h=> .inl (hF b h)) .inr;induction r with
 |bool b=>exact .bool b
 |int k n=>exact .int k n
 |str s=>exact .str s
 |nilPtr=>exact .nilPtr
 |ptr n k i o hn=>exact .ptr (K:={K with fro:=F}) n k i o hn
 |ept k es i o b off f hb aAG hcell hst hv ih=>exact .ept (K:={K with fro:=F}) k es i o b off f hb aAG hcell (fun j hj=>st _ _ (hst j hj)) ih
 |slnil k=>exact .slnil k
 |slz k a=>exact .slz k a
 |sl k own es b off cap f hb aAG hcell hst hv hcap aAd aAR aAz ih=>exact .sl (K:={K with fro:=F}) k own es b off cap f hb aAG hcell (fun j hj=>st _ _ (hst j hj)) ih hcap aAd aAR aAz
 |rs n k off len cap hn hcap hm=>exact .rs (K:={K with fro:=F}) n k off len cap hn hcap hm
 |aAM=>exact .aAM
 |map n hn=>exact .map (K:={K with fro:=F}) n hn
 |aAN=>exact .aAN
 |chan n hn=>exact .chan (K:={K with fro:=F}) n hn
 |fn f first cap cfirst ccap h1 h2 _ _ v1 v2=>exact .fn f first cap cfirst ccap h1 h2 v1 v2
 |aAa=>exact .aAa
 |yld n hn=>exact .yld (K:={K with fro:=F}) n hn
 |iface t v cv _ ih=>exact .iface t v cv ih
 |nilIface=>exact .nilIface
 |agg cs ccs hl _ ih=>exact .agg cs ccs hl ih
 |tup cs ccs hl _ ih=>exact .tup cs ccs hl ih
 |top cv=>exact .top cv
theorem cj{w w':World}(h:mU (fun b=>b<w.heap.size) w w'):∃q os',w'=grow (w.drewN q) os':=by
 refine⟨w'.drawn-w.drawn,w'.heap.extract w.heap.size w'.heap.size,?_⟩;obtain⟨h1,h2,h3,h4,h5,h6⟩:=h;obtain⟨heap,tape,drawn,os,output⟩:=w;obtain⟨aLR,aQ0,aQx,os',aKp⟩:=w';simp only at h1 h2 h3 h4 h5 h6;subst h1 h2 h3;unfold grow World.drewN;simp only[World.mk.injEq,and_true,true_and];refine⟨?_,or⟩;apply Array.ext_getElem?;intro i;by_cases hi:i<heap.size
 ·rw[h6 i hi (.inl hi),Kh hi]
 rw[Array.getElem?_append_right or,Array.getElem?_extract];by_cases hi2:i<aLR.size
 ·rw[if_pos or];congr 1;omega
 rw[if_neg or,Kj or]
theorem fW{α:Type} [Inhabited α](enc:α→List Value)(k:Nat)(w:World)(blk off m:Nat)(dk:Array α)(os:Array Obj)(b:Nat)(hb:b<w.heap.size)(hne:b≠blk):(sortWorldK enc k w blk off m dk os).heap[b]?=w.heap[b]?:=by
 unfold sortWorldK putRowK putRow mapBlock grow;simp only[heap_ahead];rw[Kh (by simpa using hb),Kq,if_neg (fun e=>hne e.symm)]
theorem nW{α:Type} [Inhabited α](enc:α→List Value)(k:Nat)(w:World)(blk off m:Nat)(dk:Array α)(os:Array Obj){c:Array Value}{T:TypeId}{fr:Nat×Nat}(hh:w.heap[blk]?=some (.cells c T fr)):∃c':Array Value,(sortWorldK enc k w blk off m dk os).heap[blk]?=some (.cells c' T fr)∧c'.size=c.size:=by
 have hb:blk<w.heap.size:=by
  rcases KD blk w.heap.size with hlt|hge
  ·exact hlt
  rw[Kj hge] at hh;exact absurd hh Zm
 refine⟨putCells id off (flatK enc k dk) c,?_,by simp[putCells]⟩;unfold sortWorldK putRowK putRow mapBlock grow;simp only[heap_ahead];rw[Kh (by simpa using hb),Kq,if_pos rfl,hh];rfl
theorem qN{K:Ker}{α:Type} [Inhabited α](enc:α→List Value)(k:Nat)(blk off m:Nat)(dk:Array α)(os:Array Obj){c:Array Value}{T:TypeId}(hh:K.w.heap[blk]?=some (.cells c T (0,0)))(hf:¬K.fro blk)(hi:K.imm blk=0):
 K.le {K with w:=sortWorldK enc k K.w blk off m dk os} where
 live _ hn:=hn
 mu _ _:=rfl
 tp _ _:=rfl
 fro:=rfl
 imm _ _:=Km _
 cell b o hb hst:=by
  have hne:b≠blk:=by
   rintro rfl;rcases hst with h|h
   ·exact hf h
   omega
  exact eS (fW enc k K.w blk off m dk os b hb hne)
 shape b hb:=by
  by_cases e:b=blk
  ·subst e;obtain⟨c',h1,h2⟩:=nW enc k K.w b off m dk os hh;simp only[Kz,h1,hh,h2]
  simp only[Kz,fW enc k K.w blk off m dk os b hb e]
 below:=⟨rfl,rfl,rfl,Nat.le_add_right _ _,size_sortWorldK_c enc k K.w blk off m dk os,fun b hb hF=>fW enc k K.w blk off m dk os b hb (fun e=>hF.elim (fun hF=>hf (e▸hF)) fun hm=>by subst e;unfold fF at hm;rw[hh] at hm;cases hm)⟩
theorem wP{α β:Type}(f:α→β){cf:β→β→Int}(h:SWO (ltOf cf)):SWO (ltOf fun x y:α=>cf (f x) (f y)):=
 ⟨fun x=>h.irrefl (f x),fun x y z=>h.trans (f x) (f y) (f z),fun x y z=>h.ntrans (f x) (f y) (f z)⟩
def fU{δ:Type}(cf:δ→δ→Int)(l:List δ):Prop:=l.Pairwise fun x y=>ltOf cf y x=false
theorem dx{P:Program}{ρ:Ren}(L:SlLaysF0.n6 P ρ)(k:Nat)(aE:∀w,(isAgg (ρ.t 24)).run P w= .ok true w)(zE:∀w,(Go.sizeOf (ρ.t 24)).run P w= .ok k w)(hen:fD P (ρ.f 6)=true)
 {δ:Type} (e:δ→V) (aAG:∀d,(e d).fits (.agg k)=true) (cf:δ→δ→Int) (hO:SWO (ltOf cf)) (g:Nat) (caps:List V) (aEy:∀x y,aO P g ([e x,e y]++caps) Kb (.int .i64 (cf x y)))
 (n:Nat) (ds:List δ) (hne:ds≠ []) (h:Hp) (nx:Nat) (hn:h n=some (.arr (.agg k) (ds.map e))) (hlen:ds.length<4611686018427387904):
 aX P (ρ.f 6) [.rs n (.agg k) 0 ds.length, .fn (.func g) [] caps] h nx fun v h' nx'=>v= .tup []∧nx'=nx∧∃ds':List δ,ds'.Perm ds∧fU cf ds'∧h'=h.set n (.arr (.agg k) (ds'.map e)):=by
 refine⟨hen,fun K cargs hlv hr hv=>?_⟩;obtain⟨hsz,hv⟩:=hv;have hsz:cargs.size=2:=by simpa using hsz.symm
 obtain⟨c1,c2,rfl⟩:∃c1 c2,cargs=#[c1,c2]:=⟨cargs[0],cargs[1],by
  apply KF
  ·simp[hsz]
  intro i h1 h2;have:i=0∨i=1:=by simp at h2;omega
  rcases this with rfl|rfl<;>rfl⟩
 have v1:=hv 0 Zm;have v2:=hv 1 Zm;have hb:=hr.blk n _ hn;have aHN:=hr.base n _ hn;cases hb with
 |arr _ _ c T hh hcs aAg aA1 hcv=>
  have v1:VR K (.rs n (.agg k) 0 ds.length) c1:=v1;have v2:VR K (.fn (.func g) [] caps) c2:=v2;cases v1 with
  |rs _ _ _ _ cap hl hcap hm=>
   cases v2 with
   |fn _ _ _ cfirst ccap q1 q2 w1 w2=>
    have hcf:cfirst=#[]:=by
     have:cfirst.size=0:=by simpa using q1.symm
     exact Array.eq_empty_of_size_eq_zero this
    subst hcf;have hcs:ds.length*k≤c.size:=by simpa [Sh.size] using hcs
    have hblk:K.mu n<K.w.heap.size:=by
     rcases KD (K.mu n) K.w.heap.size with hlt|hge
     ·exact hlt
     rw[Kj hge] at hh;exact absurd hh Zm
    --data beside their cells
    let A:={p:δ×List Value // p.2.length=k∧VR K (e p.1) (.agg p.2.toArray)}
    let cells:Nat→List Value:=fun i=>(List.range k).map fun j=>c.getD (i*k+j) Ko
    have hcell:∀i (hi:i<ds.length),(cells i).length=k∧VR K (e ds[i]) (.agg (cells i).toArray):=fun i hi=>by
     refine⟨by simp[cells],VR.aCt (aAG _) (by simp[cells]) fun j hj=>?_⟩;have:=hcv i (by simpa using hi) j (by simpa [Sh.size] using hj);simp only[Kg,List.getElem?_map,Kf hi,Option.map_some,Ky,Sh.size] at this;simpa [cells,Ke,hj] using this
    have aAi:0<ds.length:=List.length_pos_iff.2 hne
    haveI:Inhabited A:=⟨⟨(ds[0],cells 0),hcell 0 aAi⟩⟩
    let d:Array A:=Array.ofFn fun i:Fin ds.length=>(⟨(ds[i],cells i),hcell i i.2⟩:A)
    have hds:d.size=ds.length:=by simp[d]
    have hd:∀i (hi:i<ds.length),d[i]! =(⟨(ds[i],cells i),hcell i hi⟩:A):=fun i hi=>by
     rw[getElem!_pos d i (by rw[hds];exact hi)];simp[d]
    let enc:A→List Value:=fun p=>p.1.2
    have hk:∀x:A,(enc x).length=k:=fun x=>x.2.1;have h1:∀x:A,∀v∈enc x,v.oneCell'=true:=by
     intro x v hv;obtain⟨a1,a2,a3,a4⟩:=x.2.2.cells (aAG x.1.1);obtain⟨j,hj,rfl⟩:=List.mem_iff_getElem.1 hv;have hjk:j<k:=by rw[←hk x];exact hj
     have h3:=a3 j hjk;have h4:=a4 j hjk;have:=h3.aA3 h4;have e1:(Value.agg x.1.2.toArray).cells.getD j Ko=(enc x)[j]:=by
      show x.1.2.toArray.getD j Ko=x.1.2[j];rw[Ke];simp only[Ks];rw[Kf hj];rfl
     rw[e1] at this;exact this
    have hH:HoldsK enc k K.w (K.mu n) 0 d:=by
     intro j hj;rw[size_flatK,hds] at hj;rw[get_flatK _ _ _ _ (by rw[hds];exact hj)];have hk0:0<k:=by
      rcases Nat.eq_zero_or_pos k with h|h
      ·subst h;simp at hj
      exact h
     have hq:j / k<ds.length:=by rw[Nat.div_lt_iff_lt_mul hk0];exact hj
     have hm:j % k<k:=Nat.mod_lt _ hk0;constructor
     ·rw[hd _ hq];simp only[KA,hh,KE,enc,cells,id];have:j / k*k+j % k=j:=by rw[Nat.mul_comm];exact Nat.div_add_mod j k
      simp only[Kt,Ku,if_false];rw[getElem!_pos _ _ (by simpa using hm)];simp only[Kx,List.getElem_range,this];rw[Ke,Array.getElem?_eq_getElem or];rfl
     simp only[World.frozen?,hh];simp
    have hC:CmpLays P g ccap enc k (fun x y:A=>cf x.1.1 y.1.1) (K.mu n) 0 d.size K.w:=by
     intro m os dk _ x y;have hle:=qN enc k (K.mu n) 0 m dk os hh aHN aAg;generalize hW:sortWorldK enc k K.w (K.mu n) 0 m dk os=W at hle⊢;have hp:=(aEy x.1.1 y.1.1) Kb nx (aM _);have up:∀{v cv},VR K v cv→VR {K with w:=W,fro:=fun b=>b<W.heap.size} v cv:=fun r=>VR.refro (K:={K with w:=W}) (fun b hb=>Nat.lt_of_lt_of_le (hr.size.lt b hb) (by rw[←hW];exact size_sortWorldK_c enc k K.w _ _ m dk os)) (r.mono hle)
     have c:=hp.2 {K with w:=W,fro:=fun b=>b<W.heap.size} (#[.agg (enc x).toArray, .agg (enc y).toArray]++ccap) hlv ⟨(fun n b e=>by cases e),(fun n b e=>by cases e),(fun n b e=>by cases e),(fun n n' b b' e=>by cases e),((hr.size.keep hle).all)⟩
      ((show VRs _ [e x.1.1,e y.1.1] #[.agg (enc x).toArray, .agg (enc y).toArray] from⟨rfl,fun i hi=>by
        have:i=0∨i=1:=by simp at hi;omega
        rcases this with rfl|rfl
        ·exact up x.2.2
        exact up y.2.2⟩).append ⟨q2,fun i hi=>up (w2 i hi)⟩)
     refine c.mono ?_;rintro e' w' ⟨K',v,cv,h',nx',rfl,rfl,a1,a2,a3,a4,a5,rfl,rfl,rfl⟩;cases a2;exact⟨rfl,cj a1.below⟩
    have key:=AnyQ.slices_SortFunc L k aE zE enc hk h1 (fun x y:A=>cf x.1.1 y.1.1) (wP (fun x:A=>x.1.1) hO) g ccap (K.mu n) 0 cap d K.w (fun args w=>fX (aEy ds[0] ds[0] Kb 0 (aM _)).1 args w) hC hH hblk (by rw[hds];exact hlen);rw[hds] at key;have e0:(0:Nat)*(Sh.agg k).size=0:=Nat.zero_mul _;rw[e0];refine key.mono ?_;rintro e' w' ⟨rfl,d',m,os,hp,hs,rfl⟩;obtain⟨hp1,_,hp3⟩:=hp;have hp1:d'.size=ds.length:=by rw[hp1,hds]
    have hle:=qN enc k (K.mu n) 0 m d' os hh aHN aAg;have hH':=holdsK_sortWorldK_c enc k K.w (K.mu n) 0 d d' m os hH hblk (by rw[hp1,hds]);obtain⟨c',hh',hcz⟩:=nW enc k K.w (K.mu n) 0 m d' os hh;refine⟨{K with w:=sortWorldK enc k K.w (K.mu n) 0 m d' os}, .tup [], .tuple #[],h.set n (.arr (.agg k) ((d'.toList.map fun x=>x.1.1).map e)),nx,rfl,rfl,hle, .tup [] #[] rfl (fun i hi=>absurd hi Zm),?_,fun m hm=>⟨hlv m hm, .inl hm⟩,Km _,rfl,rfl,_,?_,?_,rfl⟩
    ·have keep:∀m b,h m=some b→m≠n→(sortWorldK enc k K.w (K.mu n) 0 (ds.length*0+0) d' os).heap.size=(sortWorldK enc k K.w (K.mu n) 0 (ds.length*0+0) d' os).heap.size:=fun _ _ _ _=>rfl;have aBr:∀m b,(h.set n (.arr (.agg k) ((d'.toList.map fun x=>x.1.1).map e))) m=some b→∃b',h m=some b':=fun m' b' e'=>by
      unfold Kd at e';split at e'
      ·rename_i em;subst em;exact⟨_,hn⟩
      exact⟨_,e'⟩
     refine⟨fun m' b' e'=>?_,fun m' b' e'=>?_,fun m' b' e'=>?_,fun m1 m2 b1 b2 e1 e2 em=>?_,hr.size.keep hle⟩
     ·obtain⟨b2,e2⟩:=aBr m' b' e';exact hr.lt m' b2 e2
     ·obtain⟨b2,e2⟩:=aBr m' b' e';exact hr.base m' b2 e2
     ·by_cases em:m'=n
      ·subst em;have eb:b'= .arr (.agg k) ((d'.toList.map fun x=>x.1.1).map e):=by simpa [Kd] using e'.symm
       subst eb;refine .arr _ _ c' T hh' (by
        have e0:((d'.toList.map fun x=>x.1.1).map e).length=ds.length:=by
         simp only[List.length_map,Array.length_toList];omega
        rw[hcz,e0];exact hcs) aAg (fun v hv=>?_) fun i hi j hj=>?_
       ·obtain⟨x,_,rfl⟩:=List.mem_map.1 hv;exact aAG x
       have hi:i<d'.size:=by simpa using hi
       have hj:j<k:=by simpa [Sh.size] using hj
       obtain⟨g1,_⟩:=hH'.cell hi hj;simp only[KA,hh',Kt,Ku,if_false,KE] at g1;have x2:=(d'[i]!).2.2;obtain⟨_,_,a3,_⟩:=x2.cells (aAG (d'[i]!).1.1);have:=(a3 j hj).mono hle;have e1:(((d'.toList.map fun x=>x.1.1).map e).getD i V.undef)=e (d'[i]!).1.1:=by
        rw[getElem!_pos d' i hi];simp[Kg,hi]
       have e2:c'.getD (i*(Sh.agg k).size+j) Ko=(Value.agg (d'[i]!).1.2.toArray).cells.getD j Ko:=by
        show c'.getD (i*k+j) Ko=(d'[i]!).1.2.toArray.getD j Ko;rw[Ke,g1,Ke];have hjl:j<(d'[i]!).1.2.length:=by rw[(d'[i]!).2.1];exact hj
        simp only[Ks,Kf hjl,Ky];exact getElem!_pos (d'[i]!).1.2 j hjl
       rw[e1,e2];exact this
      have e2:h m'=some b':=by unfold Kd at e';rw[if_neg em] at e';exact e'
      have hne:K.mu m'≠K.mu n:=fun e3=>em (hr.inj m' n _ _ e2 hn e3);exact(hr.blk m' b' e2).mono hle (hr.lt m' b' e2) (fW enc k K.w (K.mu n) 0 m d' os _ (hr.blk m' b' e2).lt_size hne) rfl
     obtain⟨b3,e3⟩:=aBr m1 b1 e1;obtain⟨b4,e4⟩:=aBr m2 b2 e2;exact hr.inj m1 m2 b3 b4 e3 e4 em
    ·have p:=hp3.map fun x:A=>x.1.1;have ex:∀(x:Array A),x.size=ds.length→x.extract 0 ds.length=x:=fun x hx=>by rw[←hx];simp
     rw[ex d' hp1,ex d hds] at p;have:d.toList.map (fun x:A=>x.1.1)=ds:=by
      apply List.ext_getElem
      ·simp[hds]
      intro i h1 h2;simp[d]
     rw[this] at p;exact p
    unfold fU;rw[List.pairwise_map,List.pairwise_iff_getElem];intro i j hi hj hij;have:=hs i j (Kw _) hij (by simpa [hp1] using hj);rw[getElem!_pos d' i (by simpa using hi),getElem!_pos d' j (by simpa using hj)] at this;simpa [ltOf] using this
end Go.Proofs.YtjfdoohogiojcaaGreatDoor
namespace Go.Proofs.YtjfdoohogiojcaaGreatDoor
open Go.RowKit Go.Sort Go.Shelf Go.Lib
def lst(k:Sh)(es:List V):V:=if es.isEmpty=true then .sl k .nil [] else .sl k .free es
theorem rf(k:Sh):lst k []= .sl k .nil []:=rfl
theorem gS{k:Sh}{es:List V}(h:∀L,bM L es)(L:Nat→Prop):(lst k es).names L:=by
 unfold lst;split<;>simp[V.names,h L,bM]
theorem iR(k:Sh)(es:List V):∃own,lst k es= .sl k own es:=by
 cases es with
 |nil=>exact⟨.nil,rfl⟩
 |cons e es=>exact⟨.free,rfl⟩
def zr(nx:Nat)(h:Hp)(k:Sh)(es:List V)(v:V)(h':Hp):Prop:=
 (es=[]∧v= .sl k .nil []∧h'=h)∨(es≠ []∧∃id,nx≤id∧v= .sl k (.tok id) es∧h'=h.set id .tip)
def gy(nx:Nat)(h:Hp)(k:Sh)(es:List V)(v:V)(h':Hp):Prop:=
 (es=[]∧v= .sl k .nil []∧h'=h)∨(es≠ []∧∃id,nx≤id∧v= .rs id k 0 es.length∧h'=h.set id (.arr k es))
theorem zr.le{nx:Nat}{h:Hp}{k:Sh}{es:List V}{v:V}{h':Hp}(f:zr nx h k es v h')(hd:aW h nx):h.le h':=by
 rcases f with⟨_,_,rfl⟩|⟨_,id,hid,_,rfl⟩
 ·exact Ka _
 exact gM (Ka _) (hd.none hid) _
theorem aX.conv{P:Program}{f:FuncId}{args:List V}{h:Hp}{nx:Nat}{R R':V→Hp→Nat→Prop}(c:aX P f args h nx R)(hc:∀v h' nx',nx≤nx'→aW h' nx'→R v h' nx'→∃h2,h2.le h'∧R' v.loose h2 nx'):aX P f args h nx R':=by
 refine⟨c.1,fun K cargs hl hr hv=>(c.2 K cargs hl hr hv).mono ?_⟩;rintro e w' ⟨K',v,cv,h',nx',rfl,he,hle,hvr,hrel,hlv,hnx,hR⟩;obtain⟨h2,q1,q2⟩:=hc v h' nx' hnx (fun m b hm=>(hlv m (hrel.lt m b hm)).1) hR;exact⟨K',v.loose,cv,h2,nx',rfl,he,hle,hvr.loose,hrel.weaken q1,hlv,hnx,q2⟩
theorem lY{P:Program}{f:FuncId}{args:List V}{h:Hp}{v:V}(hv:∀L,v.names L)(hc:∀h' nx,h.has h'→aX P f args h' nx fun v' h'' _=>v'.loose=v∧h'.le h''):aO P f args h v:=
 aI hv fun h' nx hh=>(hc h' nx hh).conv fun v' h'' nx' _ _ hq=>⟨h',hq.2,hq.1,rfl⟩
theorem qH{P:Program}{ρ:Ren}(L:SlLaysF0.n6 P ρ)(hen:fD P (ρ.f 6)=true)(k:Sh)(fv:V)(h:Hp)(nx:Nat):aX P (ρ.f 6) [.sl k .nil [],fv] h nx fun v h' nx'=>v= .tup []∧h'=h:=by
 refine⟨hen,fun K cargs hlv hr hv=>?_⟩;obtain⟨hsz,hv⟩:=hv;have hsz:cargs.size=2:=by simpa using hsz.symm
 obtain⟨c1,c2,rfl⟩:∃c1 c2,cargs=#[c1,c2]:=⟨cargs[0],cargs[1],by
  apply KF
  ·simp[hsz]
  intro i h1 h2;have:i=0∨i=1:=by simp at h2;omega
  rcases this with rfl|rfl<;>rfl⟩
 have v1:VR K (.sl k .nil []) c1:=hv 0 Zm;cases v1 with
 |sl _ _ _ b off cap f hb aAG hcell hst hv hcap aAd aAR aAz=>exact absurd rfl aAd
 |slnil=>
  refine(AnyF.slices_SortFunc_none L none 0 c2 K.w).mono ?_;rintro e w' ⟨rfl,rfl⟩;exact⟨K, .tup [], .tuple #[],h,nx,rfl,rfl, .refl K, .tup [] #[] rfl (fun i hi=>absurd hi Zm),hr,fun n hn=>⟨hlv n hn, .inl hn⟩,Km _,rfl,rfl⟩
section
variable{P:Program}{α:Type}(e:α→V)
theorem tL{ρ:Ren}(L:SlLaysF0.n6 P ρ){n:Nat}(aAG:∀x,(e x).fits (.agg n)=true)(aE:∀w,(isAgg (ρ.t 24)).run P w= .ok true w)(zE:∀w,(Go.sizeOf (ρ.t 24)).run P w= .ok n w)(hen:fD P (ρ.f 6)=true)
 {f f0 f1 f2 bs:Nat} {z:V} (hL:aF P f=some (LB.aAr (.agg n) f0 f1)) (hL0:aF P f0=some (LB.Collect (.agg n) f2)) (hL2:aF P f2=some (LB.aA2 (.agg n) z bs)) (hz:z.fits (.agg n)=true) (hbs:bs≤140737) (hf1:f1=ρ.f 6)
 (g:Nat) (caps:List V) (hb:Hp) (xs:List α) (hit:ap P g caps hb (xs.map fun x=>[e x])) (hl:xs.length≤100000000)
 (cf:α→α→Int) (hO:SWO (ltOf cf)) (gc:Nat) (aGj:List V) (aEy:∀x y,aO P gc ([e x,e y]++aGj) Kb (.int .i64 (cf x y))) (h':Hp) (nx:Nat) (hh:hb.has h'):
 aX P f [.fn (.func g) [] caps, .fn (.func gc) [] aGj] h' nx fun v h'' _=>∃es,(∃ys:List α,ys.Perm xs∧fU cf ys∧es=ys.map e)∧gy nx h' (.agg n) es v h'':=by
 refine aB hL fun hd=>?_;simp only[jL,jM,jA,jB,jN,jO,jP,jQ,V.undef];refine wl ?_;refine bG ((k8 e aAG hL0 hL2 hz hbs g caps hb xs hit hl _ _ hh).mono ?_);intro v h'' nx' hnx hv;unfold dF;rcases hv with⟨rfl,rfl,rfl⟩|⟨hne,id,hid,rfl,rfl⟩
 ·refine Zn ?_;refine wl ?_;refine bG ?_;subst hf1;refine(qH L hen (.agg n) _ _ _).mono ?_;rintro v h'' aKq _ ⟨rfl,rfl⟩;unfold dF;refine Zn ?_;refine wl ?_;exact cA (aC h'' (Ka _) ⟨[],⟨[],List.Perm.refl _,List.Pairwise.nil,rfl⟩, .inl ⟨rfl,rfl,rfl⟩⟩)
 refine Zn ?_;refine wl ?_;refine bG ?_;subst hf1;refine(dx L n aE zE hen e aAG cf hO gc aGj aEy id xs hne _ _ (by simp[Kd]) or).mono ?_;rintro v h'' aKq _ ⟨rfl,rfl,ys,hp,hs,rfl⟩;unfold dF;refine Zn ?_;refine wl ?_;have hlen:ys.length=xs.length:=hp.length_eq;refine cA (aC _ (Ka _) ⟨ys.map e,⟨ys,hp,hs,rfl⟩, .inr ⟨?_,id,hid,?_,?_⟩⟩)
 ·intro hys;have:ys=[]:=by simpa using hys
  subst this;exact hne (List.length_eq_zero_iff.1 (by simpa using hlen.symm))
 ·simp only[jK,hlen,go_sem,reduceIte,jA,jB,jC,jD,reduceCtorEq,jE,jF]
 funext m;simp only[Kc];split<;>rfl
end
end Go.Proofs.YtjfdoohogiojcaaGreatDoor
