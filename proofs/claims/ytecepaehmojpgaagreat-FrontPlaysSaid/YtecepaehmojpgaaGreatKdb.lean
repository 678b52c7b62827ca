/-
Texts of this proof,one behind the other. No conditions.
-/
import Derived.Test.YtecepaehmojpgaaGreatKd
import Derived.Test.YtecepaehmojpgaaGreatKcb
import Derived.Shelf.SlSortCmp.WholeK
import Derived.Shelf.SlSortCmp.NoneTotal
open Go.Proofs.YtecepaehmojpgaaGreat.Hp renaming le_refl→Ka,aAH→Kb,set→Kc,none→Kd,le_trans→Kg
open Array renaming getD_eq_getD_getElem?→Ke,getElem?_append_left→Kj,getElem?_eq_none→Km,getElem?_modify→Kv,ext→KN
open List renaming getElem?_eq_getElem→Kf,getD_eq_getElem?_getD→Ki,findIdx?_eq_some_iff_getElem→Kk,take_succ_eq_append_getElem→Ko,findIdx?_eq_none_iff→Kq,map_cons→Ks,map_nil→Kt,length_eq_zero_iff→Ku,getElem?_toArray→Kx,set_cons_succ→Ky,set_cons_zero→Kz,getElem_mem→KE,getElem_map→KG,map_append→KI
open Nat renaming le_refl→Kh,lt_of_lt_of_le→KD,zero_le→KF,lt_or_ge→KL,zero_add→KM
open Go renaming undef→Kp,sizeOf→Kw
open Option renaming isSome_none→KB,getD_some→KH
open Bool renaming false_eq_true→KC
open Go.World renaming shape?→KJ,cell?→KK
set_option linter.unusedSimpArgs false
set_option linter.unusedVariables false
set_option linter.unusedSectionVars false
open Nat renaming reduceAdd→jA,reduceSub→jB,reduceLT→jC,reduceLeDiff→jD,reduceEqDiff→jE
open Int renaming reduceToNat→jF,toNat_natCast→jG
open List renaming length_map→jK,length_cons→jL,length_nil→jM,replicate_succ→jN,replicate_zero→jO,cons_append→jP,nil_append→jQ
namespace Go.Proofs.YtecepaehmojpgaaGreat
open Go.RowKit
namespace LB
abbrev aC2:List aA:=[
 ⟨some 4,none, .val (.move (.const (.int .i64 0)))⟩]
abbrev aC1:List aA:=[
 ⟨some 6,none, .val (.move (.slot 0))⟩,
 ⟨some 7,none, .val (.len (.slot 6))⟩,
 ⟨some 8,none, .val (.move (.const (.int .i64 0)))⟩]
abbrev aC0:List aA:=[
 ⟨some 9,none, .val (.bin .lss (.slot 8) (.slot 7))⟩]
abbrev aCz:List aA:=[
 ⟨some 10,none, .val (.move (.slot 8))⟩,
 ⟨some 5,none, .val (.move (.slot 10))⟩]
abbrev aCy(k:Sh):List aA:=[
 ⟨some 11,none, .val (.move (.slot 1))⟩,
 ⟨some 12,none, .val (.move (.slot 0))⟩,
 ⟨some 13,none, .val (.move (.slot 5))⟩,
 ⟨some 14,none, .val (.aBq k (.slot 12) (.slot 13))⟩,
 ⟨some 15,none, .val (.load k (.slot 14))⟩,
 ⟨some 16,none, .aAe (.slot 11) [(.slot 15)]⟩]
abbrev aCx:List aA:=[
 ⟨some 17,none, .val (.move (.slot 5))⟩,
 ⟨some 4,none, .val (.move (.slot 17))⟩]
abbrev aCw:List aA:=[
 ⟨some 18,none, .val (.bin .add (.slot 8) (.const (.int .i64 1)))⟩,
 ⟨some 8,none, .val (.move (.slot 18))⟩]
abbrev aC3(k:Sh):aZ:=(.seq (.ops aC0) (.seq (.cond (.slot 9) .skip (.exit 0)) (.seq (.block 1 (.seq (.ops aCz) (.seq (.ops (aCy k)) (.cond (.slot 16) (.seq (.ops aCx) .ret) .skip)))) (.ops aCw))))
abbrev aCv:List aA:=[
 ⟨some 4,none, .val (.move (.const (.int .i64 (-1))))⟩]
def aAj(k:Sh):LFn:=⟨(.seq (.ops aC2) (.seq (.seq (.ops aC1) (.block 0 (.loop (aC3 k)))) (.seq (.ops aCv) .ret))),19,[.slot 4]⟩
abbrev aBo:List aA:=[
 ⟨some 4,none, .val (.move (.const (.bool false)))⟩]
abbrev aBn(f0:Nat):List aA:=[
 ⟨some 5,none, .val (.move (.slot 0))⟩,
 ⟨some 6,none, .val (.move (.slot 1))⟩,
 ⟨some 7,none, .call f0 [(.slot 5),(.slot 6)]⟩,
 ⟨some 8,none, .val (.bin .geq (.slot 7) (.const (.int .i64 0)))⟩,
 ⟨some 4,none, .val (.move (.slot 8))⟩]
def aAl(k:Sh)(f0:Nat):LFn:=⟨(.seq (.ops aBo) (.seq (.ops (aBn f0)) .ret)),9,[.slot 4]⟩
abbrev aDV:List aA:=[
 ⟨some 5,none, .val (.load .leaf (.slot 1))⟩,
 ⟨some 6,none, .val (.len (.slot 5))⟩,
 ⟨some 7,none, .val (.move (.const (.int .i64 0)))⟩]
abbrev aDU:List aA:=[
 ⟨some 8,none, .val (.bin .lss (.slot 7) (.slot 6))⟩]
abbrev aDT(k:Sh)(z:V):List aA:=[
 ⟨some 9,none, .val (.aBq k (.slot 5) (.slot 7))⟩,
 ⟨some 10,none, .val (.load k (.slot 9))⟩,
 ⟨some 4,none, .box k (.const z)⟩,
 ⟨none,none, .store k (.slot 4) (.slot 10)⟩]
abbrev aDS(k:Sh):List aA:=[
 ⟨some 11,none, .val (.move (.slot 0))⟩,
 ⟨some 12,none, .val (.load k (.slot 4))⟩,
 ⟨some 13,none, .aAe (.slot 11) [(.slot 12)]⟩,
 ⟨some 14,none, .val (.not (.slot 13))⟩]
abbrev aDR:List aA:=[
 ⟨some 15,none, .val (.bin .add (.slot 7) (.const (.int .i64 1)))⟩,
 ⟨some 7,none, .val (.move (.slot 15))⟩]
abbrev aDW(k:Sh)(z:V):aZ:=(.seq (.ops aDU) (.seq (.cond (.slot 8) .skip (.exit 0)) (.seq (.block 1 (.seq (.ops (aDT k z)) (.seq (.ops (aDS k)) (.cond (.slot 14) .ret .skip)))) (.ops aDR))))
def aCM(k:Sh)(z:V):LFn:=⟨(.seq (.ops aDV) (.block 0 (.loop (aDW k z)))),16,[]⟩
abbrev aFt:List aA:=[
 ⟨some 1,none, .box .leaf (.slot 0)⟩,
 ⟨some 2,none, .val (.move (.const .aAv))⟩]
abbrev aFs(f0:Nat):List aA:=[
 ⟨some 3,none, .val (.aCc (.func f0) [] [(.slot 1)])⟩,
 ⟨some 2,none, .val (.move (.slot 3))⟩]
def aFu(k:Sh)(f0:Nat):LFn:=⟨(.seq (.ops aFt) (.seq (.ops (aFs f0)) .ret)),4,[.slot 2]⟩
abbrev aC8(k:Sh):List aA:=[
 ⟨some 2,none, .box .leaf (.slot 0)⟩,
 ⟨some 4,none, .val (.move (.const (.sl k .nil [])))⟩]
abbrev aC7:List aA:=[
 ⟨some 6,none, .val (.move (.slot 1))⟩]
abbrev aC6(k:Sh)(z:V):List aA:=[
 ⟨some 5,none, .box k (.const z)⟩,
 ⟨none,none, .store k (.slot 5) (.slot 7)⟩]
abbrev aC5(k:Sh)(bs:Nat):List aA:=[
 ⟨some 8,none, .val (.load .leaf (.slot 2))⟩,
 ⟨some 9,none, .val (.load k (.slot 5))⟩,
 ⟨some 10,none, .aAi k [(.slot 9)]⟩,
 ⟨some 11,none, .append k bs (.slot 8) (.slot 10)⟩,
 ⟨none,none, .store .leaf (.slot 2) (.slot 11)⟩]
abbrev aC9(k:Sh)(bs:Nat):aZ:=(.block 1 (.ops (aC5 k bs)))
abbrev aC4:List aA:=[
 ⟨some 12,none, .val (.load .leaf (.slot 2))⟩,
 ⟨some 4,none, .val (.move (.slot 12))⟩]
def aAf(k:Sh)(z:V)(bs:Nat):LFn:=⟨(.seq (.ops (aC8 k)) (.seq (.seq (.ops aC7) (.block 0 (.range (.slot 6) [7] (.ops (aC6 k z)) (aC9 k bs)))) (.seq (.ops aC4) .ret))),13,[.slot 4]⟩
abbrev aEO(k:Sh):List aA:=[
 ⟨some 2,none, .val (.move (.const (.sl k .nil [])))⟩]
abbrev aEN(k:Sh)(f0:Nat):List aA:=[
 ⟨some 3,none, .val (.move (.slot 0))⟩,
 ⟨some 4,none, .call f0 [(.const (.sl k .nil [])),(.slot 3)]⟩,
 ⟨some 2,none, .val (.move (.slot 4))⟩]
def Collect(k:Sh)(f0:Nat):LFn:=⟨(.seq (.ops (aEO k)) (.seq (.ops (aEN k f0)) .ret)),5,[.slot 2]⟩
abbrev aCQ(k:Sh):List aA:=[
 ⟨some 4,none, .val (.move (.const (.sl k .nil [])))⟩]
abbrev aCP(f0:Nat):List aA:=[
 ⟨some 6,none, .val (.move (.slot 0))⟩,
 ⟨some 7,none, .call f0 [(.slot 6)]⟩,
 ⟨some 5,none, .val (.move (.slot 7))⟩]
abbrev aCO(f1:Nat):List aA:=[
 ⟨some 8,none, .val (.move (.slot 5))⟩,
 ⟨some 9,none, .val (.move (.slot 1))⟩,
 ⟨some 10,none, .call f1 [(.slot 8),(.slot 9)]⟩]
abbrev aCN:List aA:=[
 ⟨some 11,none, .val (.move (.slot 5))⟩,
 ⟨some 4,none, .val (.move (.slot 11))⟩]
def aAq(k:Sh)(f0:Nat)(f1:Nat):LFn:=⟨(.seq (.ops (aCQ k)) (.seq (.ops (aCP f0)) (.seq (.ops (aCO f1)) (.seq (.ops aCN) .ret)))),12,[.slot 4]⟩
abbrev aG2:List aA:=[
 ⟨some 4,none, .val (.move (.const (.bool false)))⟩]
abbrev aG1:List aA:=[
 ⟨some 6,none, .val (.move (.slot 0))⟩,
 ⟨some 7,none, .val (.len (.slot 6))⟩,
 ⟨some 8,none, .val (.move (.slot 1))⟩,
 ⟨some 9,none, .val (.len (.slot 8))⟩,
 ⟨some 10,none, .val (.bin .neq (.slot 7) (.slot 9))⟩]
abbrev aG0:List aA:=[
 ⟨some 4,none, .val (.move (.const (.bool false)))⟩]
abbrev aGz:List aA:=[
 ⟨some 11,none, .val (.move (.slot 0))⟩,
 ⟨some 12,none, .val (.len (.slot 11))⟩,
 ⟨some 13,none, .val (.move (.const (.int .i64 0)))⟩]
abbrev aGy:List aA:=[
 ⟨some 14,none, .val (.bin .lss (.slot 13) (.slot 12))⟩]
abbrev aGx:List aA:=[
 ⟨some 15,none, .val (.move (.slot 13))⟩,
 ⟨some 5,none, .val (.move (.slot 15))⟩]
abbrev aGw(k:Sh)(e:wI):List (aA×List Nat):=[
 (⟨some 16,none, .val (.move (.slot 0))⟩,[]),
 (⟨some 17,none, .val (.move (.slot 5))⟩,[]),
 (⟨some 18,none, .val (.aBq k (.slot 16) (.slot 17))⟩,[0,1]),
 (⟨some 19,none, .val (.load k (.slot 18))⟩,[0,1,2]),
 (⟨some 20,none, .val (.move (.slot 1))⟩,[]),
 (⟨some 21,none, .val (.move (.slot 5))⟩,[]),
 (⟨some 22,none, .val (.aBq k (.slot 20) (.slot 21))⟩,[4,5]),
 (⟨some 23,none, .val (.load k (.slot 22))⟩,[4,5,6]),
 (⟨some 24,none, .val (.eq true e (.slot 19) (.slot 23))⟩,[0,1,2,3,4,5,6,7])]
abbrev aFy:List aA:=[]
abbrev aGv:List aA:=[
 ⟨some 4,none, .val (.move (.const (.bool false)))⟩]
abbrev aGu:List aA:=[
 ⟨some 25,none, .val (.bin .add (.slot 13) (.const (.int .i64 1)))⟩,
 ⟨some 13,none, .val (.move (.slot 25))⟩]
abbrev aG3(k:Sh)(e:wI):aZ:=(.seq (.ops aGy) (.seq (.cond (.slot 14) .skip (.exit 0)) (.seq (.block 1 (.seq (.ops aGx) (.seq (.draw 9 (aGw k e) aFy) (.cond (.slot 24) (.seq (.ops aGv) .ret) .skip)))) (.ops aGu))))
abbrev aGt:List aA:=[
 ⟨some 4,none, .val (.move (.const (.bool true)))⟩]
def Equal(k:Sh)(e:wI):LFn:=⟨(.seq (.ops aG2) (.seq (.seq (.ops aG1) (.cond (.slot 10) (.seq (.ops aG0) .ret) .skip)) (.seq (.seq (.ops aGz) (.block 0 (.loop (aG3 k e)))) (.seq (.ops aGt) .ret)))),26,[.slot 4]⟩
abbrev aG7(k:Sh):List aA:=[
 ⟨some 2,none, .val (.move (.const (.sl k .nil [])))⟩]
abbrev aG6(k:Sh):List aA:=[
 ⟨some 3,none, .val (.move (.slot 0))⟩,
 ⟨some 4,none, .val (.eq false .slice (.slot 3) (.const (.sl k .nil [])))⟩]
abbrev aG5(k:Sh):List aA:=[
 ⟨some 2,none, .val (.move (.const (.sl k .nil [])))⟩]
abbrev aG4(k:Sh)(bs:Nat):List aA:=[
 ⟨some 5,none, .aAi k []⟩,
 ⟨some 6,none, .val (.move (.slot 0))⟩,
 ⟨some 7,none, .append k bs (.slot 5) (.slot 6)⟩,
 ⟨some 2,none, .val (.move (.slot 7))⟩]
def Clone(k:Sh)(bs:Nat):LFn:=⟨(.seq (.ops (aG7 k)) (.seq (.seq (.ops (aG6 k)) (.cond (.slot 4) (.seq (.ops (aG5 k)) .ret) .skip)) (.seq (.ops (aG4 k bs)) .ret))),8,[.slot 2]⟩
abbrev aF9:List aA:=[
 ⟨some 4,none, .val (.move (.const (.int .i64 0)))⟩]
abbrev aF8(f0:Nat):List aA:=[
 ⟨some 7,none, .val (.move (.slot 0))⟩,
 ⟨some 8,none, .call f0 [(.slot 7)]⟩,
 ⟨some 5,none, .val (.move (.slot 8))⟩]
abbrev aF7(f0:Nat):List aA:=[
 ⟨some 9,none, .val (.move (.slot 1))⟩,
 ⟨some 10,none, .call f0 [(.slot 9)]⟩,
 ⟨some 6,none, .val (.move (.slot 10))⟩]
abbrev aF6:List aA:=[
 ⟨some 11,none, .val (.move (.slot 5))⟩]
abbrev aF5:List aA:=[
 ⟨some 12,none, .val (.move (.slot 6))⟩]
abbrev aF4:List aA:=[
 ⟨some 4,none, .val (.move (.const (.int .i64 0)))⟩]
abbrev aF3:List aA:=[
 ⟨some 4,none, .val (.move (.const (.int .i64 (-1))))⟩]
abbrev aF2:List aA:=[
 ⟨some 13,none, .val (.move (.slot 6))⟩]
abbrev aF1:List aA:=[
 ⟨some 4,none, .val (.move (.const (.int .i64 1)))⟩]
abbrev aF0:List aA:=[
 ⟨some 14,none, .val (.move (.slot 0))⟩,
 ⟨some 15,none, .val (.move (.slot 1))⟩,
 ⟨some 16,none, .val (.bin .lss (.slot 14) (.slot 15))⟩]
abbrev aES:List aA:=[
 ⟨some 4,none, .val (.move (.const (.int .i64 (-1))))⟩]
abbrev aER:List aA:=[
 ⟨some 17,none, .val (.move (.slot 0))⟩,
 ⟨some 18,none, .val (.move (.slot 1))⟩,
 ⟨some 19,none, .val (.bin .gtr (.slot 17) (.slot 18))⟩]
abbrev aEQ:List aA:=[
 ⟨some 4,none, .val (.move (.const (.int .i64 1)))⟩]
abbrev aEP:List aA:=[
 ⟨some 4,none, .val (.move (.const (.int .i64 0)))⟩]
def aHm(f0:Nat):LFn:=⟨(.seq (.ops aF9) (.seq (.ops (aF8 f0)) (.seq (.ops (aF7 f0)) (.seq (.seq (.ops aF6) (.cond (.slot 11) (.seq (.seq (.ops aF5) (.cond (.slot 12) (.seq (.ops aF4) .ret) .skip)) (.seq (.ops aF3) .ret)) .skip)) (.seq (.seq (.ops aF2) (.cond (.slot 13) (.seq (.ops aF1) .ret) .skip)) (.seq (.seq (.ops aF0) (.cond (.slot 16) (.seq (.ops aES) .ret) .skip)) (.seq (.seq (.ops aER) (.cond (.slot 19) (.seq (.ops aEQ) .ret) .skip)) (.seq (.ops aEP) .ret)))))))),20,[.slot 4]⟩
abbrev aGm:List aA:=[
 ⟨some 2,none, .val (.move (.const (.int .i64 0)))⟩]
abbrev aGl:List aA:=[
 ⟨some 3,none, .val (.move (.const (.int .i64 0)))⟩]
abbrev aGk:List aA:=[
 ⟨some 6,none, .val (.move (.slot 0))⟩,
 ⟨some 7,none, .val (.len (.slot 6))⟩,
 ⟨some 8,none, .val (.move (.const (.int .i64 0)))⟩]
abbrev aGj:List aA:=[
 ⟨some 9,none, .val (.bin .lss (.slot 8) (.slot 7))⟩]
abbrev aGi:List aA:=[
 ⟨some 10,none, .val (.aBq .leaf (.slot 6) (.slot 8))⟩,
 ⟨some 11,none, .val (.load .leaf (.slot 10))⟩,
 ⟨some 5,none, .val (.move (.slot 11))⟩]
abbrev aGh:List aA:=[
 ⟨some 12,none, .val (.move (.slot 5))⟩,
 ⟨some 13,none, .val (.move (.slot 3))⟩,
 ⟨some 14,none, .val (.bin .neq (.slot 12) (.slot 13))⟩]
abbrev aGg:List aA:=[
 ⟨some 15,none, .val (.move (.slot 5))⟩,
 ⟨some 2,none, .val (.move (.slot 15))⟩]
abbrev aGf:List aA:=[
 ⟨some 16,none, .val (.bin .add (.slot 8) (.const (.int .i64 1)))⟩,
 ⟨some 8,none, .val (.move (.slot 16))⟩]
abbrev aGn:aZ:=(.seq (.ops aGj) (.seq (.cond (.slot 9) .skip (.exit 0)) (.seq (.block 1 (.seq (.ops aGi) (.seq (.ops aGh) (.cond (.slot 14) (.seq (.ops aGg) .ret) .skip)))) (.ops aGf))))
abbrev aGe:List aA:=[
 ⟨some 17,none, .val (.move (.slot 3))⟩,
 ⟨some 2,none, .val (.move (.slot 17))⟩]
def aNm:LFn:=⟨(.seq (.ops aGm) (.seq (.ops aGl) (.seq (.seq (.ops aGk) (.block 0 (.loop aGn))) (.seq (.ops aGe) .ret)))),18,[.slot 2]⟩
abbrev aFw:List aA:=[
 ⟨some 2,none, .val (.move (.const (.bool false)))⟩]
abbrev aFv:List aA:=[
 ⟨some 3,none, .val (.move (.slot 0))⟩,
 ⟨some 4,none, .val (.move (.slot 0))⟩,
 ⟨some 5,none, .val (.bin .neq (.slot 3) (.slot 4))⟩,
 ⟨some 2,none, .val (.move (.slot 5))⟩]
def aFx:LFn:=⟨(.seq (.ops aFw) (.seq (.ops aFv) .ret)),6,[.slot 2]⟩
end LB
end Go.Proofs.YtecepaehmojpgaaGreat
namespace Go.Proofs.YtecepaehmojpgaaGreat
open Go.RowKit
theorem bO{α:Type}(f:α→V)(l:List α)(k:Nat)(h:k<l.length):(l.map f).getD k (.tup [])=f l[k]:=by
 rw[Ki,Kf (by simpa using h)];simp
def fJ{α:Type}(p:α→Bool)(l:List α):Int:=match l.findIdx? p with
 |some i=>i
 |none=>-1
theorem bq{α:Type}(p:α→Bool)(l:List α):decide (0≤fJ p l)=l.any p:=by
 unfold fJ;cases hf:l.findIdx? p with
 |none=>
  rw[Kq] at hf;have:l.any p=false:=by
   rw[List.any_eq_false];intro x hx;simp[hf x hx]
  simp[this]
 |some i=>
  rw[Kk] at hf;obtain⟨h1,h2,_⟩:=hf;have:l.any p=true:=List.any_eq_true.2 ⟨l[i],KE _,h2⟩;simp[this]
section
variable{P:Program}{k:Sh}{α:Type}(e:α→V)(aAG:∀x,(e x).fits k=true)
include aAG
theorem vA{f:Nat}(hL:aH P f=some (LB.aAj k))(p:α→Bool)(own:Own)(l:List α)(g:Nat)(aAY:List V)(h:Hp)(hp:∀x∈l,aY P g ([e x]++aAY) h (.bool (p x)))(hl:l.length≤1000000000):
 aY P f [.sl k own (l.map e), .fn (.func g) [] aAY] h (.int .i64 (fJ p l)):=by
 refine aR (fun L=>trivial) fun h' nx hh=>aF hL fun hd=>?_;simp only[jL,jM,jA,jB,jN,jO,jP,jQ,V.undef];refine wle trivial ?_;refine nE (fun i:Nat=>i≤l.length∧∀x∈l.take i,p x=false) (fun i=>⟨aB 19 0 [(0, .sl k own (l.map e)),(1, .fn (.func g) [] aAY),(7, .int .i64 l.length),(8, .int .i64 i)],h',nx⟩) (fun i=>l.length-i) 0 ⟨KF _,Zm⟩ ?_ ?_
 ·refine kM (wkl trivial) ?_ ?_
  ·exact Ka _
  omega
 rintro i ⟨hi,hno⟩;simp only[aB,go_sem,reduceIte,jA,jB,jC,jD,reduceCtorEq,jE,jF];refine wl ?_;refine cJ _ rfl (fun hc=>?_) (fun hc=>?_)
 ·have hlt:i<l.length:=by simpa using hc
  have hg:=bO e l i hlt;refine wle (ee2 hg aAG) ?_;refine qN rfl (hp l[i] (KE _)) (by simp only[go_sem,reduceIte,jA,jB,jC,jD,reduceCtorEq,jE,jF]) hh ?_;refine Zn ?_;refine wl ?_;refine cJ _ rfl (fun hc=>?_) (fun hc=>?_)
  ·refine wl ?_;refine bT ?_;repeat (first|with_reducible refine iD ?_|with_reducible refine eY ?_|with_reducible refine fN ?_|with_reducible refine gH ?_)
   refine aG h' (Ka _) ⟨?_,rfl⟩;refine Zn ?_;have:l.findIdx? p=some i:=by
    rw[Kk];refine⟨hlt,hc,fun j hj=>?_⟩;have:=hno l[j] (List.mem_take_iff_getElem.2 ⟨j,or,rfl⟩);simp[this]
   simp only[fJ,this]
  refine wl ?_;refine gW (i+1) ⟨or,?_⟩ or ?_
  ·intro x hx;rw[Ko hlt,List.mem_append,List.mem_singleton] at hx;rcases hx with hx|rfl
   ·exact hno x hx
   exact hc
  rw[bB or or];refine kM (wkl trivial) ?_ ?_
  ·exact Ka _
  omega
 have hge:i=l.length:=by have:¬i<l.length:=by simpa using hc
                         omega
 refine gC ?_;repeat (first|with_reducible refine eH ?_|with_reducible refine dR ?_|with_reducible refine dC ?_|with_reducible refine bJ ZM ?_|with_reducible refine cR ?_|with_reducible refine aM ?_)
 refine wl ?_;refine bT (aG h' (Ka _) ⟨?_,rfl⟩);refine Zn ?_;rw[hge,List.take_length] at hno;have:l.findIdx? p=none:=by
  rw[Kq];exact fun x hx=>hno x hx
 simp only[fJ,this]
theorem eB{f f0:Nat}(hL:aH P f=some (LB.aAl k f0))(hL0:aH P f0=some (LB.aAj k))(p:α→Bool)(own:Own)(l:List α)(g:Nat)(aAY:List V)(h:Hp)(hp:∀x∈l,aY P g ([e x]++aAY) h (.bool (p x)))(hl:l.length≤1000000000):
 aY P f [.sl k own (l.map e), .fn (.func g) [] aAY] h (.bool (l.any p)):=by
 refine aR (fun L=>trivial) fun h' nx hh=>aF hL fun hd=>?_;simp only[jL,jM,jA,jB,jN,jO,jP,jQ,V.undef];refine wl ?_;refine aQ (vA e aAG hL0 p own l g aAY h hp hl) (by simp only[go_sem,reduceIte,jA,jB,jC,jD,reduceCtorEq,jE,jF]) hh ?_;refine Zn ?_;refine wl ?_;refine bT (aG h' (Ka _) ⟨?_,rfl⟩);refine Zn ?_;rw[←bq]
theorem wL{f:Nat}{z:V}(hL:aH P f=some (LB.aCM k z))(hz:z.fits k=true)(own:Own)(l:List α)(hl:l.length≤1000000000):
 AR P f [.ept .leaf [.sl k own (l.map e)] 0 0] Kd (l.map fun x=>[e x]):=by
 intro yn J D hbJ hnJ hnD hJ h0 nx0 h0J hd0;simp only[jK];refine aF hL fun hd=>?_;simp only[jL,jM,jA,jB,jN,jO,jP,jQ,V.undef];refine wle trivial ?_;refine nE (fun p:Nat×Hp×Nat=>p.1≤l.length∧J p.1 p.2.1 p.2.2∧aI p.2.1 p.2.2) (fun p=>⟨aB 16 0 [(0, .yld yn),(5, .sl k own (l.map e)),(6, .int .i64 l.length),(7, .int .i64 p.1)],p.2.1,p.2.2⟩) (fun p=>l.length-p.1) (0,h0,nx0) ⟨KF _,h0J,hd0⟩ ?_ ?_
 ·refine kM (wkl trivial) ?_ ?_
  ·exact Ka _
  exact Kh _
 rintro⟨i,h,nx⟩ ⟨hi,hj,hdm⟩;simp only at hi hj hdm;simp only[aB,go_sem,reduceIte,jA,jB,jC,jD,reduceCtorEq,jE,jF];refine wl ?_;refine cJ _ rfl (fun hc=>?_) (fun hc=>?_)
 ·have hlt:i<l.length:=by simpa using hc
  have hg:=bO e l i hlt;repeat (first|with_reducible refine bI ?_|with_reducible refine dJ ?_|with_reducible refine eD ?_|with_reducible refine aM ?_|with_reducible refine bZ ?_|with_reducible refine bL ?_|(refine eU rfl (by simp only[jK,jG,hg,aAG,hz,gZ (aAG _),cD hz (aAG _),go_sem,reduceIte,jA,jB,jC,jD,reduceCtorEq,jE,jF];try omega) ?_;simp only[jK,jG,hg,aAG,hz,gZ (aAG _),cD hz (aAG _),go_sem,reduceIte,jA,jB,jC,jD,reduceCtorEq,jE,jF])|(with_reducible refine dZ ?_))
  refine vV rfl ?_;have hy:=(hJ i (by simpa using hlt) h (nx+1+1) (hnJ i h nx _ hj or) (hdm.up or)).dom;simp only[KG] at hy;refine(hy.weaken ?_).mono ?_
  ·exact aJ hdm (aJ hdm (Ka _) or _) or _
  rintro v h' nx' hnx ⟨hq,aWl,_⟩;unfold dM;rcases hq with⟨rfl,hj'⟩|⟨rfl,hD⟩
  ·refine Zn ?_;refine wl ?_;refine cJ _ rfl (fun hc=>?_) (fun hc=>?_)
   ·cases hc
   refine wl ?_;refine gW (i+1,h',nx') ⟨hlt,hj',aWl⟩ (by simp only;omega) ?_;rw[bB or or];refine kM (wkl trivial) ?_ ?_
   ·exact Ka _
   exact Kh _
  refine Zn ?_;refine wl ?_;refine cJ _ rfl (fun hc=>?_) (fun hc=>?_)
  ·refine bT ?_;repeat (first|with_reducible refine iD ?_|with_reducible refine eY ?_|with_reducible refine fN ?_|with_reducible refine gH ?_)
   exact⟨h',Ka _, .inr hD⟩
  cases hc
 have hge:i=l.length:=by have:¬i<l.length:=by simpa using hc
                         omega
 subst hge;refine gC ?_;repeat (first|with_reducible refine eH ?_|with_reducible refine dR ?_|with_reducible refine dC ?_|with_reducible refine bJ ZM ?_|with_reducible refine cR ?_|with_reducible refine aM ?_)
 exact⟨h,Ka _, .inl hj⟩
end
theorem er{P:Program}{k:Sh}{f f0:Nat}(hL:aH P f=some (LB.aFu k f0))(own:Own)(l:List V)(hn:∀L,bU L l)(h:Hp):
 aY P f [.sl k own l] h (.fn (.func f0) [] [.ept .leaf [(V.sl k own l).loose] 0 0]):=by
 refine aR (fun L=>?_) fun h' nx hh=>jy (aF hL fun hd=>?_)
 ·cases own<;>simp[V.loose,V.names,bU,hn L]
 simp only[jL,jM,jA,jB,jN,jO,jP,jQ,V.undef];refine wl ?_;refine bT (aG _ (Ka _) ⟨nx,Kh _,?_,rfl⟩);simp only[go_sem,reduceIte,jA,jB,jC,jD,reduceCtorEq,jE,jF]
section
variable{P:Program}{k:Sh}{α:Type}(e:α→V)(aAG:∀x,(e x).fits k=true)
include aAG
theorem l9{f bs:Nat}{z:V}(hL:aH P f=some (LB.aAf k z bs))(hz:z.fits k=true)(hbs:bs≤140737)(g:Nat)(aAY:List V)(hb:Hp)(xs:List α)(hit:AR P g aAY hb (xs.map fun x=>[e x]))(hl:xs.length≤100000000)
 (h':Hp) (nx:Nat) (hh:hb.has h'):
 bD P f [.sl k .nil [], .fn (.func g) [] aAY] h' nx fun v h'' _=>(xs=[]∧v= .sl k .nil []∧h''=h')∨(xs≠ []∧∃id,nx≤id∧v= .rs id k 0 xs.length∧h''=h'.set id (.arr k (xs.map e))):=by
 refine aF hL fun hd=>?_;simp only[jL,jM,jA,jB,jN,jO,jP,jQ,V.undef];refine wl ?_;have aBT:∀n,nx≤n→h' n=none:=fun n hn=>aI.none hd hn;obtain⟨I,hI⟩:∃I:Nat→Hp→Nat→Prop,∀i h nx1,I i h nx1↔(h'.le h∧∃acc,h nx=some (.arr .leaf [acc])∧((i=0∧acc= .sl k .nil [])∨(0<i∧∃id,nx≤id∧id≠nx∧id≠nx+1∧acc= .rs id k 0 i∧h id=some (.arr k ((xs.take i).map e))))):=⟨_,fun _ _ _=>Iff.rfl⟩;refine sF hit rfl Zm (aI.set hd Zm Zm _) I (fun _ _ _=>False) ?_ ?_ ?_ (fun _ _ _ _ h=>h.elim) (fun _ _ _ _ h=>h.elim) ?_ ?_ ?_ (fun _ _ _ h=>h.elim)
 ·intro i h nx1 hi;exact zT hh (Fq ((hI _ _ _).1 hi).1)
 ·exact fun i h nx1 nx2 hi _=>(hI _ _ _).2 ((hI _ _ _).1 hi)
 ·intro i h nx1 b hi;obtain⟨hle,acc,h1,h2⟩:=(hI _ _ _).1 hi;refine(hI _ _ _).2 ⟨eV hle (aBT _ Zm) b,acc,?_,?_⟩
  ·simp only[Kb];rw[if_neg Zm];exact h1
  rcases h2 with h2|⟨hi,id,h3,h4,h5,h6,h7⟩
  ·exact .inl h2
  refine .inr ⟨hi,id,h3,h4,h5,h6,?_⟩;simp only[Kb];rw[if_neg h5];exact h7
 ·exact(hI _ _ _).2 ⟨eV (Ka _) (aBT _ Zm) _, .sl k .nil [],by simp[Kb], .inl ⟨rfl,rfl⟩⟩
 ·intro i hi h nx1 X hii hnx hX hdm;obtain⟨hle,acc,h1,h2⟩:=(hI _ _ _).1 hii;simp only at hnx hX;have hi':i<xs.length:=by simpa using hi
  have aWN:nx<nx1:=or;have e1:(nx=nx1)=False:=by simp;omega
  have e2:(nx+1=nx1)=False:=by simp;omega
  have e4:(nx1=nx+1)=False:=by simp;omega
  have e6:(nx1=nx)=False:=by simp;omega
  have e7:(nx=nx1+2)=False:=by simp;omega
  have e8:(nx+1=nx1+2)=False:=by simp;omega
  have e9:(nx=nx1+3)=False:=by simp;omega
  have e10:(nx+1=nx1+3)=False:=by simp;omega
  have hx:(xs.map fun x=>[e x])[i]=[e xs[i]]:=Zm;simp only[aAr,hx,Ky,Kz];refine wle (ee5 hz aAG e1 e2 e4) ?_;refine sU (by simp only[e1,e2,e4,go_sem,reduceIte,jA,jB,jC,jD,reduceCtorEq,jE,jF];exact hX) fun X'=>?_;refine Zn ?_;refine dJ (bL ?_);have aID:∀(h'':Hp) (nx2 id:Nat),h'.le h''→nx1≤id→h'' nx=some (.arr .leaf [.rs id k 0 (i+1)])→h'' (nx+1)=some X'→h'' id=some (.arr k ((xs.take (i+1)).map e))→∀sl,fP 1 (vM (nx+1) X' (I (i+1)) (fun _ _ _=>False)) .normal ⟨sl,h'',nx2⟩:=by
   intro h'' nx2 id q1 q2 q3 q4 q5 sl;exact bZ (oO q4 ((hI _ _ _).2 ⟨q1,_,q3, .inr ⟨or,id,or,or,or,rfl,q5⟩⟩))
  generalize hQ:fP 1 (vM (nx+1) X' (I (i+1)) (fun _ _ _=>False)) .normal=Qn at aID⊢;have aA1:∀n b,nx1≤n→∀{h2:Hp},h'.le h2→h'.le (h2.set n b):=fun n b hn h2 q=>eV q (aBT n or) b;have aGT:∀n,nx≤n→∀{h2:Hp},h'.le h2→∀b,h'.le (h2.set n b):=fun n hn h2 q b=>eV q (aBT n hn) b;rcases h2 with⟨rfl,rfl⟩|⟨aA0,id,h3,h4,h5,rfl,h7⟩
  ·refine bE 3 rfl (by simp only[h1,aAG,hz,e1,e2,e4,e6,go_sem,reduceIte,jA,jB,jC,jD,reduceCtorEq,jE,jF]) ?_;simp only[h1,aAG,hz,e1,e2,e4,e6,go_sem,reduceIte,jA,jB,jC,jD,reduceCtorEq,jE,jF];refine mA rfl rfl Zm (by simp only[jL,jM];omega) ?_;refine eU rfl (by simp only[h1,aAG,hz,e1,e2,e4,e6,e7,e8,e9,e10,go_sem,reduceIte,jA,jB,jC,jD,reduceCtorEq,jE,jF];try omega) ?_;simp only[h1,aAG,hz,e1,e2,e4,e6,e7,e8,e9,e10,go_sem,reduceIte,jA,jB,jC,jD,reduceCtorEq,jE,jF];refine aID _ _ (nx1+3) ?_ or ?_ ?_ ?_ _
   ·repeat (first|exact hle|refine aGT _ or ?_ _)
   ·simp only[h1,e1,e2,e4,e6,e7,e8,e9,e10,go_sem,reduceIte,jA,jB,jC,jD,reduceCtorEq,jE,jF]
   ·simp only[h1,e1,e2,e4,e6,e7,e8,e9,e10,go_sem,reduceIte,jA,jB,jC,jD,reduceCtorEq,jE,jF]
   have:xs.take (0+1)=[xs[0]]:=by
    cases xs with
    |nil=>simp at hi'
    |cons x l=>simp
   rw[this];simp only[Ks,Kt,go_sem,reduceIte,jA,jB,jC,jD,reduceCtorEq,jE,jF];have:(nx1+3=nx)=False:=by simp;omega
   simp only[this,go_sem,reduceIte,jA,jB,jC,jD,reduceCtorEq,jE,jF]
  have hid:id<nx1:=hdm _ _ h7;have f1:(id=nx1)=False:=by simp;omega
  have f2:(id=nx1+2)=False:=by simp;omega
  have f3:(id=nx)=False:=by simp;omega
  have f4:(id=nx+1)=False:=by simp;omega
  have f5:(id=nx1+3)=False:=by simp;omega
  have f6:(nx=id)=False:=by simp;omega
  have f7:(nx+1=id)=False:=by simp;omega
  have f8:(nx1+3=id)=False:=by simp;omega
  have hlen:((xs.take i).map e).length=i:=by simp;omega
  have hb1:(i+1)*bs≤140737488355328:=ab or hbs;refine eU rfl (by simp only[h1,h7,hlen,hb1,aAG,hz,e1,e2,e4,e6,e7,e8,e9,e10,f1,f2,f3,f4,f5,f6,f7,f8,go_sem,reduceIte,jA,jB,jC,jD,reduceCtorEq,jE,jF];try omega) ?_;simp only[h1,h7,hlen,hb1,aAG,hz,e1,e2,e4,e6,e7,e8,e9,e10,f1,f2,f3,f4,f5,f6,f7,f8,go_sem,reduceIte,jA,jB,jC,jD,reduceCtorEq,jE,jF];refine aID _ _ (nx1+3) ?_ or ?_ ?_ ?_ _
  ·repeat (first|exact hle|refine aGT _ or ?_ _|refine oS ?_ (aBT _ h3))
  ·simp only[h1,e1,e2,e4,e6,e7,e8,e9,e10,go_sem,reduceIte,jA,jB,jC,jD,reduceCtorEq,jE,jF]
  ·simp only[h1,e1,e2,e4,e6,e7,e8,e9,e10,f6,f7,go_sem,reduceIte,jA,jB,jC,jD,reduceCtorEq,jE,jF]
  have:(nx1+3=nx)=False:=by simp;omega
  rw[Ko hi',KI];simp only[this,Ks,Kt,go_sem,reduceIte,jA,jB,jC,jD,reduceCtorEq,jE,jF]
 intro h nx1 hii hnx hdm;obtain⟨hle,acc,h1,h2⟩:=(hI _ _ _).1 hii;simp only at hnx;have e1:(nx=nx+1)=False:=Zm;refine wle (ee2 h1 e1) ?_;rcases h2 with⟨h2,rfl⟩|⟨aA0,id,h3,h4,h5,rfl,h7⟩
 ·refine bT (aG h' ?_ (.inl ⟨?_,?_,rfl⟩))
  ·exact oS hle (aBT _ Zm)
  ·cases xs with
   |nil=>rfl
   |cons x l=>simp at h2
  simp only[go_sem,reduceIte,jA,jB,jC,jD,reduceCtorEq,jE,jF]
 have hne:xs≠ []:=by rintro rfl;simp at aA0
 refine bT (aG (h'.set id (.arr k (xs.map e))) ?_ (.inr ⟨hne,id,h3,?_,rfl⟩))
 ·refine m8 (oS hle (aBT _ Zm)) ?_;simp only[Hp.aBm];rw[if_neg h5,h7];simp
 simp only[jK,go_sem,reduceIte,jA,jB,jC,jD,reduceCtorEq,jE,jF]
theorem yd{f f0 bs:Nat}{z:V}(hL:aH P f=some (LB.Collect k f0))(hL0:aH P f0=some (LB.aAf k z bs))(hz:z.fits k=true)(hbs:bs≤140737)(g:Nat)(aAY:List V)(hb:Hp)(xs:List α)(hit:AR P g aAY hb (xs.map fun x=>[e x]))(hl:xs.length≤100000000)
 (h':Hp) (nx:Nat) (hh:hb.has h'):
 bD P f [.fn (.func g) [] aAY] h' nx fun v h'' _=>(xs=[]∧v= .sl k .nil []∧h''=h')∨(xs≠ []∧∃id,nx≤id∧v= .rs id k 0 xs.length∧h''=h'.set id (.arr k (xs.map e))):=by
 refine aF hL fun hd=>?_;simp only[jL,jM,jA,jB,jN,jO,jP,jQ,V.undef];refine wl ?_;refine bN ((l9 e aAG hL0 hz hbs g aAY hb xs hit hl _ _ hh).mono ?_);intro v h'' nx' hnx hv;unfold dM;refine Zn ?_;refine wl ?_;exact bT (aG h'' (Ka _) hv)
end
end Go.Proofs.YtecepaehmojpgaaGreat
namespace Go.Proofs.YtecepaehmojpgaaGreat
open Go.RowKit Go.Sort Go.Shelf Go.Lib
theorem VR.aN9{K:Ker}{F:Nat→Prop}(hF:∀b,K.fro b→F b){v:V}{cv:Value}(r:VR K v cv):VR {K with fro:=F} v cv:=by
 have st:∀b o,K.still b o→Ker.still {K with fro:=F} b o:=fun b o h=>h.elim (fun h=> .inl (hF b h)) .inr;induction r with
 |bool b=>exact .bool b
 |int k n=>exact .int k n
 |str s=>exact .str s
 |aAJ=>exact .aAJ
 |ptr n k i o hn=>exact .ptr (K:={K with fro:=F}) n k i o hn
 |ept k es i o b off f hb aAG aAM hst hv ih=>exact .ept (K:={K with fro:=F}) k es i o b off f hb aAG aAM (fun j hj=>st _ _ (hst j hj)) ih
 |slnil k=>exact .slnil k
 |slz k a=>exact .slz k a
 |sl k own es b off cap f hb aAG aAM hst hv aAa aA8 aAo aBM ih=>exact .sl (K:={K with fro:=F}) k own es b off cap f hb aAG aAM (fun j hj=>st _ _ (hst j hj)) ih aAa aA8 aAo aBM
 |rs n k off len cap hn aAa hm=>exact .rs (K:={K with fro:=F}) n k off len cap hn aAa hm
 |aAW=>exact .aAW
 |map n hn=>exact .map (K:={K with fro:=F}) n hn
 |aAX=>exact .aAX
 |chan n hn=>exact .chan (K:={K with fro:=F}) n hn
 |fn f first cap aA2 aDy h1 h2 _ _ v1 v2=>exact .fn f first cap aA2 aDy h1 h2 v1 v2
 |aAv=>exact .aAv
 |yld n hn=>exact .yld (K:={K with fro:=F}) n hn
 |iface t v cv _ ih=>exact .iface t v cv ih
 |nilIface=>exact .nilIface
 |agg cs ccs hl _ ih=>exact .agg cs ccs hl ih
 |tup cs ccs hl _ ih=>exact .tup cs ccs hl ih
 |top cv=>exact .top cv
theorem B5{w w':World}(h:pY (fun b=>b<w.heap.size) w w'):∃q os',w'=grow (w.drewN q) os':=by
 refine⟨w'.drawn-w.drawn,w'.heap.extract w.heap.size w'.heap.size,?_⟩;obtain⟨h1,h2,h3,h4,h5,h6⟩:=h;obtain⟨heap,tape,drawn,os,output⟩:=w;obtain⟨aOk,aVz,aVw,os',aOB⟩:=w';simp only at h1 h2 h3 h4 h5 h6;subst h1 h2 h3;unfold grow World.drewN;simp only[World.mk.injEq,and_true,true_and];refine⟨?_,or⟩;apply Array.ext_getElem?;intro i;by_cases hi:i<heap.size
 ·rw[h6 i hi (.inl hi),Kj hi]
 rw[Array.getElem?_append_right or,Array.getElem?_extract];by_cases hi2:i<aOk.size
 ·rw[if_pos or];congr 1;omega
 rw[if_neg or,Km or]
theorem iM{α:Type} [Inhabited α](enc:α→List Value)(k:Nat)(w:World)(blk off m:Nat)(dk:Array α)(os:Array Obj)(b:Nat)(hb:b<w.heap.size)(hne:b≠blk):(sortWorldK enc k w blk off m dk os).heap[b]?=w.heap[b]?:=by
 unfold sortWorldK putRowK putRow mapBlock grow;simp only[heap_ahead];rw[Kj (by simpa using hb),Kv,if_neg (fun e=>hne e.symm)]
theorem rU{α:Type} [Inhabited α](enc:α→List Value)(k:Nat)(w:World)(blk off m:Nat)(dk:Array α)(os:Array Obj){c:Array Value}{T:TypeId}{fr:Nat×Nat}(hh:w.heap[blk]?=some (.cells c T fr)):∃c':Array Value,(sortWorldK enc k w blk off m dk os).heap[blk]?=some (.cells c' T fr)∧c'.size=c.size:=by
 have hb:blk<w.heap.size:=by
  rcases KL blk w.heap.size with hlt|hge
  ·exact hlt
  rw[Km hge] at hh;exact absurd hh Zm
 refine⟨putCells id off (flatK enc k dk) c,?_,by simp[putCells]⟩;unfold sortWorldK putRowK putRow mapBlock grow;simp only[heap_ahead];rw[Kj (by simpa using hb),Kv,if_pos rfl,hh];rfl
theorem uZ{K:Ker}{α:Type} [Inhabited α](enc:α→List Value)(k:Nat)(blk off m:Nat)(dk:Array α)(os:Array Obj){c:Array Value}{T:TypeId}(hh:K.w.heap[blk]?=some (.cells c T (0,0)))(hf:¬K.fro blk)(hi:K.imm blk=0):
 K.le {K with w:=sortWorldK enc k K.w blk off m dk os} where
 live _ hn:=hn
 mu _ _:=rfl
 tp _ _:=rfl
 fro:=rfl
 imm _ _:=Kh _
 cell b o hb hst:=by
  have hne:b≠blk:=by
   rintro rfl;rcases hst with h|h
   ·exact hf h
   omega
  exact kZ (iM enc k K.w blk off m dk os b hb hne)
 shape b hb:=by
  by_cases e:b=blk
  ·subst e;obtain⟨c',h1,h2⟩:=rU enc k K.w b off m dk os hh;simp only[KJ,h1,hh,h2]
  simp only[KJ,iM enc k K.w blk off m dk os b hb e]
 below:=⟨rfl,rfl,rfl,Nat.le_add_right _ _,size_sortWorldK_c enc k K.w blk off m dk os,fun b hb hF=>iM enc k K.w blk off m dk os b hb (fun e=>hF.elim (fun hF=>hf (e▸hF)) fun hm=>by subst e;unfold iH at hm;rw[hh] at hm;cases hm)⟩
theorem C8{α β:Type}(f:α→β){cf:β→β→Int}(h:SWO (ltOf cf)):SWO (ltOf fun x y:α=>cf (f x) (f y)):=
 ⟨fun x=>h.irrefl (f x),fun x y z=>h.trans (f x) (f y) (f z),fun x y z=>h.ntrans (f x) (f y) (f z)⟩
def jY{δ:Type}(cf:δ→δ→Int)(l:List δ):Prop:=l.Pairwise fun x y=>ltOf cf y x=false
theorem mI{P:Program}{ρ:Ren}(L:SlLaysF0.n6 P ρ)(k:Nat)(aE:∀w,(isAgg (ρ.t 24)).run P w= .ok true w)(zE:∀w,(Kw (ρ.t 24)).run P w= .ok k w)(hen:fG P (ρ.f 6)=true)
 {δ:Type} (e:δ→V) (aAG:∀d,(e d).fits (.agg k)=true) (cf:δ→δ→Int) (hO:SWO (ltOf cf)) (g:Nat) (aAY:List V) (aGF:∀x y,aY P g ([e x,e y]++aAY) Kd (.int .i64 (cf x y)))
 (n:Nat) (ds:List δ) (hne:ds≠ []) (h:Hp) (nx:Nat) (hn:h n=some (.arr (.agg k) (ds.map e))) (hlen:ds.length<4611686018427387904):
 bD P (ρ.f 6) [.rs n (.agg k) 0 ds.length, .fn (.func g) [] aAY] h nx fun v h' nx'=>v= .tup []∧nx'=nx∧∃ds':List δ,ds'.Perm ds∧jY cf ds'∧h'=h.set n (.arr (.agg k) (ds'.map e)):=by
 refine⟨hen,fun K aAK hlv hr hv=>?_⟩;obtain⟨hsz,hv⟩:=hv;have hsz:aAK.size=2:=by simpa using hsz.symm
 obtain⟨c1,c2,rfl⟩:∃c1 c2,aAK=#[c1,c2]:=⟨aAK[0],aAK[1],by
  apply KN
  ·simp[hsz]
  intro i h1 h2;have:i=0∨i=1:=by simp at h2;omega
  rcases this with rfl|rfl<;>rfl⟩
 have v1:=hv 0 Zm;have v2:=hv 1 Zm;have hb:=hr.blk n _ hn;have aVh:=hr.base n _ hn;cases hb with
 |arr _ _ c T hh hcs aBN aBI hcv=>
  have v1:VR K (.rs n (.agg k) 0 ds.length) c1:=v1;have v2:VR K (.fn (.func g) [] aAY) c2:=v2;cases v1 with
  |rs _ _ _ _ cap hl aAa hm=>
   cases v2 with
   |fn _ _ _ aA2 aDy q1 q2 w1 w2=>
    have hcf:aA2=#[]:=by
     have:aA2.size=0:=by simpa using q1.symm
     exact Array.eq_empty_of_size_eq_zero this
    subst hcf;have hcs:ds.length*k≤c.size:=by simpa [Sh.size] using hcs
    have hblk:K.mu n<K.w.heap.size:=by
     rcases KL (K.mu n) K.w.heap.size with hlt|hge
     ·exact hlt
     rw[Km hge] at hh;exact absurd hh Zm
    --data beside their cells
    let A:={p:δ×List Value // p.2.length=k∧VR K (e p.1) (.agg p.2.toArray)}
    let cells:Nat→List Value:=fun i=>(List.range k).map fun j=>c.getD (i*k+j) Kp
    have aAM:∀i (hi:i<ds.length),(cells i).length=k∧VR K (e ds[i]) (.agg (cells i).toArray):=fun i hi=>by
     refine⟨by simp[cells],VR.aDj (aAG _) (by simp[cells]) fun j hj=>?_⟩;have:=hcv i (by simpa using hi) j (by simpa [Sh.size] using hj);simp only[Ki,List.getElem?_map,Kf hi,Option.map_some,KH,Sh.size] at this;simpa [cells,Ke,hj] using this
    have aA0:0<ds.length:=List.length_pos_iff.2 hne
    haveI:Inhabited A:=⟨⟨(ds[0],cells 0),aAM 0 aA0⟩⟩
    let d:Array A:=Array.ofFn fun i:Fin ds.length=>(⟨(ds[i],cells i),aAM i i.2⟩:A)
    have hds:d.size=ds.length:=by simp[d]
    have hd:∀i (hi:i<ds.length),d[i]! =(⟨(ds[i],cells i),aAM i hi⟩:A):=fun i hi=>by
     rw[getElem!_pos d i (by rw[hds];exact hi)];simp[d]
    let enc:A→List Value:=fun p=>p.1.2
    have hk:∀x:A,(enc x).length=k:=fun x=>x.2.1;have h1:∀x:A,∀v∈enc x,v.oneCell'=true:=by
     intro x v hv;obtain⟨a1,a2,a3,a4⟩:=x.2.2.cells (aAG x.1.1);obtain⟨j,hj,rfl⟩:=List.mem_iff_getElem.1 hv;have hjk:j<k:=by rw[←hk x];exact hj
     have h3:=a3 j hjk;have h4:=a4 j hjk;have:=h3.aCB h4;have e1:(Value.agg x.1.2.toArray).cells.getD j Kp=(enc x)[j]:=by
      show x.1.2.toArray.getD j Kp=x.1.2[j];rw[Ke];simp only[Kx];rw[Kf hj];rfl
     rw[e1] at this;exact this
    have hH:HoldsK enc k K.w (K.mu n) 0 d:=by
     intro j hj;rw[size_flatK,hds] at hj;rw[get_flatK _ _ _ _ (by rw[hds];exact hj)];have hk0:0<k:=by
      rcases Nat.eq_zero_or_pos k with h|h
      ·subst h;simp at hj
      exact h
     have hq:j / k<ds.length:=by rw[Nat.div_lt_iff_lt_mul hk0];exact hj
     have hm:j % k<k:=Nat.mod_lt _ hk0;constructor
     ·rw[hd _ hq];simp only[KK,hh,KM,enc,cells,id];have:j / k*k+j % k=j:=by rw[Nat.mul_comm];exact Nat.div_add_mod j k
      simp only[KB,KC,if_false];rw[getElem!_pos _ _ (by simpa using hm)];simp only[KG,List.getElem_range,this];rw[Ke,Array.getElem?_eq_getElem or];rfl
     simp only[World.frozen?,hh];simp
    have hC:CmpLays P g aDy enc k (fun x y:A=>cf x.1.1 y.1.1) (K.mu n) 0 d.size K.w:=by
     intro m os dk _ x y;have hle:=uZ enc k (K.mu n) 0 m dk os hh aVh aBN;generalize hW:sortWorldK enc k K.w (K.mu n) 0 m dk os=W at hle⊢;have hp:=(aGF x.1.1 y.1.1) Kd nx (aT _);have up:∀{v cv},VR K v cv→VR {K with w:=W,fro:=fun b=>b<W.heap.size} v cv:=fun r=>VR.aN9 (K:={K with w:=W}) (fun b hb=>KD (hr.size b hb) (by rw[←hW];exact size_sortWorldK_c enc k K.w _ _ m dk os)) (r.mono hle);have c:=hp.2 {K with w:=W,fro:=fun b=>b<W.heap.size} (#[.agg (enc x).toArray, .agg (enc y).toArray]++aDy) hlv ⟨(fun n b e=>by cases e),(fun n b e=>by cases e),(fun n b e=>by cases e),(fun n n' b b' e=>by cases e),(fun b hb=>hb)⟩
      ((show VRs _ [e x.1.1,e y.1.1] #[.agg (enc x).toArray, .agg (enc y).toArray] from⟨rfl,fun i hi=>by
        have:i=0∨i=1:=by simp at hi;omega
        rcases this with rfl|rfl
        ·exact up x.2.2
        exact up y.2.2⟩).append ⟨q2,fun i hi=>up (w2 i hi)⟩)
     refine c.mono ?_;rintro e' w' ⟨K',v,cv,h',nx',rfl,rfl,a1,a2,a3,a4,a5,rfl,rfl,rfl⟩;cases a2;exact⟨rfl,B5 a1.below⟩
    have key:=AnyQ.slices_SortFunc L k aE zE enc hk h1 (fun x y:A=>cf x.1.1 y.1.1) (C8 (fun x:A=>x.1.1) hO) g aDy (K.mu n) 0 cap d K.w (fun args w=>mJ (aGF ds[0] ds[0] Kd 0 (aT _)).1 args w) hC hH hblk (by rw[hds];exact hlen);rw[hds] at key;have e0:(0:Nat)*(Sh.agg k).size=0:=Nat.zero_mul _;rw[e0];refine key.mono ?_;rintro e' w' ⟨rfl,d',m,os,hp,hs,rfl⟩;obtain⟨hp1,_,hp3⟩:=hp;have hp1:d'.size=ds.length:=by rw[hp1,hds]
    have hle:=uZ enc k (K.mu n) 0 m d' os hh aVh aBN;have hH':=holdsK_sortWorldK_c enc k K.w (K.mu n) 0 d d' m os hH hblk (by rw[hp1,hds]);obtain⟨c',hh',hcz⟩:=rU enc k K.w (K.mu n) 0 m d' os hh;refine⟨{K with w:=sortWorldK enc k K.w (K.mu n) 0 m d' os}, .tup [], .tuple #[],h.set n (.arr (.agg k) ((d'.toList.map fun x=>x.1.1).map e)),nx,rfl,rfl,hle, .tup [] #[] rfl (fun i hi=>absurd hi Zm),?_,fun m hm=>⟨hlv m hm, .inl hm⟩,Kh _,rfl,rfl,_,?_,?_,rfl⟩
    ·have aBB:∀m b,h m=some b→m≠n→(sortWorldK enc k K.w (K.mu n) 0 (ds.length*0+0) d' os).heap.size=(sortWorldK enc k K.w (K.mu n) 0 (ds.length*0+0) d' os).heap.size:=fun _ _ _ _=>rfl;have aGL:∀m b,(h.set n (.arr (.agg k) ((d'.toList.map fun x=>x.1.1).map e))) m=some b→∃b',h m=some b':=fun m' b' e'=>by
      unfold Kc at e';split at e'
      ·rename_i em;subst em;exact⟨_,hn⟩
      exact⟨_,e'⟩
     refine⟨fun m' b' e'=>?_,fun m' b' e'=>?_,fun m' b' e'=>?_,fun m1 m2 b1 b2 e1 e2 em=>?_,fun b' hb'=>KD (hr.size b' hb') hle.below.size⟩
     ·obtain⟨b2,e2⟩:=aGL m' b' e';exact hr.lt m' b2 e2
     ·obtain⟨b2,e2⟩:=aGL m' b' e';exact hr.base m' b2 e2
     ·by_cases em:m'=n
      ·subst em;have eb:b'= .arr (.agg k) ((d'.toList.map fun x=>x.1.1).map e):=by simpa [Kc] using e'.symm
       subst eb;refine .arr _ _ c' T hh' (by
        have e0:((d'.toList.map fun x=>x.1.1).map e).length=ds.length:=by
         simp only[List.length_map,Array.length_toList];omega
        rw[hcz,e0];exact hcs) aBN (fun v hv=>?_) fun i hi j hj=>?_
       ·obtain⟨x,_,rfl⟩:=List.mem_map.1 hv;exact aAG x
       have hi:i<d'.size:=by simpa using hi
       have hj:j<k:=by simpa [Sh.size] using hj
       obtain⟨g1,_⟩:=hH'.cell hi hj;simp only[KK,hh',KB,KC,if_false,KM] at g1;have x2:=(d'[i]!).2.2;obtain⟨_,_,a3,_⟩:=x2.cells (aAG (d'[i]!).1.1);have:=(a3 j hj).mono hle;have e1:(((d'.toList.map fun x=>x.1.1).map e).getD i V.undef)=e (d'[i]!).1.1:=by
        rw[getElem!_pos d' i hi];simp[Ki,hi]
       have e2:c'.getD (i*(Sh.agg k).size+j) Kp=(Value.agg (d'[i]!).1.2.toArray).cells.getD j Kp:=by
        show c'.getD (i*k+j) Kp=(d'[i]!).1.2.toArray.getD j Kp;rw[Ke,g1,Ke];have hjl:j<(d'[i]!).1.2.length:=by rw[(d'[i]!).2.1];exact hj
        simp only[Kx,Kf hjl,KH];exact getElem!_pos (d'[i]!).1.2 j hjl
       rw[e1,e2];exact this
      have e2:h m'=some b':=by unfold Kc at e';rw[if_neg em] at e';exact e'
      have hne:K.mu m'≠K.mu n:=fun e3=>em (hr.inj m' n _ _ e2 hn e3);exact(hr.blk m' b' e2).mono hle (hr.lt m' b' e2) (iM enc k K.w (K.mu n) 0 m d' os _ (hr.blk m' b' e2).lt_size hne) rfl
     obtain⟨b3,e3⟩:=aGL m1 b1 e1;obtain⟨b4,e4⟩:=aGL m2 b2 e2;exact hr.inj m1 m2 b3 b4 e3 e4 em
    ·have p:=hp3.map fun x:A=>x.1.1;have ex:∀(x:Array A),x.size=ds.length→x.extract 0 ds.length=x:=fun x hx=>by rw[←hx];simp
     rw[ex d' hp1,ex d hds] at p;have:d.toList.map (fun x:A=>x.1.1)=ds:=by
      apply List.ext_getElem
      ·simp[hds]
      intro i h1 h2;simp[d]
     rw[this] at p;exact p
    unfold jY;rw[List.pairwise_map,List.pairwise_iff_getElem];intro i j hi hj hij;have:=hs i j (KF _) hij (by simpa [hp1] using hj);rw[getElem!_pos d' i (by simpa using hi),getElem!_pos d' j (by simpa using hj)] at this;simpa [ltOf] using this
end Go.Proofs.YtecepaehmojpgaaGreat
namespace Go.Proofs.YtecepaehmojpgaaGreat
open Go.RowKit Go.Sort Go.Shelf Go.Lib
def lst(k:Sh)(es:List V):V:=if es.isEmpty=true then .sl k .nil [] else .sl k .free es
theorem cP{k:Sh}{es:List V}(h:∀L,bU L es)(L:Nat→Prop):(lst k es).names L:=by
 unfold lst;split<;>simp[V.names,h L,bU]
theorem nG(k:Sh)(es:List V):∃own,lst k es= .sl k own es:=by
 cases es with
 |nil=>exact⟨.nil,rfl⟩
 |cons e es=>exact⟨.free,rfl⟩
theorem pK(k:Sh)(es:List V):(lst k es).aAD=true:=by cases es<;>rfl
def aj(nx:Nat)(h:Hp)(k:Sh)(es:List V)(v:V)(h':Hp):Prop:=
 (es=[]∧v= .sl k .nil []∧h'=h)∨(es≠ []∧∃id,nx≤id∧v= .sl k (.tok id) es∧h'=h.set id .tip)
def AS(nx:Nat)(h:Hp)(k:Sh)(es:List V)(v:V)(h':Hp):Prop:=
 (es=[]∧v= .sl k .nil []∧h'=h)∨(es≠ []∧∃id,nx≤id∧v= .rs id k 0 es.length∧h'=h.set id (.arr k es))
theorem aj.loose{nx:Nat}{h:Hp}{k:Sh}{es:List V}{v:V}{h':Hp}(f:aj nx h k es v h'):v.loose=lst k es:=by
 rcases f with⟨rfl,rfl,_⟩|⟨hne,id,_,rfl,_⟩
 ·rfl
 cases es with
 |nil=>exact absurd rfl hne
 |cons=>rfl
theorem aj.le{nx:Nat}{h:Hp}{k:Sh}{es:List V}{v:V}{h':Hp}(f:aj nx h k es v h')(hd:aI h nx):h.le h':=by
 rcases f with⟨_,_,rfl⟩|⟨_,id,hid,_,rfl⟩
 ·exact Ka _
 exact eV (Ka _) (hd.none hid) _
theorem bD.conv{P:Program}{f:FuncId}{args:List V}{h:Hp}{nx:Nat}{R R':V→Hp→Nat→Prop}(c:bD P f args h nx R)(hc:∀v h' nx',nx≤nx'→aI h' nx'→R v h' nx'→∃h2,h2.le h'∧R' v.loose h2 nx'):bD P f args h nx R':=by
 refine⟨c.1,fun K aAK hl hr hv=>(c.2 K aAK hl hr hv).mono ?_⟩;rintro e w' ⟨K',v,cv,h',nx',rfl,he,hle,hvr,aAV,hlv,hnx,hR⟩;obtain⟨h2,q1,q2⟩:=hc v h' nx' hnx (fun m b hm=>(hlv m (aAV.lt m b hm)).1) hR;exact⟨K',v.loose,cv,h2,nx',rfl,he,hle,hvr.loose,aAV.weaken q1,hlv,hnx,q2⟩
theorem dB{P:Program}{f:FuncId}{args:List V}{h:Hp}{v:V}(hv:∀L,v.names L)(hc:∀h' nx,h.has h'→bD P f args h' nx fun v' h'' _=>v'.loose=v∧h'.le h''):aY P f args h v:=
 aR hv fun h' nx hh=>(hc h' nx hh).conv fun v' h'' nx' _ _ hq=>⟨h',hq.2,hq.1,rfl⟩
theorem bD.aFo{P:Program}{f:FuncId}{args:List V}{h:Hp}{nx:Nat}{k:Sh}{G:List V→Prop}
 (c:bD P f args h nx fun v h' _=>∃es,G es∧AS nx h k es v h'):bD P f args h nx fun v h' _=>∃es,G es∧aj nx h k es v h':=by
 refine⟨c.1,fun K aAK hl hr hv=>(c.2 K aAK hl hr hv).mono ?_⟩;rintro e w' ⟨K',v,cv,h',nx',rfl,he,hle,hvr,aAV,hlv,hnx,es,hG,(⟨rfl,rfl,rfl⟩|⟨hne,n,hn,rfl,rfl⟩)⟩
 ·exact⟨K',_,cv,_,nx',rfl,he,hle,hvr,aAV,hlv,hnx,[],hG, .inl ⟨rfl,rfl,rfl⟩⟩
 have hfr:¬K'.live nx':=fun hh=>Nat.lt_irrefl _ (hlv nx' hh).1;have aAT:(h.set n (.arr k es)) n=some (.arr k es):=by simp[Kc]
 obtain⟨K'',q1,q2,q3,q4,q5⟩:=DG aAV aAT hfr hvr;have aBO:h n=none:=by
  cases hd:h n with
  |none=>rfl
  |some b=>exact absurd (hl n (hr.lt n b hd)) or
 have hh:((h.set n (.arr k es)).del n).set nx' .tip=h.set nx' .tip:=by
  funext x;unfold Kc Hp.del;by_cases e1:x=nx'
  ·simp[e1]
  by_cases e2:x=n
  ·subst e2;simp[e1,aBO]
  simp[e1,e2]
 rw[hh] at q5;refine⟨K'',_,cv,_,nx'+1,q1,he,hle.trans q2,q4,q5,fun m hm=>?_,or,es,hG, .inr ⟨hne,nx',hnx,rfl,rfl⟩⟩;rcases q3 m hm with hm|rfl
 ·exact⟨by have:=(hlv m hm).1;omega,(hlv m hm).2⟩
 exact⟨or, .inr hnx⟩
def dU{α:Type}(cf:α→α→Int)(l:List α):List α:=l.mergeSort fun x y=> !(ltOf cf y x)
theorem dX{α:Type}(cf:α→α→Int)(l:List α):(dU cf l).Perm l:=List.mergeSort_perm _ _
theorem oJ{α:Type}{cf:α→α→Int}(hT:∀x y,ltOf cf x y=false→ltOf cf y x=false→x=y):∀(a b:List α),a.Perm b→jY cf a→jY cf b→a=b:=by
 intro a b hp ha hb;exact List.Perm.eq_of_pairwise (le:=fun x y=>ltOf cf y x=false) (fun x y _ _ h1 h2=>hT x y h2 h1) ha hb hp
theorem gU{α:Type}{cf:α→α→Int}(hO:SWO (ltOf cf))(l:List α):jY cf (dU cf l):=by
 have:=List.pairwise_mergeSort (le:=fun x y=> !(ltOf cf y x)) (fun x y z h1 h2=>by
  simp only[Bool.not_eq_true'] at h1 h2⊢;exact hO.ntrans z y x h2 h1) (fun x y=>by
  cases h1:ltOf cf y x with
  |false=>rfl
  |true=>
   cases h2:ltOf cf x y with
   |false=>rfl
   |true=>have:=hO.trans x y x h2 h1;rw[hO.irrefl] at this;cases this) l
 unfold jY dU;exact this.imp fun{x y} h=>by simpa using h
theorem uT{P:Program}{ρ:Ren}(L:SlLaysF0.n6 P ρ)(hen:fG P (ρ.f 6)=true)(k:Sh)(fv:V)(h:Hp)(nx:Nat):bD P (ρ.f 6) [.sl k .nil [],fv] h nx fun v h' nx'=>v= .tup []∧h'=h:=by
 refine⟨hen,fun K aAK hlv hr hv=>?_⟩;obtain⟨hsz,hv⟩:=hv;have hsz:aAK.size=2:=by simpa using hsz.symm
 obtain⟨c1,c2,rfl⟩:∃c1 c2,aAK=#[c1,c2]:=⟨aAK[0],aAK[1],by
  apply KN
  ·simp[hsz]
  intro i h1 h2;have:i=0∨i=1:=by simp at h2;omega
  rcases this with rfl|rfl<;>rfl⟩
 have v1:VR K (.sl k .nil []) c1:=hv 0 Zm;cases v1 with
 |sl _ _ _ b off cap f hb aAG aAM hst hv aAa aA8 aAo aBM=>exact absurd rfl aA8
 |slnil=>
  refine(AnyF.slices_SortFunc_none L none 0 c2 K.w).mono ?_;rintro e w' ⟨rfl,rfl⟩;exact⟨K, .tup [], .tuple #[],h,nx,rfl,rfl, .refl K, .tup [] #[] rfl (fun i hi=>absurd hi Zm),hr,fun n hn=>⟨hlv n hn, .inl hn⟩,Kh _,rfl,rfl⟩
section
variable{P:Program}{α:Type}(e:α→V)
theorem pF{ρ:Ren}(L:SlLaysF0.n6 P ρ){n:Nat}(aAG:∀x,(e x).fits (.agg n)=true)(aE:∀w,(isAgg (ρ.t 24)).run P w= .ok true w)(zE:∀w,(Kw (ρ.t 24)).run P w= .ok n w)(hen:fG P (ρ.f 6)=true)
 {f f0 f1 f2 bs:Nat} {z:V} (hL:aH P f=some (LB.aAq (.agg n) f0 f1)) (hL0:aH P f0=some (LB.Collect (.agg n) f2)) (hL2:aH P f2=some (LB.aAf (.agg n) z bs)) (hz:z.fits (.agg n)=true) (hbs:bs≤140737) (hf1:f1=ρ.f 6)
 (g:Nat) (aAY:List V) (hb:Hp) (xs:List α) (hit:AR P g aAY hb (xs.map fun x=>[e x])) (hl:xs.length≤100000000)
 (cf:α→α→Int) (hO:SWO (ltOf cf)) (gc:Nat) (aDQ:List V) (aGF:∀x y,aY P gc ([e x,e y]++aDQ) Kd (.int .i64 (cf x y))) (h':Hp) (nx:Nat) (hh:hb.has h'):
 bD P f [.fn (.func g) [] aAY, .fn (.func gc) [] aDQ] h' nx fun v h'' _=>∃es,(∃ys:List α,ys.Perm xs∧jY cf ys∧es=ys.map e)∧AS nx h' (.agg n) es v h'':=by
 refine aF hL fun hd=>?_;simp only[jL,jM,jA,jB,jN,jO,jP,jQ,V.undef];refine wl ?_;refine bN ((yd e aAG hL0 hL2 hz hbs g aAY hb xs hit hl _ _ hh).mono ?_);intro v h'' nx' hnx hv;unfold dM;rcases hv with⟨rfl,rfl,rfl⟩|⟨hne,id,hid,rfl,rfl⟩
 ·refine Zn ?_;refine wl ?_;refine bN ?_;subst hf1;refine(uT L hen (.agg n) _ _ _).mono ?_;rintro v h'' aOC _ ⟨rfl,rfl⟩;unfold dM;refine Zn ?_;refine wl ?_;exact bT (aG h'' (Ka _) ⟨[],⟨[],List.Perm.refl _,List.Pairwise.nil,rfl⟩, .inl ⟨rfl,rfl,rfl⟩⟩)
 refine Zn ?_;refine wl ?_;refine bN ?_;subst hf1;refine(mI L n aE zE hen e aAG cf hO gc aDQ aGF id xs hne _ _ (by simp[Kc]) or).mono ?_;rintro v h'' aOC _ ⟨rfl,rfl,ys,hp,hs,rfl⟩;unfold dM;refine Zn ?_;refine wl ?_;have hlen:ys.length=xs.length:=hp.length_eq;refine bT (aG _ (Ka _) ⟨ys.map e,⟨ys,hp,hs,rfl⟩, .inr ⟨?_,id,hid,?_,?_⟩⟩)
 ·intro hys;have:ys=[]:=by simpa using hys
  subst this;exact hne (Ku.1 (by simpa using hlen.symm))
 ·simp only[jK,hlen,go_sem,reduceIte,jA,jB,jC,jD,reduceCtorEq,jE,jF]
 funext m;simp only[Kb];split<;>rfl
theorem cm{ρ:Ren}(L:SlLaysF0.n6 P ρ){n:Nat}(aAG:∀x,(e x).fits (.agg n)=true)(hnm:∀x L,(e x).names L)(aE:∀w,(isAgg (ρ.t 24)).run P w= .ok true w)(zE:∀w,(Kw (ρ.t 24)).run P w= .ok n w)(hen:fG P (ρ.f 6)=true)
 {f f0 f1 f2 bs:Nat} {z:V} (hL:aH P f=some (LB.aAq (.agg n) f0 f1)) (hL0:aH P f0=some (LB.Collect (.agg n) f2)) (hL2:aH P f2=some (LB.aAf (.agg n) z bs)) (hz:z.fits (.agg n)=true) (hbs:bs≤140737) (hf1:f1=ρ.f 6)
 (g:Nat) (aAY:List V) (hb:Hp) (xs:List α) (hit:AR P g aAY hb (xs.map fun x=>[e x])) (hl:xs.length≤100000000)
 (cf:α→α→Int) (hO:SWO (ltOf cf)) (hT:∀x y,ltOf cf x y=false→ltOf cf y x=false→x=y) (gc:Nat) (aDQ:List V) (aGF:∀x y,aY P gc ([e x,e y]++aDQ) Kd (.int .i64 (cf x y))):
 aY P f [.fn (.func g) [] aAY, .fn (.func gc) [] aDQ] hb (lst (.agg n) ((dU cf xs).map e)):=by
 refine dB (fun L=>cP (fun L=>bG (fun x=>hnm x L) _) L) fun h' nx hh=>?_;have c:=(pF e L aAG aE zE hen hL hL0 hL2 hz hbs hf1 g aAY hb xs hit hl cf hO gc aDQ aGF h' nx hh).aFo;refine⟨c.1,fun K aAK hlv hr hv=>((c.mono (R':=fun v' h'' _=>v'.loose=lst (.agg n) ((dU cf xs).map e)∧h'.le h'') ?_).2 K aAK hlv hr hv)⟩;rintro v h'' nx' hnx ⟨es,⟨ys,hp,hs,rfl⟩,hf⟩;have hy:ys=dU cf xs:=oJ hT _ _ (hp.trans (dX cf xs).symm) hs (gU hO xs);subst hy;exact⟨hf.loose,hf.le (fun m b hm=>hlv m (hr.lt m b hm))⟩
end
end Go.Proofs.YtecepaehmojpgaaGreat
namespace Go.Proofs.YtecepaehmojpgaaGreat
open Go.RowKit Go.Sort Go.Shelf
def qk{α:Type}(P:Program)(gf:Nat)(aAY:List V)(hb:Hp)(e:α→List V)(ok:List α→α→Prop)(fin:List α→Prop):Prop:=
 ∀(yn n0:Nat) (J:Hp→List α→Hp→Nat→Prop) (D:Hp→Nat→Prop),
  (∀F i h nx,J F i h nx→F.le h)→(∀F i h nx nx',J F i h nx→nx≤nx'→J F i h nx')→
  (∀F i h nx b,J F i h nx→aI h nx→n0≤nx→J (F.set nx b) i (h.set nx b) (nx+1))→
  (∀F i h nx n b b',J F i h nx→n0≤n→F n=some b→J (F.set n b') i (h.set n b') nx)→(∀h nx nx',D h nx→nx≤nx'→D h nx')→
  (∀F i x,ok i x→∀h nx,J F i h nx→aI h nx→n0≤nx→gA P yn (e x) h nx fun v h' nx'=>(v= .bool true∧J F (i++[x]) h' nx')∨(v= .bool false∧D h' nx'))→
  ∀F h,J F [] h n0→hb.has F→aI h n0→bD P gf (.yld yn::aAY) h n0 fun _ h' nx'=>(∃F' i,F.le F'∧fin i∧J F' i h' nx')∨D h' nx'
theorem cr{α:Type}{e0:α→List V}{ok:List α→α→Prop}{fin:List α→Prop}{P:Program}{g:aP}{ps:List Nat}{asg b:aZ}{Q:cM→St→Prop}{s:St}{gf:Nat}{aAY:List V}{hb:Hp}(hit:qk P gf aAY hb e0 ok fin)(hg:g.ev s.sl= .fn (.func gf) [] aAY)
 (hlen:∀x,(e0 x).length=ps.length) (hd:aI s.h s.nx) (I:Hp→List α→Hp→Nat→Prop) (E:cM→Hp→Nat→Prop)
 (hlI:∀F i h nx,I F i h nx→F.le h) (hnI:∀F i h nx nx',I F i h nx→nx≤nx'→I F i h nx') (hsI:∀F i h nx b,I F i h nx→F s.nx=none→I F i (h.set s.nx b) nx)
 (haI:∀F i h nx b,I F i h nx→aI h nx→s.nx<nx→I (F.set nx b) i (h.set nx b) (nx+1)) (huI:∀F i h nx n b b',I F i h nx→s.nx<n→F n=some b→I (F.set n b') i (h.set n b') nx)
 (hnE:∀e h nx nx',E e h nx→nx≤nx'→E e h nx') (hsE:∀e h nx b,E e h nx→E e (h.set s.nx b) nx)
 (F0:Hp) (h0:I F0 [] s.h (s.nx+1)) (hb0:hb.has F0) (hF0:F0 s.nx=none)
 (aCk:∀F i x,ok i x→∀h nx X,I F i h nx→F s.nx=none→s.nx<nx→h s.nx=some X→aI h nx→
   lwp P asg (FD s.nx X fun s1=>∀X',lwp P b (vM s.nx X' (I F (i++[x])) E) ⟨s1.sl,s1.h.set s.nx X',s1.nx⟩) ⟨aAr s.sl ps (e0 x),h,nx⟩)
 (aCo:∀F i,fin i→F0.le F→∀h nx,I F i h nx→s.nx<nx→aI h nx→Q .normal ⟨s.sl,h.del s.nx,nx⟩)
 (hex:∀e h nx,E e h nx→s.nx<nx→aI h nx→(e= .ret∨∃id,e= .exit id)→Q e ⟨s.sl,h.del s.nx,nx⟩):lwp P (.range g ps asg b) Q s:=by
 simp only[lwp,hg];intro rcd U hpl hY;have aAT:∀(h:Hp) (b:Blk),(h.set s.nx b) s.nx=some b:=fun h b=>by simp[Kc]
 refine((hit s.nx (s.nx+1) (fun F i h nx=>I F i h nx∧h s.nx=some (.obj (rcd .ready none) U)∧F s.nx=none)
  (fun h nx=>(h s.nx=some (.obj (rcd .done (some .ret)) U)∧E .ret h nx)∨∃id,h s.nx=some (.obj (rcd .done (some (.exit id))) U)∧E (.exit id) h nx)
  (fun F i h nx hj=>hlI F i h nx hj.1) (fun F i h nx nx' hj hle=>⟨hnI F i h nx nx' hj.1 hle,hj.2⟩)
  (fun F i h nx b hj hdm hle=>⟨haI F i h nx b hj.1 hdm or,by simp only[Kc];rw[if_neg or];exact hj.2.1,by simp only[Kc];rw[if_neg or];exact hj.2.2⟩)
  (fun F i h nx n b b' hj hle hn=>⟨huI F i h nx n b b' hj.1 or hn,by simp only[Kc];rw[if_neg or];exact hj.2.1,by simp only[Kc];rw[if_neg or];exact hj.2.2⟩)
  (fun h nx nx' hD hle=>hD.imp (fun hD=>⟨hD.1,hnE _ _ _ _ hD.2 hle⟩) (fun⟨id,hD⟩=>⟨id,hD.1,hnE _ _ _ _ hD.2 hle⟩)) ?_ F0 _ ⟨hsI _ _ _ _ _ h0 hF0,aAT _ _,hF0⟩ hb0 ?_).dom).mono ?_
 ·rintro F i x hi h nx ⟨hI,hr,hFn⟩ aBO aDp;refine hY (e0 x) h nx _ (hlen _) hr ?_;refine nD ?_ (aCk F i x hi h nx _ hI hFn (aBO _ _ hr) hr aBO);intro e s1 hq;cases e with
  |exit id=>exact hq.elim
  |ret=>exact hq.elim
  |normal=>
   refine⟨hq.1,nD ?_ (hq.2 (.obj (rcd .busy none) U))⟩;intro e s2 hq2;cases e with
   |normal=>exact⟨hq2.1, .inl ⟨rfl,hsI _ _ _ _ _ hq2.2 hFn,aAT _ _,hFn⟩⟩
   |ret=>exact⟨hq2.1, .inr ⟨rfl, .inl ⟨aAT _ _,hsE _ _ _ _ hq2.2⟩⟩⟩
   |exit id=>exact⟨hq2.1, .inr ⟨rfl, .inr ⟨id,aAT _ _,hsE _ _ _ _ hq2.2⟩⟩⟩
 ·intro m b hm;unfold Kc at hm;split at hm
  ·omega
  have:=hd m b hm;omega
 rintro v h' nx' _ ⟨(⟨F',i,hFF,aA9,hI,hr,_⟩|(⟨hr,hE⟩|⟨id,hr,hE⟩)),aBO,hle⟩
 ·exact .inl ⟨hr,aCo F' i aA9 hFF _ _ hI or aBO⟩
 ·exact .inr (.inl ⟨hr,hex _ _ _ hE or aBO (.inl rfl)⟩)
 exact .inr (.inr ⟨id,hr,hex _ _ _ hE or aBO (.inr ⟨id,rfl⟩)⟩)
section
variable{P:Program}{k:Sh}{α:Type}(e:α→V)(aAG:∀x,(e x).fits k=true)
include aAG
theorem jv{f bs:Nat}{z:V}(hL:aH P f=some (LB.aAf k z bs))(hz:z.fits k=true)(hbs:bs≤140737)(g:Nat)(aAY:List V)(hb:Hp)(ok:List α→α→Prop)(fin:List α→Prop)(hit:qk P g aAY hb (fun x=>[e x]) ok fin)(hl:∀xs x,ok xs x→xs.length<100000000)
 (h':Hp) (nx:Nat) (hh:hb.has h'):
 bD P f [.sl k .nil [], .fn (.func g) [] aAY] h' nx fun v h'' _=>∃xs,fin xs∧((xs=[]∧v= .sl k .nil []∧h''=h')∨(xs≠ []∧∃id,nx≤id∧v= .rs id k 0 xs.length∧h''=h'.set id (.arr k (xs.map e)))):=by
 refine aF hL fun hd=>?_;simp only[jL,jM,jA,jB,jN,jO,jP,jQ,V.undef];refine wl ?_;have aBT:∀n,nx≤n→h' n=none:=fun n hn=>aI.none hd hn;obtain⟨I,hI⟩:∃I:Hp→List α→Hp→Nat→Prop,∀F i h nx1,I F i h nx1↔(h'.le F∧F.le h∧F nx=none∧∃acc,h nx=some (.arr .leaf [acc])∧((i=[]∧acc= .sl k .nil [])∨(i≠ []∧∃id,nx≤id∧id≠nx∧id≠nx+1∧F id=none∧acc= .rs id k 0 i.length∧h id=some (.arr k (i.map e))))):=⟨_,fun _ _ _ _=>Iff.rfl⟩;refine cr hit rfl Zm (aI.set hd Zm Zm _) I (fun _ _ _=>False) ?_ ?_ ?_ ?_ ?_ (fun _ _ _ _ h=>h.elim) (fun _ _ _ _ h=>h.elim) h' ?_ hh (aBT _ Zm) ?_ ?_ (fun _ _ _ h=>h.elim)
 ·exact fun F i h nx1 hi=>((hI _ _ _ _).1 hi).2.1
 ·exact fun F i h nx1 nx2 hi _=>(hI _ _ _ _).2 ((hI _ _ _ _).1 hi)
 ·intro F i h nx1 b hi hFn;obtain⟨hle,hFh,hF0,acc,h1,h2⟩:=(hI _ _ _ _).1 hi;refine(hI _ _ _ _).2 ⟨hle,eV hFh hFn b,hF0,acc,?_,?_⟩
  ·simp only[Kb];rw[if_neg Zm];exact h1
  rcases h2 with h2|⟨hi,id,h3,h4,h5,hFi,h6,h7⟩
  ·exact .inl h2
  refine .inr ⟨hi,id,h3,h4,h5,hFi,h6,?_⟩;simp only[Kb];rw[if_neg h5];exact h7
 ·intro F i h nx1 b hi hdm hlt;obtain⟨hle,hFh,hF0,acc,h1,h2⟩:=(hI _ _ _ _).1 hi;simp only at hlt;have hFd:=hdm.le hFh;have aCG:∀(G:Hp),aI G nx1→G.le (G.set nx1 b):=fun G hG=>eV (Ka _) (aI.none hG (Kh _)) b;have aGM:(F.set nx1 b).le (h.set nx1 b):=fun m c hm=>by
   unfold Kc at hm⊢;split
   ·rename_i e1;rw[if_pos e1] at hm;exact hm
   rename_i e1;rw[if_neg e1] at hm;exact hFh m c hm
  refine(hI _ _ _ _).2 ⟨Kg hle (aCG F hFd),aGM,?_,acc,?_,?_⟩
  ·simp only[Kb];rw[if_neg or];exact hF0
  ·simp only[Kb];rw[if_neg or];exact h1
  rcases h2 with h2|⟨hi,id,h3,h4,h5,hFi,h6,h7⟩
  ·exact .inl h2
  have hid:id<nx1:=hdm _ _ h7;refine .inr ⟨hi,id,h3,h4,h5,?_,h6,?_⟩
  ·simp only[Kb];rw[if_neg or];exact hFi
  simp only[Kb];rw[if_neg or];exact h7
 ·intro F i h nx1 n b b' hi hlt hn;obtain⟨hle,hFh,hF0,acc,h1,h2⟩:=(hI _ _ _ _).1 hi;simp only at hlt;have aGM:(F.set n b').le (h.set n b'):=fun m c hm=>by
   unfold Kc at hm⊢;split
   ·rename_i e1;rw[if_pos e1] at hm;exact hm
   rename_i e1;rw[if_neg e1] at hm;exact hFh m c hm
  refine(hI _ _ _ _).2 ⟨eV hle (aBT _ or) b',aGM,?_,acc,?_,?_⟩
  ·simp only[Kb];rw[if_neg or];exact hF0
  ·simp only[Kb];rw[if_neg or];exact h1
  rcases h2 with h2|⟨hi,id,h3,h4,h5,hFi,h6,h7⟩
  ·exact .inl h2
  have hne:id≠n:=fun e=>by rw[e,hn] at hFi;cases hFi
  refine .inr ⟨hi,id,h3,h4,h5,?_,h6,?_⟩
  ·simp only[Kb];rw[if_neg hne];exact hFi
  simp only[Kb];rw[if_neg hne];exact h7
 ·exact(hI _ _ _ _).2 ⟨Ka _,eV (Ka _) (aBT _ Zm) _,aBT _ (Kh _), .sl k .nil [],by simp[Kb], .inl ⟨rfl,rfl⟩⟩
 ·intro F i x hi h nx1 X hii hFn hnx hX hdm;obtain⟨aDp,hFh,hF0,acc,h1,h2⟩:=(hI _ _ _ _).1 hii;simp only at hnx hX hFn;have hFd:=hdm.le hFh;have hi':=hl i x hi;have aWN:nx<nx1:=or;have e1:(nx=nx1)=False:=by simp;omega
  have e2:(nx+1=nx1)=False:=by simp;omega
  have e4:(nx1=nx+1)=False:=by simp;omega
  have e6:(nx1=nx)=False:=by simp;omega
  have e7:(nx=nx1+2)=False:=by simp;omega
  have e8:(nx+1=nx1+2)=False:=by simp;omega
  have e9:(nx=nx1+3)=False:=by simp;omega
  have e10:(nx+1=nx1+3)=False:=by simp;omega
  simp only[aAr,Ky,Kz];refine wle (ee5 hz aAG e1 e2 e4) ?_;refine sU (by simp only[e1,e2,e4,go_sem,reduceIte,jA,jB,jC,jD,reduceCtorEq,jE,jF];exact hX) fun X'=>?_;refine Zn ?_;refine dJ (bL ?_);have aID:∀(h'':Hp) (nx2 id:Nat),F.le h''→nx1≤id→h'' nx=some (.arr .leaf [.rs id k 0 (i.length+1)])→h'' (nx+1)=some X'→h'' id=some (.arr k ((i++[x]).map e))→∀sl,fP 1 (vM (nx+1) X' (I F (i++[x])) (fun _ _ _=>False)) .normal ⟨sl,h'',nx2⟩:=by
   intro h'' nx2 id q1 q2 q3 q4 q5 sl;exact bZ (oO q4 ((hI _ _ _ _).2 ⟨aDp,q1,hF0,_,q3, .inr ⟨Zm,id,or,or,or,aI.none hFd q2,Zm,q5⟩⟩))
  generalize hQ:fP 1 (vM (nx+1) X' (I F (i++[x])) (fun _ _ _=>False)) .normal=Qn at aID⊢;have hFx:∀n,(nx1≤n∨n=nx∨n=nx+1)→F n=none:=fun n hn=>by
   rcases hn with hn|rfl|rfl
   ·exact aI.none hFd hn
   ·exact hF0
   exact hFn
  have aGT:∀n,(nx1≤n∨n=nx∨n=nx+1)→∀{h2:Hp},F.le h2→∀b,F.le (h2.set n b):=fun n hn h2 q b=>eV q (hFx n hn) b;rcases h2 with⟨rfl,rfl⟩|⟨aA0,id,h3,h4,h5,hFi,rfl,h7⟩
  ·refine bE 3 rfl (by simp only[h1,aAG,hz,e1,e2,e4,e6,go_sem,reduceIte,jA,jB,jC,jD,reduceCtorEq,jE,jF]) ?_;simp only[h1,aAG,hz,e1,e2,e4,e6,go_sem,reduceIte,jA,jB,jC,jD,reduceCtorEq,jE,jF];refine mA rfl rfl Zm (by simp only[jL,jM];omega) ?_;refine eU rfl (by simp only[h1,aAG,hz,e1,e2,e4,e6,e7,e8,e9,e10,go_sem,reduceIte,jA,jB,jC,jD,reduceCtorEq,jE,jF];try omega) ?_;simp only[h1,aAG,hz,e1,e2,e4,e6,e7,e8,e9,e10,go_sem,reduceIte,jA,jB,jC,jD,reduceCtorEq,jE,jF];refine aID _ _ (nx1+3) ?_ or ?_ ?_ ?_ _
   ·repeat (first|exact hFh|refine aGT _ or ?_ _)
   ·simp only[h1,e1,e2,e4,e6,e7,e8,e9,e10,go_sem,reduceIte,jA,jB,jC,jD,reduceCtorEq,jE,jF]
   ·simp only[h1,e1,e2,e4,e6,e7,e8,e9,e10,go_sem,reduceIte,jA,jB,jC,jD,reduceCtorEq,jE,jF]
   simp only[jQ,Ks,Kt,go_sem,reduceIte,jA,jB,jC,jD,reduceCtorEq,jE,jF];have:(nx1+3=nx)=False:=by simp;omega
   simp only[this,go_sem,reduceIte,jA,jB,jC,jD,reduceCtorEq,jE,jF]
  have hid:id<nx1:=hdm _ _ h7;have f1:(id=nx1)=False:=by simp;omega
  have f2:(id=nx1+2)=False:=by simp;omega
  have f3:(id=nx)=False:=by simp;omega
  have f4:(id=nx+1)=False:=by simp;omega
  have f5:(id=nx1+3)=False:=by simp;omega
  have f6:(nx=id)=False:=by simp;omega
  have f7:(nx+1=id)=False:=by simp;omega
  have f8:(nx1+3=id)=False:=by simp;omega
  have hlen:(i.map e).length=i.length:=Zm;have hb1:(i.length+1)*bs≤140737488355328:=ab or hbs;refine eU rfl (by simp only[h1,h7,hlen,hb1,aAG,hz,e1,e2,e4,e6,e7,e8,e9,e10,f1,f2,f3,f4,f5,f6,f7,f8,go_sem,reduceIte,jA,jB,jC,jD,reduceCtorEq,jE,jF];try omega) ?_;simp only[h1,h7,hlen,hb1,aAG,hz,e1,e2,e4,e6,e7,e8,e9,e10,f1,f2,f3,f4,f5,f6,f7,f8,go_sem,reduceIte,jA,jB,jC,jD,reduceCtorEq,jE,jF];refine aID _ _ (nx1+3) ?_ or ?_ ?_ ?_ _
  ·repeat (first|exact hFh|refine aGT _ or ?_ _|refine oS ?_ hFi)
  ·simp only[h1,e1,e2,e4,e6,e7,e8,e9,e10,go_sem,reduceIte,jA,jB,jC,jD,reduceCtorEq,jE,jF]
  ·simp only[h1,e1,e2,e4,e6,e7,e8,e9,e10,f6,f7,go_sem,reduceIte,jA,jB,jC,jD,reduceCtorEq,jE,jF]
  have:(nx1+3=nx)=False:=by simp;omega
  rw[KI];simp only[this,Ks,Kt,go_sem,reduceIte,jA,jB,jC,jD,reduceCtorEq,jE,jF]
 intro F xs aA9 hFF h nx1 hii hnx hdm;obtain⟨aDp,hFh,hF0,acc,h1,h2⟩:=(hI _ _ _ _).1 hii;have hle:=Kg aDp hFh;simp only at hnx;have e1:(nx=nx+1)=False:=Zm;refine wle (ee2 h1 e1) ?_;rcases h2 with⟨h2,rfl⟩|⟨aA0,id,h3,h4,h5,hFi,rfl,h7⟩
 ·refine bT (aG h' ?_ ⟨xs,aA9, .inl ⟨h2,?_,rfl⟩⟩)
  ·exact oS hle (aBT _ Zm)
  simp only[go_sem,reduceIte,jA,jB,jC,jD,reduceCtorEq,jE,jF]
 refine bT (aG (h'.set id (.arr k (xs.map e))) ?_ ⟨xs,aA9, .inr ⟨aA0,id,h3,?_,rfl⟩⟩)
 ·refine m8 (oS hle (aBT _ Zm)) ?_;simp only[Hp.aBm];rw[if_neg h5,h7]
 simp only[jK,go_sem,reduceIte,jA,jB,jC,jD,reduceCtorEq,jE,jF]
theorem se{f f0 bs:Nat}{z:V}(hL:aH P f=some (LB.Collect k f0))(hL0:aH P f0=some (LB.aAf k z bs))(hz:z.fits k=true)(hbs:bs≤140737)(g:Nat)(aAY:List V)(hb:Hp)(ok:List α→α→Prop)(fin:List α→Prop)(hit:qk P g aAY hb (fun x=>[e x]) ok fin)(hl:∀xs x,ok xs x→xs.length<100000000)
 (h':Hp) (nx:Nat) (hh:hb.has h'):
 bD P f [.fn (.func g) [] aAY] h' nx fun v h'' _=>∃xs,fin xs∧((xs=[]∧v= .sl k .nil []∧h''=h')∨(xs≠ []∧∃id,nx≤id∧v= .rs id k 0 xs.length∧h''=h'.set id (.arr k (xs.map e)))):=by
 refine aF hL fun hd=>?_;simp only[jL,jM,jA,jB,jN,jO,jP,jQ,V.undef];refine wl ?_;refine bN ((jv e aAG hL0 hz hbs g aAY hb ok fin hit hl _ _ hh).mono ?_);intro v h'' nx' hnx hv;unfold dM;refine Zn ?_;refine wl ?_;exact bT (aG h'' (Ka _) hv)
end
section
variable{P:Program}{α:Type}(e:α→V)
theorem wP{ρ:Ren}(L:SlLaysF0.n6 P ρ){n:Nat}(aAG:∀x,(e x).fits (.agg n)=true)(aE:∀w,(isAgg (ρ.t 24)).run P w= .ok true w)(zE:∀w,(Kw (ρ.t 24)).run P w= .ok n w)(hen:fG P (ρ.f 6)=true)
 {f f0 f1 f2 bs:Nat} {z:V} (hL:aH P f=some (LB.aAq (.agg n) f0 f1)) (hL0:aH P f0=some (LB.Collect (.agg n) f2)) (hL2:aH P f2=some (LB.aAf (.agg n) z bs)) (hz:z.fits (.agg n)=true) (hbs:bs≤140737) (hf1:f1=ρ.f 6)
 (g:Nat) (aAY:List V) (hb:Hp) (ok:List α→α→Prop) (fin:List α→Prop) (hit:qk P g aAY hb (fun x=>[e x]) ok fin) (hl:∀xs x,ok xs x→xs.length<100000000) (hfl:∀xs,fin xs→xs.length≤100000000)
 (cf:α→α→Int) (hO:SWO (ltOf cf)) (gc:Nat) (aDQ:List V) (aGF:∀x y,aY P gc ([e x,e y]++aDQ) Kd (.int .i64 (cf x y))) (h':Hp) (nx:Nat) (hh:hb.has h'):
 bD P f [.fn (.func g) [] aAY, .fn (.func gc) [] aDQ] h' nx fun v h'' _=>∃es,(∃xs ys:List α,fin xs∧ys.Perm xs∧jY cf ys∧es=ys.map e)∧AS nx h' (.agg n) es v h'':=by
 refine aF hL fun hd=>?_;simp only[jL,jM,jA,jB,jN,jO,jP,jQ,V.undef];refine wl ?_;refine bN ((se e aAG hL0 hL2 hz hbs g aAY hb ok fin hit hl _ _ hh).mono ?_);intro v h'' nx' hnx hv;unfold dM;obtain⟨xs,aA9,hv⟩:=hv;have hlx:=hfl _ aA9;rcases hv with⟨rfl,rfl,rfl⟩|⟨hne,id,hid,rfl,rfl⟩
 ·refine Zn ?_;refine wl ?_;refine bN ?_;subst hf1;refine(uT L hen (.agg n) _ _ _).mono ?_;rintro v h'' aOC _ ⟨rfl,rfl⟩;unfold dM;refine Zn ?_;refine wl ?_;exact bT (aG h'' (Ka _) ⟨[],⟨[],[],aA9,List.Perm.refl _,List.Pairwise.nil,rfl⟩, .inl ⟨rfl,rfl,rfl⟩⟩)
 refine Zn ?_;refine wl ?_;refine bN ?_;subst hf1;refine(mI L n aE zE hen e aAG cf hO gc aDQ aGF id xs hne _ _ (by simp[Kc]) or).mono ?_;rintro v h'' aOC _ ⟨rfl,rfl,ys,hp,hs,rfl⟩;unfold dM;refine Zn ?_;refine wl ?_;have hlen:ys.length=xs.length:=hp.length_eq;refine bT (aG _ (Ka _) ⟨ys.map e,⟨xs,ys,aA9,hp,hs,rfl⟩, .inr ⟨?_,id,hid,?_,?_⟩⟩)
 ·intro hys;have:ys=[]:=by simpa using hys
  subst this;exact hne (Ku.1 (by simpa using hlen.symm))
 ·simp only[jK,hlen,go_sem,reduceIte,jA,jB,jC,jD,reduceCtorEq,jE,jF]
 funext m;simp only[Kb];split<;>rfl
theorem zA{ρ:Ren}(L:SlLaysF0.n6 P ρ){n:Nat}(aAG:∀x,(e x).fits (.agg n)=true)(hnm:∀x L,(e x).names L)(aE:∀w,(isAgg (ρ.t 24)).run P w= .ok true w)(zE:∀w,(Kw (ρ.t 24)).run P w= .ok n w)(hen:fG P (ρ.f 6)=true)
 {f f0 f1 f2 bs:Nat} {z:V} (hL:aH P f=some (LB.aAq (.agg n) f0 f1)) (hL0:aH P f0=some (LB.Collect (.agg n) f2)) (hL2:aH P f2=some (LB.aAf (.agg n) z bs)) (hz:z.fits (.agg n)=true) (hbs:bs≤140737) (hf1:f1=ρ.f 6)
 (g:Nat) (aAY:List V) (hb:Hp) (xs0:List α) (ok:List α→α→Prop) (hit:qk P g aAY hb (fun x=>[e x]) ok (fun xs=>xs.Perm xs0)) (hl:∀xs x,ok xs x→xs.length<100000000) (hfl:xs0.length≤100000000)
 (cf:α→α→Int) (hO:SWO (ltOf cf)) (hT:∀x y,ltOf cf x y=false→ltOf cf y x=false→x=y) (gc:Nat) (aDQ:List V) (aGF:∀x y,aY P gc ([e x,e y]++aDQ) Kd (.int .i64 (cf x y))):
 aY P f [.fn (.func g) [] aAY, .fn (.func gc) [] aDQ] hb (lst (.agg n) ((dU cf xs0).map e)):=by
 refine dB (fun L=>cP (fun L=>bG (fun x=>hnm x L) _) L) fun h' nx hh=>?_;have c:=(wP e L aAG aE zE hen hL hL0 hL2 hz hbs hf1 g aAY hb ok _ hit hl (fun xs hp=>by rw[hp.length_eq];exact hfl) cf hO gc aDQ aGF h' nx hh).aFo;refine⟨c.1,fun K aAK hlv hr hv=>((c.mono (R':=fun v' h'' _=>v'.loose=lst (.agg n) ((dU cf xs0).map e)∧h'.le h'') ?_).2 K aAK hlv hr hv)⟩;rintro v h'' nx' hnx ⟨es,⟨xs,ys,aA9,hp,hs,rfl⟩,hf⟩;have hy:ys=dU cf xs0:=oJ hT _ _ ((hp.trans aA9).trans (dX cf xs0).symm) hs (gU hO xs0);subst hy;exact⟨hf.loose,hf.le (fun m b hm=>hlv m (hr.lt m b hm))⟩
end
end Go.Proofs.YtecepaehmojpgaaGreat
