/-
Texts of this proof,one behind the other. No conditions.
-/
import Derived.Test.YtecepaehmojpgaaGreatNd
import Derived.Test.YtecepaehmojpgaaGreatNcb
import Derived.Shelf.SlSortCmp.WholeK
import Derived.Shelf.SlSortCmp.NoneTotal
open Go.Proofs.YtecepaehmojpgaaGreat.Hp renaming le_refl→Ka,none→Kb,set→Kc,aAQ→Kd
open Array renaming getD_eq_getD_getElem?→Ke,getElem?_append_left→Kh,getElem?_eq_none→Kj,getElem?_modify→Kq,ext→KI
open List renaming getElem?_eq_getElem→Kf,getD_eq_getElem?_getD→Kg,findIdx?_eq_some_iff_getElem→Ki,take_succ_eq_append_getElem→Kk,findIdx?_eq_none_iff→Kp,getElem?_toArray→Ks,getElem_mem→Kw,getElem_map→Ky,map_cons→KD,map_nil→KF
open Nat renaming le_refl→Km,lt_of_lt_of_le→Kv,zero_le→Kx,lt_or_ge→KG,zero_add→KH
open Go renaming undef→Ko,sizeOf→KE
open Option renaming isSome_none→Kt,getD_some→Kz
open Bool renaming false_eq_true→Ku
open Go.World renaming shape?→KB,cell?→KC
set_option linter.unusedSimpArgs false
set_option linter.unusedVariables false
set_option linter.unusedSectionVars false
set_option maxHeartbeats 8000000
open Nat renaming reduceAdd→jA,reduceSub→jB,reduceLT→jC,reduceLeDiff→jD,reduceEqDiff→jE
open Int renaming reduceToNat→jF,toNat_natCast→jG,natCast_add→jH,natCast_one→jI,natCast_zero→jJ
open List renaming length_map→jK,length_cons→jL,length_nil→jM,replicate_succ→jN,replicate_zero→jO,cons_append→jP,nil_append→jQ
namespace Go.Proofs.YtecepaehmojpgaaGreat
open Go.RowKit
namespace LB
abbrev aCs:List aA:=[
 ⟨some 4,none, .val (.move (.const (.int .i64 0)))⟩]
abbrev aCr:List aA:=[
 ⟨some 6,none, .val (.move (.slot 0))⟩,
 ⟨some 7,none, .val (.len (.slot 6))⟩,
 ⟨some 8,none, .val (.move (.const (.int .i64 0)))⟩]
abbrev aCq:List aA:=[
 ⟨some 9,none, .val (.bin .lss (.slot 8) (.slot 7))⟩]
abbrev aCp:List aA:=[
 ⟨some 10,none, .val (.move (.slot 8))⟩,
 ⟨some 5,none, .val (.move (.slot 10))⟩]
abbrev aCo(k:Sh):List aA:=[
 ⟨some 11,none, .val (.move (.slot 1))⟩,
 ⟨some 12,none, .val (.move (.slot 0))⟩,
 ⟨some 13,none, .val (.move (.slot 5))⟩,
 ⟨some 14,none, .val (.aBn k (.slot 12) (.slot 13))⟩,
 ⟨some 15,none, .val (.load k (.slot 14))⟩,
 ⟨some 16,none, .aAc (.slot 11) [(.slot 15)]⟩]
abbrev aCn:List aA:=[
 ⟨some 17,none, .val (.move (.slot 5))⟩,
 ⟨some 4,none, .val (.move (.slot 17))⟩]
abbrev aCm:List aA:=[
 ⟨some 18,none, .val (.bin .add (.slot 8) (.const (.int .i64 1)))⟩,
 ⟨some 8,none, .val (.move (.slot 18))⟩]
abbrev aCt(k:Sh):bF:=(.seq (.ops aCq) (.seq (.cond (.slot 9) .skip (.exit 0)) (.seq (.block 1 (.seq (.ops aCp) (.seq (.ops (aCo k)) (.cond (.slot 16) (.seq (.ops aCn) .ret) .skip)))) (.ops aCm))))
abbrev aCl:List aA:=[
 ⟨some 4,none, .val (.move (.const (.int .i64 (-1))))⟩]
def aAe(k:Sh):LFn:=⟨(.seq (.ops aCs) (.seq (.seq (.ops aCr) (.block 0 (.loop (aCt k)))) (.seq (.ops aCl) .ret))),19,[.slot 4]⟩
abbrev aBl:List aA:=[
 ⟨some 4,none, .val (.move (.const (.bool false)))⟩]
abbrev aBk(f0:Nat):List aA:=[
 ⟨some 5,none, .val (.move (.slot 0))⟩,
 ⟨some 6,none, .val (.move (.slot 1))⟩,
 ⟨some 7,none, .call f0 [(.slot 5),(.slot 6)]⟩,
 ⟨some 8,none, .val (.bin .geq (.slot 7) (.const (.int .i64 0)))⟩,
 ⟨some 4,none, .val (.move (.slot 8))⟩]
def aAj(k:Sh)(f0:Nat):LFn:=⟨(.seq (.ops aBl) (.seq (.ops (aBk f0)) .ret)),9,[.slot 4]⟩
abbrev aDN:List aA:=[
 ⟨some 5,none, .val (.load .leaf (.slot 1))⟩,
 ⟨some 6,none, .val (.len (.slot 5))⟩,
 ⟨some 7,none, .val (.move (.const (.int .i64 0)))⟩]
abbrev aDM:List aA:=[
 ⟨some 8,none, .val (.bin .lss (.slot 7) (.slot 6))⟩]
abbrev aDL(k:Sh)(z:V):List aA:=[
 ⟨some 9,none, .val (.aBn k (.slot 5) (.slot 7))⟩,
 ⟨some 10,none, .val (.load k (.slot 9))⟩,
 ⟨some 4,none, .box k (.const z)⟩,
 ⟨none,none, .store k (.slot 4) (.slot 10)⟩]
abbrev aDK(k:Sh):List aA:=[
 ⟨some 11,none, .val (.move (.slot 0))⟩,
 ⟨some 12,none, .val (.load k (.slot 4))⟩,
 ⟨some 13,none, .aAc (.slot 11) [(.slot 12)]⟩,
 ⟨some 14,none, .val (.not (.slot 13))⟩]
abbrev aDJ:List aA:=[
 ⟨some 15,none, .val (.bin .add (.slot 7) (.const (.int .i64 1)))⟩,
 ⟨some 7,none, .val (.move (.slot 15))⟩]
abbrev aDO(k:Sh)(z:V):bF:=(.seq (.ops aDM) (.seq (.cond (.slot 8) .skip (.exit 0)) (.seq (.block 1 (.seq (.ops (aDL k z)) (.seq (.ops (aDK k)) (.cond (.slot 14) .ret .skip)))) (.ops aDJ))))
def aCG(k:Sh)(z:V):LFn:=⟨(.seq (.ops aDN) (.block 0 (.loop (aDO k z)))),16,[]⟩
abbrev aFV:List aA:=[
 ⟨some 1,none, .box .leaf (.slot 0)⟩,
 ⟨some 2,none, .val (.move (.const .aAv))⟩]
abbrev aFU(f0:Nat):List aA:=[
 ⟨some 3,none, .val (.aC0 (.func f0) [] [(.slot 1)])⟩,
 ⟨some 2,none, .val (.move (.slot 3))⟩]
def aFW(k:Sh)(f0:Nat):LFn:=⟨(.seq (.ops aFV) (.seq (.ops (aFU f0)) .ret)),4,[.slot 2]⟩
abbrev aCy(k:Sh):List aA:=[
 ⟨some 2,none, .box .leaf (.slot 0)⟩,
 ⟨some 4,none, .val (.move (.const (.sl k .nil [])))⟩]
abbrev aCx:List aA:=[
 ⟨some 6,none, .val (.move (.slot 1))⟩]
abbrev aCw(k:Sh)(z:V):List aA:=[
 ⟨some 5,none, .box k (.const z)⟩,
 ⟨none,none, .store k (.slot 5) (.slot 7)⟩]
abbrev aCv(k:Sh)(bs:Nat):List aA:=[
 ⟨some 8,none, .val (.load .leaf (.slot 2))⟩,
 ⟨some 9,none, .val (.load k (.slot 5))⟩,
 ⟨some 10,none, .aAd k [(.slot 9)]⟩,
 ⟨some 11,none, .append k bs (.slot 8) (.slot 10)⟩,
 ⟨none,none, .store .leaf (.slot 2) (.slot 11)⟩]
abbrev aCz(k:Sh)(bs:Nat):bF:=(.block 1 (.ops (aCv k bs)))
abbrev aCu:List aA:=[
 ⟨some 12,none, .val (.load .leaf (.slot 2))⟩,
 ⟨some 4,none, .val (.move (.slot 12))⟩]
def aAy(k:Sh)(z:V)(bs:Nat):LFn:=⟨(.seq (.ops (aCy k)) (.seq (.seq (.ops aCx) (.block 0 (.range (.slot 6) [7] (.ops (aCw k z)) (aCz k bs)))) (.seq (.ops aCu) .ret))),13,[.slot 4]⟩
abbrev aED(k:Sh):List aA:=[
 ⟨some 2,none, .val (.move (.const (.sl k .nil [])))⟩]
abbrev aEC(k:Sh)(f0:Nat):List aA:=[
 ⟨some 3,none, .val (.move (.slot 0))⟩,
 ⟨some 4,none, .call f0 [(.const (.sl k .nil [])),(.slot 3)]⟩,
 ⟨some 2,none, .val (.move (.slot 4))⟩]
def Collect(k:Sh)(f0:Nat):LFn:=⟨(.seq (.ops (aED k)) (.seq (.ops (aEC k f0)) .ret)),5,[.slot 2]⟩
abbrev aCK(k:Sh):List aA:=[
 ⟨some 4,none, .val (.move (.const (.sl k .nil [])))⟩]
abbrev aCJ(f0:Nat):List aA:=[
 ⟨some 6,none, .val (.move (.slot 0))⟩,
 ⟨some 7,none, .call f0 [(.slot 6)]⟩,
 ⟨some 5,none, .val (.move (.slot 7))⟩]
abbrev aCI(f1:Nat):List aA:=[
 ⟨some 8,none, .val (.move (.slot 5))⟩,
 ⟨some 9,none, .val (.move (.slot 1))⟩,
 ⟨some 10,none, .call f1 [(.slot 8),(.slot 9)]⟩]
abbrev aCH:List aA:=[
 ⟨some 11,none, .val (.move (.slot 5))⟩,
 ⟨some 4,none, .val (.move (.slot 11))⟩]
def aBD(k:Sh)(f0:Nat)(f1:Nat):LFn:=⟨(.seq (.ops (aCK k)) (.seq (.ops (aCJ f0)) (.seq (.ops (aCI f1)) (.seq (.ops aCH) .ret)))),12,[.slot 4]⟩
abbrev aGZ:List aA:=[
 ⟨some 4,none, .val (.move (.const (.bool false)))⟩]
abbrev aGY:List aA:=[
 ⟨some 6,none, .val (.move (.slot 0))⟩,
 ⟨some 7,none, .val (.len (.slot 6))⟩,
 ⟨some 8,none, .val (.move (.slot 1))⟩,
 ⟨some 9,none, .val (.len (.slot 8))⟩,
 ⟨some 10,none, .val (.bin .neq (.slot 7) (.slot 9))⟩]
abbrev aGX:List aA:=[
 ⟨some 4,none, .val (.move (.const (.bool false)))⟩]
abbrev aGW:List aA:=[
 ⟨some 11,none, .val (.move (.slot 0))⟩,
 ⟨some 12,none, .val (.len (.slot 11))⟩,
 ⟨some 13,none, .val (.move (.const (.int .i64 0)))⟩]
abbrev aGV:List aA:=[
 ⟨some 14,none, .val (.bin .lss (.slot 13) (.slot 12))⟩]
abbrev aGU:List aA:=[
 ⟨some 15,none, .val (.move (.slot 13))⟩,
 ⟨some 5,none, .val (.move (.slot 15))⟩]
abbrev aGT(k:Sh)(e:vG):List (aA×List Nat):=[
 (⟨some 16,none, .val (.move (.slot 0))⟩,[]),
 (⟨some 17,none, .val (.move (.slot 5))⟩,[]),
 (⟨some 18,none, .val (.aBn k (.slot 16) (.slot 17))⟩,[0,1]),
 (⟨some 19,none, .val (.load k (.slot 18))⟩,[0,1,2]),
 (⟨some 20,none, .val (.move (.slot 1))⟩,[]),
 (⟨some 21,none, .val (.move (.slot 5))⟩,[]),
 (⟨some 22,none, .val (.aBn k (.slot 20) (.slot 21))⟩,[4,5]),
 (⟨some 23,none, .val (.load k (.slot 22))⟩,[4,5,6]),
 (⟨some 24,none, .val (.eq true e (.slot 19) (.slot 23))⟩,[0,1,2,3,4,5,6,7])]
abbrev aFa:List aA:=[]
abbrev aGS:List aA:=[
 ⟨some 4,none, .val (.move (.const (.bool false)))⟩]
abbrev aGR:List aA:=[
 ⟨some 25,none, .val (.bin .add (.slot 13) (.const (.int .i64 1)))⟩,
 ⟨some 13,none, .val (.move (.slot 25))⟩]
abbrev aGa(k:Sh)(e:vG):bF:=(.seq (.ops aGV) (.seq (.cond (.slot 14) .skip (.exit 0)) (.seq (.block 1 (.seq (.ops aGU) (.seq (.draw 9 (aGT k e) aFa) (.cond (.slot 24) (.seq (.ops aGS) .ret) .skip)))) (.ops aGR))))
abbrev aGQ:List aA:=[
 ⟨some 4,none, .val (.move (.const (.bool true)))⟩]
def Equal(k:Sh)(e:vG):LFn:=⟨(.seq (.ops aGZ) (.seq (.seq (.ops aGY) (.cond (.slot 10) (.seq (.ops aGX) .ret) .skip)) (.seq (.seq (.ops aGW) (.block 0 (.loop (aGa k e)))) (.seq (.ops aGQ) .ret)))),26,[.slot 4]⟩
abbrev aGe(k:Sh):List aA:=[
 ⟨some 2,none, .val (.move (.const (.sl k .nil [])))⟩]
abbrev aGd(k:Sh):List aA:=[
 ⟨some 3,none, .val (.move (.slot 0))⟩,
 ⟨some 4,none, .val (.eq false .slice (.slot 3) (.const (.sl k .nil [])))⟩]
abbrev aGc(k:Sh):List aA:=[
 ⟨some 2,none, .val (.move (.const (.sl k .nil [])))⟩]
abbrev aGb(k:Sh)(bs:Nat):List aA:=[
 ⟨some 5,none, .aAd k []⟩,
 ⟨some 6,none, .val (.move (.slot 0))⟩,
 ⟨some 7,none, .append k bs (.slot 5) (.slot 6)⟩,
 ⟨some 2,none, .val (.move (.slot 7))⟩]
def Clone(k:Sh)(bs:Nat):LFn:=⟨(.seq (.ops (aGe k)) (.seq (.seq (.ops (aGd k)) (.cond (.slot 4) (.seq (.ops (aGc k)) .ret) .skip)) (.seq (.ops (aGb k bs)) .ret))),8,[.slot 2]⟩
abbrev aFl:List aA:=[
 ⟨some 4,none, .val (.move (.const (.int .i64 0)))⟩]
abbrev aFk(f0:Nat):List aA:=[
 ⟨some 7,none, .val (.move (.slot 0))⟩,
 ⟨some 8,none, .call f0 [(.slot 7)]⟩,
 ⟨some 5,none, .val (.move (.slot 8))⟩]
abbrev aFj(f0:Nat):List aA:=[
 ⟨some 9,none, .val (.move (.slot 1))⟩,
 ⟨some 10,none, .call f0 [(.slot 9)]⟩,
 ⟨some 6,none, .val (.move (.slot 10))⟩]
abbrev aFi:List aA:=[
 ⟨some 11,none, .val (.move (.slot 5))⟩]
abbrev aFh:List aA:=[
 ⟨some 12,none, .val (.move (.slot 6))⟩]
abbrev aFg:List aA:=[
 ⟨some 4,none, .val (.move (.const (.int .i64 0)))⟩]
abbrev aFf:List aA:=[
 ⟨some 4,none, .val (.move (.const (.int .i64 (-1))))⟩]
abbrev aFe:List aA:=[
 ⟨some 13,none, .val (.move (.slot 6))⟩]
abbrev aFd:List aA:=[
 ⟨some 4,none, .val (.move (.const (.int .i64 1)))⟩]
abbrev aFc:List aA:=[
 ⟨some 14,none, .val (.move (.slot 0))⟩,
 ⟨some 15,none, .val (.move (.slot 1))⟩,
 ⟨some 16,none, .val (.bin .lss (.slot 14) (.slot 15))⟩]
abbrev aEH:List aA:=[
 ⟨some 4,none, .val (.move (.const (.int .i64 (-1))))⟩]
abbrev aEG:List aA:=[
 ⟨some 17,none, .val (.move (.slot 0))⟩,
 ⟨some 18,none, .val (.move (.slot 1))⟩,
 ⟨some 19,none, .val (.bin .gtr (.slot 17) (.slot 18))⟩]
abbrev aEF:List aA:=[
 ⟨some 4,none, .val (.move (.const (.int .i64 1)))⟩]
abbrev aEE:List aA:=[
 ⟨some 4,none, .val (.move (.const (.int .i64 0)))⟩]
def aHH(f0:Nat):LFn:=⟨(.seq (.ops aFl) (.seq (.ops (aFk f0)) (.seq (.ops (aFj f0)) (.seq (.seq (.ops aFi) (.cond (.slot 11) (.seq (.seq (.ops aFh) (.cond (.slot 12) (.seq (.ops aFg) .ret) .skip)) (.seq (.ops aFf) .ret)) .skip)) (.seq (.seq (.ops aFe) (.cond (.slot 13) (.seq (.ops aFd) .ret) .skip)) (.seq (.seq (.ops aFc) (.cond (.slot 16) (.seq (.ops aEH) .ret) .skip)) (.seq (.seq (.ops aEG) (.cond (.slot 19) (.seq (.ops aEF) .ret) .skip)) (.seq (.ops aEE) .ret)))))))),20,[.slot 4]⟩
abbrev aGO:List aA:=[
 ⟨some 2,none, .val (.move (.const (.int .i64 0)))⟩]
abbrev aGN:List aA:=[
 ⟨some 3,none, .val (.move (.const (.int .i64 0)))⟩]
abbrev aGM:List aA:=[
 ⟨some 6,none, .val (.move (.slot 0))⟩,
 ⟨some 7,none, .val (.len (.slot 6))⟩,
 ⟨some 8,none, .val (.move (.const (.int .i64 0)))⟩]
abbrev aGL:List aA:=[
 ⟨some 9,none, .val (.bin .lss (.slot 8) (.slot 7))⟩]
abbrev aGK:List aA:=[
 ⟨some 10,none, .val (.aBn .leaf (.slot 6) (.slot 8))⟩,
 ⟨some 11,none, .val (.load .leaf (.slot 10))⟩,
 ⟨some 5,none, .val (.move (.slot 11))⟩]
abbrev aGJ:List aA:=[
 ⟨some 12,none, .val (.move (.slot 5))⟩,
 ⟨some 13,none, .val (.move (.slot 3))⟩,
 ⟨some 14,none, .val (.bin .neq (.slot 12) (.slot 13))⟩]
abbrev aGI:List aA:=[
 ⟨some 15,none, .val (.move (.slot 5))⟩,
 ⟨some 2,none, .val (.move (.slot 15))⟩]
abbrev aGH:List aA:=[
 ⟨some 16,none, .val (.bin .add (.slot 8) (.const (.int .i64 1)))⟩,
 ⟨some 8,none, .val (.move (.slot 16))⟩]
abbrev aGP:bF:=(.seq (.ops aGL) (.seq (.cond (.slot 9) .skip (.exit 0)) (.seq (.block 1 (.seq (.ops aGK) (.seq (.ops aGJ) (.cond (.slot 14) (.seq (.ops aGI) .ret) .skip)))) (.ops aGH))))
abbrev aGG:List aA:=[
 ⟨some 17,none, .val (.move (.slot 3))⟩,
 ⟨some 2,none, .val (.move (.slot 17))⟩]
def aMo:LFn:=⟨(.seq (.ops aGO) (.seq (.ops aGN) (.seq (.seq (.ops aGM) (.block 0 (.loop aGP))) (.seq (.ops aGG) .ret)))),18,[.slot 2]⟩
abbrev aFY:List aA:=[
 ⟨some 2,none, .val (.move (.const (.bool false)))⟩]
abbrev aFX:List aA:=[
 ⟨some 3,none, .val (.move (.slot 0))⟩,
 ⟨some 4,none, .val (.move (.slot 0))⟩,
 ⟨some 5,none, .val (.bin .neq (.slot 3) (.slot 4))⟩,
 ⟨some 2,none, .val (.move (.slot 5))⟩]
def aFZ:LFn:=⟨(.seq (.ops aFY) (.seq (.ops aFX) .ret)),6,[.slot 2]⟩
end LB
end Go.Proofs.YtecepaehmojpgaaGreat
namespace Go.Proofs.YtecepaehmojpgaaGreat
open Go.RowKit
theorem bI{α:Type}(f:α→V)(l:List α)(k:Nat)(h:k<l.length):(l.map f).getD k (.tup [])=f l[k]:=by
 rw[Kg,Kf (by simpa using h)];simp
def fD{α:Type}(p:α→Bool)(l:List α):Int:=match l.findIdx? p with
 |some i=>i
 |none=>-1
theorem zK{α:Type}(p:α→Bool)(l:List α):decide (0≤fD p l)=l.any p:=by
 unfold fD;cases hf:l.findIdx? p with
 |none=>
  rw[Kp] at hf;have:l.any p=false:=by
   rw[List.any_eq_false];intro x hx;simp[hf x hx]
  simp[this]
 |some i=>
  rw[Ki] at hf;obtain⟨h1,h2,_⟩:=hf;have:l.any p=true:=List.any_eq_true.2 ⟨l[i],Kw _,h2⟩;simp[this]
section
variable{P:Program}{k:Sh}{α:Type}(e:α→V)(aAH:∀x,(e x).fits k=true)
include aAH
theorem tD{f:Nat}(hL:aJ P f=some (LB.aAe k))(p:α→Bool)(own:Own)(l:List α)(g:Nat)(aAg:List V)(h:Hp)(hp:∀x∈l,aX P g ([e x]++aAg) h (.bool (p x)))(hl:l.length≤1000000000):
 aX P f [.sl k own (l.map e), .fn (.func g) [] aAg] h (.int .i64 (fD p l)):=by
 refine aP (fun L=>trivial) fun h' nx hh=>aD hL fun hd=>?_;simp only[jL,jM,jA,jB,jN,jO,jP,jQ,V.undef];refine wle trivial ?_;refine mP (fun i:Nat=>i≤l.length∧∀x∈l.take i,p x=false) (fun i=>⟨aB 19 0 [(0, .sl k own (l.map e)),(1, .fn (.func g) [] aAg),(7, .int .i64 l.length),(8, .int .i64 i)],h',nx⟩) (fun i=>l.length-i) 0 ⟨Kx _,Zm⟩ ?_ ?_
 ·refine kI (by simp only[WkL,aB,jH,jI,jJ,go_sem,reduceIte,jA,jB,jC,jD,reduceCtorEq,jE,jF]) ?_ ?_
  ·exact Ka _
  omega
 rintro i ⟨hi,hno⟩;simp only[aB,go_sem,reduceIte,jA,jB,jC,jD,reduceCtorEq,jE,jF];refine wl ?_;refine cH _ rfl (fun hc=>?_) (fun hc=>?_)
 ·have hlt:i<l.length:=by simpa using hc
  have hg:=bI e l i hlt;refine wle (ee2 hg aAH) ?_;refine pL rfl (hp l[i] (Kw _)) (by simp only[go_sem,reduceIte,jA,jB,jC,jD,reduceCtorEq,jE,jF]) hh ?_;refine Zn ?_;refine wl ?_;refine cH _ rfl (fun hc=>?_) (fun hc=>?_)
  ·refine wl ?_;refine bT ?_;repeat (first|with_reducible refine gV ?_|with_reducible refine eS ?_|with_reducible refine fG ?_|with_reducible refine gA ?_)
   refine aG h' (Ka _) ⟨?_,rfl⟩;refine Zn ?_;have:l.findIdx? p=some i:=by
    rw[Ki];refine⟨hlt,hc,fun j hj=>?_⟩;have:=hno l[j] (List.mem_take_iff_getElem.2 ⟨j,or,rfl⟩);simp[this]
   simp only[fD,this]
  refine wl ?_;refine gM (i+1) ⟨or,?_⟩ or ?_
  ·intro x hx;rw[Kk hlt,List.mem_append,List.mem_singleton] at hx;rcases hx with hx|rfl
   ·exact hno x hx
   exact hc
  rw[aY or or];refine kI (by simp only[WkL,aB,jH,jI,jJ,go_sem,reduceIte,jA,jB,jC,jD,reduceCtorEq,jE,jF]) ?_ ?_
  ·exact Ka _
  omega
 have hge:i=l.length:=by have:¬i<l.length:=by simpa using hc
                         omega
 refine fT ?_;repeat (first|with_reducible refine eC ?_|with_reducible refine dM ?_|with_reducible refine dG ?_|with_reducible refine bG ZM ?_|with_reducible refine cZ ?_|with_reducible refine aM ?_)
 refine wl ?_;refine bT (aG h' (Ka _) ⟨?_,rfl⟩);refine Zn ?_;rw[hge,List.take_length] at hno;have:l.findIdx? p=none:=by
  rw[Kp];exact fun x hx=>hno x hx
 simp only[fD,this]
theorem dR{f f0:Nat}(hL:aJ P f=some (LB.aAj k f0))(hL0:aJ P f0=some (LB.aAe k))(p:α→Bool)(own:Own)(l:List α)(g:Nat)(aAg:List V)(h:Hp)(hp:∀x∈l,aX P g ([e x]++aAg) h (.bool (p x)))(hl:l.length≤1000000000):
 aX P f [.sl k own (l.map e), .fn (.func g) [] aAg] h (.bool (l.any p)):=by
 refine aP (fun L=>trivial) fun h' nx hh=>aD hL fun hd=>?_;simp only[jL,jM,jA,jB,jN,jO,jP,jQ,V.undef];refine wl ?_;refine aQ (tD e aAH hL0 p own l g aAg h hp hl) (by simp only[go_sem,reduceIte,jA,jB,jC,jD,reduceCtorEq,jE,jF]) hh ?_;refine Zn ?_;refine wl ?_;refine bT (aG h' (Ka _) ⟨?_,rfl⟩);refine Zn ?_;rw[←zK]
theorem vJ{f:Nat}{z:V}(hL:aJ P f=some (LB.aCG k z))(hz:z.fits k=true)(own:Own)(l:List α)(hl:l.length≤1000000000):
 AX P f [.ept .leaf [.sl k own (l.map e)] 0 0] Kb (l.map fun x=>[e x]):=by
 intro yn J D hbJ hnJ hnD hJ h0 nx0 h0J hd0;simp only[jK];refine aD hL fun hd=>?_;simp only[jL,jM,jA,jB,jN,jO,jP,jQ,V.undef];refine wle trivial ?_;refine mP (fun p:Nat×Hp×Nat=>p.1≤l.length∧J p.1 p.2.1 p.2.2∧aK p.2.1 p.2.2) (fun p=>⟨aB 16 0 [(0, .yld yn),(5, .sl k own (l.map e)),(6, .int .i64 l.length),(7, .int .i64 p.1)],p.2.1,p.2.2⟩) (fun p=>l.length-p.1) (0,h0,nx0) ⟨Kx _,h0J,hd0⟩ ?_ ?_
 ·refine kI (by simp only[WkL,aB,jH,jI,jJ,go_sem,reduceIte,jA,jB,jC,jD,reduceCtorEq,jE,jF]) ?_ ?_
  ·exact Ka _
  exact Km _
 rintro⟨i,h,nx⟩ ⟨hi,hj,hdm⟩;simp only at hi hj hdm;simp only[aB,go_sem,reduceIte,jA,jB,jC,jD,reduceCtorEq,jE,jF];refine wl ?_;refine cH _ rfl (fun hc=>?_) (fun hc=>?_)
 ·have hlt:i<l.length:=by simpa using hc
  have hg:=bI e l i hlt;repeat (first|with_reducible refine bH ?_|with_reducible refine dN ?_|with_reducible refine eG ?_|with_reducible refine aM ?_|with_reducible refine cC ?_|with_reducible refine bM ?_|(refine fV rfl (by simp only[jK,jG,hg,aAH,hz,gQ (aAH _),cG hz (aAH _),go_sem,reduceIte,jA,jB,jC,jD,reduceCtorEq,jE,jF];try omega) ?_;simp only[jK,jG,hg,aAH,hz,gQ (aAH _),cG hz (aAH _),go_sem,reduceIte,jA,jB,jC,jD,reduceCtorEq,jE,jF])|(with_reducible refine eN ?_))
  refine wi rfl ?_;have hy:=(hJ i (by simpa using hlt) h (nx+1+1) (hnJ i h nx _ hj or) (hdm.up or)).dom;simp only[Ky] at hy;refine(hy.weaken ?_).mono ?_
  ·exact aH hdm (aH hdm (Ka _) or _) or _
  rintro v h' nx' hnx ⟨hq,aUJ,_⟩;unfold eI;rcases hq with⟨rfl,hj'⟩|⟨rfl,hD⟩
  ·refine Zn ?_;refine wl ?_;refine cH _ rfl (fun hc=>?_) (fun hc=>?_)
   ·cases hc
   refine wl ?_;refine gM (i+1,h',nx') ⟨hlt,hj',aUJ⟩ (by simp only;omega) ?_;rw[aY or or];refine kI (by simp only[WkL,aB,jH,jI,jJ,go_sem,reduceIte,jA,jB,jC,jD,reduceCtorEq,jE,jF]) ?_ ?_
   ·exact Ka _
   exact Km _
  refine Zn ?_;refine wl ?_;refine cH _ rfl (fun hc=>?_) (fun hc=>?_)
  ·refine bT ?_;repeat (first|with_reducible refine gV ?_|with_reducible refine eS ?_|with_reducible refine fG ?_|with_reducible refine gA ?_)
   exact⟨h',Ka _, .inr hD⟩
  cases hc
 have hge:i=l.length:=by have:¬i<l.length:=by simpa using hc
                         omega
 subst hge;refine fT ?_;repeat (first|with_reducible refine eC ?_|with_reducible refine dM ?_|with_reducible refine dG ?_|with_reducible refine bG ZM ?_|with_reducible refine cZ ?_|with_reducible refine aM ?_)
 exact⟨h,Ka _, .inl hj⟩
end
theorem bd{P:Program}{k:Sh}{f f0:Nat}(hL:aJ P f=some (LB.aFW k f0))(own:Own)(l:List V)(hn:∀L,bP L l)(h:Hp):
 aX P f [.sl k own l] h (.fn (.func f0) [] [.ept .leaf [(V.sl k own l).loose] 0 0]):=by
 refine aP (fun L=>?_) fun h' nx hh=>ga (aD hL fun hd=>?_)
 ·cases own<;>simp[V.loose,V.names,bP,hn L]
 simp only[jL,jM,jA,jB,jN,jO,jP,jQ,V.undef];refine wl ?_;refine bT (aG _ (Ka _) ⟨nx,Km _,?_,rfl⟩);simp only[go_sem,reduceIte,jA,jB,jC,jD,reduceCtorEq,jE,jF]
section
variable{P:Program}{k:Sh}{α:Type}(e:α→V)(aAH:∀x,(e x).fits k=true)
include aAH
theorem il{f bs:Nat}{z:V}(hL:aJ P f=some (LB.aAy k z bs))(hz:z.fits k=true)(hbs:bs≤140737)(g:Nat)(aAg:List V)(hb:Hp)(xs:List α)(hit:AX P g aAg hb (xs.map fun x=>[e x]))(hl:xs.length≤100000000)
 (h':Hp) (nx:Nat) (hh:hb.has h'):
 bD P f [.sl k .nil [], .fn (.func g) [] aAg] h' nx fun v h'' _=>(xs=[]∧v= .sl k .nil []∧h''=h')∨(xs≠ []∧∃id,nx≤id∧v= .rs id k 0 xs.length∧h''=h'.set id (.arr k (xs.map e))):=by
 refine aD hL fun hd=>?_;simp only[jL,jM,jA,jB,jN,jO,jP,jQ,V.undef];refine wl ?_;have aC7:∀n,nx≤n→h' n=none:=fun n hn=>aK.none hd hn;obtain⟨I,hI⟩:∃I:Nat→Hp→Nat→Prop,∀i h nx1,I i h nx1↔(h'.le h∧∃acc,h nx=some (.arr .leaf [acc])∧((i=0∧acc= .sl k .nil [])∨(0<i∧∃id,nx≤id∧id≠nx∧id≠nx+1∧acc= .rs id k 0 i∧h id=some (.arr k ((xs.take i).map e))))):=⟨_,fun _ _ _=>Iff.rfl⟩;refine cn hit rfl Zm (aK.set hd Zm Zm _) I (fun _ _ _=>False) ?_ ?_ ?_ (fun _ _ _ _ h=>h.elim) (fun _ _ _ _ h=>h.elim) ?_ ?_ ?_ (fun _ _ _ h=>h.elim)
 ·intro i h nx1 hi;exact yH hh (Du ((hI _ _ _).1 hi).1)
 ·exact fun i h nx1 nx2 hi _=>(hI _ _ _).2 ((hI _ _ _).1 hi)
 ·intro i h nx1 b hi;obtain⟨hle,acc,h1,h2⟩:=(hI _ _ _).1 hi;refine(hI _ _ _).2 ⟨kN hle (aC7 _ Zm) b,acc,?_,?_⟩
  ·simp only[Kd];rw[if_neg Zm];exact h1
  rcases h2 with h2|⟨hi,id,h3,h4,h5,h6,h7⟩
  ·exact .inl h2
  refine .inr ⟨hi,id,h3,h4,h5,h6,?_⟩;simp only[Kd];rw[if_neg h5];exact h7
 ·exact(hI _ _ _).2 ⟨kN (Ka _) (aC7 _ Zm) _, .sl k .nil [],by simp[Kd], .inl ⟨rfl,rfl⟩⟩
 ·intro i hi h nx1 X hii hnx hX hdm;obtain⟨hle,acc,h1,h2⟩:=(hI _ _ _).1 hii;simp only at hnx hX;have hi':i<xs.length:=by simpa using hi
  have aWQ:nx<nx1:=or;have e1:(nx=nx1)=False:=by simp;omega
  have e2:(nx+1=nx1)=False:=by simp;omega
  have e4:(nx1=nx+1)=False:=by simp;omega
  have e6:(nx1=nx)=False:=by simp;omega
  have e7:(nx=nx1+2)=False:=by simp;omega
  have e8:(nx+1=nx1+2)=False:=by simp;omega
  have e9:(nx=nx1+3)=False:=by simp;omega
  have e10:(nx+1=nx1+3)=False:=by simp;omega
  have hx:(xs.map fun x=>[e x])[i]=[e xs[i]]:=Zm;simp only[aAw,hx,List.set_cons_succ,List.set_cons_zero];refine wle (ee5 hz aAH e1 e2 e4) ?_;refine ub (by simp only[e1,e2,e4,go_sem,reduceIte,jA,jB,jC,jD,reduceCtorEq,jE,jF];exact hX) fun X'=>?_;refine Zn ?_;refine dN (bM ?_);have aNP:∀(h'':Hp) (nx2 id:Nat),h'.le h''→nx1≤id→h'' nx=some (.arr .leaf [.rs id k 0 (i+1)])→h'' (nx+1)=some X'→h'' id=some (.arr k ((xs.take (i+1)).map e))→∀sl,gF 1 (mq (nx+1) X' (I (i+1)) (fun _ _ _=>False)) .normal ⟨sl,h'',nx2⟩:=by
   intro h'' nx2 id q1 q2 q3 q4 q5 sl;exact cC (gu q4 ((hI _ _ _).2 ⟨q1,_,q3, .inr ⟨or,id,or,or,or,rfl,q5⟩⟩))
  generalize hQ:gF 1 (mq (nx+1) X' (I (i+1)) (fun _ _ _=>False)) .normal=Qn at aNP⊢;have aA4:∀n b,nx1≤n→∀{h2:Hp},h'.le h2→h'.le (h2.set n b):=fun n b hn h2 q=>kN q (aC7 n or) b;have aTE:∀n,nx≤n→∀{h2:Hp},h'.le h2→∀b,h'.le (h2.set n b):=fun n hn h2 q b=>kN q (aC7 n hn) b;rcases h2 with⟨rfl,rfl⟩|⟨aBU,id,h3,h4,h5,rfl,h7⟩
  ·refine aZ 3 rfl (by simp only[h1,aAH,hz,e1,e2,e4,e6,go_sem,reduceIte,jA,jB,jC,jD,reduceCtorEq,jE,jF]) ?_;simp only[h1,aAH,hz,e1,e2,e4,e6,go_sem,reduceIte,jA,jB,jC,jD,reduceCtorEq,jE,jF];refine qG rfl rfl Zm (by simp only[jL,jM];omega) ?_;refine fV rfl (by simp only[h1,aAH,hz,e1,e2,e4,e6,e7,e8,e9,e10,go_sem,reduceIte,jA,jB,jC,jD,reduceCtorEq,jE,jF];try omega) ?_;simp only[h1,aAH,hz,e1,e2,e4,e6,e7,e8,e9,e10,go_sem,reduceIte,jA,jB,jC,jD,reduceCtorEq,jE,jF];refine aNP _ _ (nx1+3) ?_ or ?_ ?_ ?_ _
   ·repeat (first|exact hle|refine aTE _ or ?_ _)
   ·simp only[h1,e1,e2,e4,e6,e7,e8,e9,e10,go_sem,reduceIte,jA,jB,jC,jD,reduceCtorEq,jE,jF]
   ·simp only[h1,e1,e2,e4,e6,e7,e8,e9,e10,go_sem,reduceIte,jA,jB,jC,jD,reduceCtorEq,jE,jF]
   have:xs.take (0+1)=[xs[0]]:=by
    cases xs with
    |nil=>simp at hi'
    |cons x l=>simp
   rw[this];simp only[KD,KF,go_sem,reduceIte,jA,jB,jC,jD,reduceCtorEq,jE,jF];have:(nx1+3=nx)=False:=by simp;omega
   simp only[this,go_sem,reduceIte,jA,jB,jC,jD,reduceCtorEq,jE,jF]
  have hid:id<nx1:=hdm _ _ h7;have f1:(id=nx1)=False:=by simp;omega
  have f2:(id=nx1+2)=False:=by simp;omega
  have f3:(id=nx)=False:=by simp;omega
  have f4:(id=nx+1)=False:=by simp;omega
  have f5:(id=nx1+3)=False:=by simp;omega
  have f6:(nx=id)=False:=by simp;omega
  have f7:(nx+1=id)=False:=by simp;omega
  have f8:(nx1+3=id)=False:=by simp;omega
  have hlen:((xs.take i).map e).length=i:=by simp;omega
  have hb1:(i+1)*bs≤140737488355328:=ku or hbs;refine fV rfl (by simp only[h1,h7,hlen,hb1,aAH,hz,e1,e2,e4,e6,e7,e8,e9,e10,f1,f2,f3,f4,f5,f6,f7,f8,go_sem,reduceIte,jA,jB,jC,jD,reduceCtorEq,jE,jF];try omega) ?_;simp only[h1,h7,hlen,hb1,aAH,hz,e1,e2,e4,e6,e7,e8,e9,e10,f1,f2,f3,f4,f5,f6,f7,f8,go_sem,reduceIte,jA,jB,jC,jD,reduceCtorEq,jE,jF];refine aNP _ _ (nx1+3) ?_ or ?_ ?_ ?_ _
  ·repeat (first|exact hle|refine aTE _ or ?_ _|refine tZ ?_ (aC7 _ h3))
  ·simp only[h1,e1,e2,e4,e6,e7,e8,e9,e10,go_sem,reduceIte,jA,jB,jC,jD,reduceCtorEq,jE,jF]
  ·simp only[h1,e1,e2,e4,e6,e7,e8,e9,e10,f6,f7,go_sem,reduceIte,jA,jB,jC,jD,reduceCtorEq,jE,jF]
  have:(nx1+3=nx)=False:=by simp;omega
  rw[Kk hi',List.map_append];simp only[this,KD,KF,go_sem,reduceIte,jA,jB,jC,jD,reduceCtorEq,jE,jF]
 intro h nx1 hii hnx hdm;obtain⟨hle,acc,h1,h2⟩:=(hI _ _ _).1 hii;simp only at hnx;have e1:(nx=nx+1)=False:=Zm;refine wle (ee2 h1 e1) ?_;rcases h2 with⟨h2,rfl⟩|⟨aBU,id,h3,h4,h5,rfl,h7⟩
 ·refine bT (aG h' ?_ (.inl ⟨?_,?_,rfl⟩))
  ·exact tZ hle (aC7 _ Zm)
  ·cases xs with
   |nil=>rfl
   |cons x l=>simp at h2
  simp only[go_sem,reduceIte,jA,jB,jC,jD,reduceCtorEq,jE,jF]
 have hne:xs≠ []:=by rintro rfl;simp at aBU
 refine bT (aG (h'.set id (.arr k (xs.map e))) ?_ (.inr ⟨hne,id,h3,?_,rfl⟩))
 ·refine zo (tZ hle (aC7 _ Zm)) ?_;simp only[Hp.aCF];rw[if_neg h5,h7];simp
 simp only[jK,go_sem,reduceIte,jA,jB,jC,jD,reduceCtorEq,jE,jF]
theorem tt{f f0 bs:Nat}{z:V}(hL:aJ P f=some (LB.Collect k f0))(hL0:aJ P f0=some (LB.aAy k z bs))(hz:z.fits k=true)(hbs:bs≤140737)(g:Nat)(aAg:List V)(hb:Hp)(xs:List α)(hit:AX P g aAg hb (xs.map fun x=>[e x]))(hl:xs.length≤100000000)
 (h':Hp) (nx:Nat) (hh:hb.has h'):
 bD P f [.fn (.func g) [] aAg] h' nx fun v h'' _=>(xs=[]∧v= .sl k .nil []∧h''=h')∨(xs≠ []∧∃id,nx≤id∧v= .rs id k 0 xs.length∧h''=h'.set id (.arr k (xs.map e))):=by
 refine aD hL fun hd=>?_;simp only[jL,jM,jA,jB,jN,jO,jP,jQ,V.undef];refine wl ?_;refine bX ((il e aAH hL0 hz hbs g aAg hb xs hit hl _ _ hh).mono ?_);intro v h'' nx' hnx hv;unfold eI;refine Zn ?_;refine wl ?_;exact bT (aG h'' (Ka _) hv)
end
end Go.Proofs.YtecepaehmojpgaaGreat
namespace Go.Proofs.YtecepaehmojpgaaGreat
open Go.RowKit Go.Sort Go.Shelf Go.Lib
theorem VR.aM6{K:Ker}{F:Nat→Prop}(hF:∀b,K.fro b→F b){v:V}{cv:Value}(r:VR K v cv):VR {K with fro:=F} v cv:=by
 have st:∀b o,K.still b o→Ker.still {K with fro:=F} b o:=fun b o h=>h.elim (fun h=> .inl (hF b h)) .inr;induction r with
 |bool b=>exact .bool b
 |int k n=>exact .int k n
 |str s=>exact .str s
 |aAI=>exact .aAI
 |ptr n k i o hn=>exact .ptr (K:={K with fro:=F}) n k i o hn
 |ept k es i o b off f hb aAH aAJ hst hv ih=>exact .ept (K:={K with fro:=F}) k es i o b off f hb aAH aAJ (fun j hj=>st _ _ (hst j hj)) ih
 |slnil k=>exact .slnil k
 |slz k a=>exact .slz k a
 |sl k own es b off cap f hb aAH aAJ hst hv aAW aA6 aAo aBH ih=>exact .sl (K:={K with fro:=F}) k own es b off cap f hb aAH aAJ (fun j hj=>st _ _ (hst j hj)) ih aAW aA6 aAo aBH
 |rs n k off len cap hn aAW hm=>exact .rs (K:={K with fro:=F}) n k off len cap hn aAW hm
 |aAT=>exact .aAT
 |map n hn=>exact .map (K:={K with fro:=F}) n hn
 |aAU=>exact .aAU
 |chan n hn=>exact .chan (K:={K with fro:=F}) n hn
 |fn f first cap aAx aDm h1 h2 _ _ v1 v2=>exact .fn f first cap aAx aDm h1 h2 v1 v2
 |aAv=>exact .aAv
 |yld n hn=>exact .yld (K:={K with fro:=F}) n hn
 |iface t v cv _ ih=>exact .iface t v cv ih
 |nilIface=>exact .nilIface
 |agg cs ccs hl _ ih=>exact .agg cs ccs hl ih
 |tup cs ccs hl _ ih=>exact .tup cs ccs hl ih
 |top cv=>exact .top cv
theorem Ap{w w':World}(h:oX (fun b=>b<w.heap.size) w w'):∃q os',w'=grow (w.drewN q) os':=by
 refine⟨w'.drawn-w.drawn,w'.heap.extract w.heap.size w'.heap.size,?_⟩;obtain⟨h1,h2,h3,h4,h5,h6⟩:=h;obtain⟨heap,tape,drawn,os,output⟩:=w;obtain⟨aNg,aTb,aTZ,os',aM8⟩:=w';simp only at h1 h2 h3 h4 h5 h6;subst h1 h2 h3;unfold grow World.drewN;simp only[World.mk.injEq,and_true,true_and];refine⟨?_,or⟩;apply Array.ext_getElem?;intro i;by_cases hi:i<heap.size
 ·rw[h6 i hi (.inl hi),Kh hi]
 rw[Array.getElem?_append_right or,Array.getElem?_extract];by_cases hi2:i<aNg.size
 ·rw[if_pos or];congr 1;omega
 rw[if_neg or,Kj or]
theorem iF{α:Type} [Inhabited α](enc:α→List Value)(k:Nat)(w:World)(blk off m:Nat)(dk:Array α)(os:Array Obj)(b:Nat)(hb:b<w.heap.size)(hne:b≠blk):(sortWorldK enc k w blk off m dk os).heap[b]?=w.heap[b]?:=by
 unfold sortWorldK putRowK putRow mapBlock grow;simp only[heap_ahead];rw[Kh (by simpa using hb),Kq,if_neg (fun e=>hne e.symm)]
theorem qP{α:Type} [Inhabited α](enc:α→List Value)(k:Nat)(w:World)(blk off m:Nat)(dk:Array α)(os:Array Obj){c:Array Value}{T:TypeId}{fr:Nat×Nat}(hh:w.heap[blk]?=some (.cells c T fr)):∃c':Array Value,(sortWorldK enc k w blk off m dk os).heap[blk]?=some (.cells c' T fr)∧c'.size=c.size:=by
 have hb:blk<w.heap.size:=by
  rcases KG blk w.heap.size with hlt|hge
  ·exact hlt
  rw[Kj hge] at hh;exact absurd hh Zm
 refine⟨putCells id off (flatK enc k dk) c,?_,by simp[putCells]⟩;unfold sortWorldK putRowK putRow mapBlock grow;simp only[heap_ahead];rw[Kh (by simpa using hb),Kq,if_pos rfl,hh];rfl
theorem tC{K:Ker}{α:Type} [Inhabited α](enc:α→List Value)(k:Nat)(blk off m:Nat)(dk:Array α)(os:Array Obj){c:Array Value}{T:TypeId}(hh:K.w.heap[blk]?=some (.cells c T (0,0)))(hf:¬K.fro blk)(hi:K.imm blk=0):
 K.le {K with w:=sortWorldK enc k K.w blk off m dk os} where
 live _ hn:=hn
 mu _ _:=rfl
 tp _ _:=rfl
 fro:=rfl
 imm _ _:=Km _
 cell b o hb hst:=by
  have hne:b≠blk:=by
   rintro rfl;rcases hst with h|h
   ·exact hf h
   omega
  exact kR (iF enc k K.w blk off m dk os b hb hne)
 shape b hb:=by
  by_cases e:b=blk
  ·subst e;obtain⟨c',h1,h2⟩:=qP enc k K.w b off m dk os hh;simp only[KB,h1,hh,h2]
  simp only[KB,iF enc k K.w blk off m dk os b hb e]
 below:=⟨rfl,rfl,rfl,Nat.le_add_right _ _,size_sortWorldK_c enc k K.w blk off m dk os,fun b hb hF=>iF enc k K.w blk off m dk os b hb (fun e=>hF.elim (fun hF=>hf (e▸hF)) fun hm=>by subst e;unfold hZ at hm;rw[hh] at hm;cases hm)⟩
theorem Bg{α β:Type}(f:α→β){cf:β→β→Int}(h:SWO (ltOf cf)):SWO (ltOf fun x y:α=>cf (f x) (f y)):=
 ⟨fun x=>h.irrefl (f x),fun x y z=>h.trans (f x) (f y) (f z),fun x y z=>h.ntrans (f x) (f y) (f z)⟩
def kV{δ:Type}(cf:δ→δ→Int)(l:List δ):Prop:=l.Pairwise fun x y=>ltOf cf y x=false
theorem pA{P:Program}{ρ:Ren}(L:SlLaysF0.n6 P ρ)(k:Nat)(aE:∀w,(isAgg (ρ.t 24)).run P w= .ok true w)(zE:∀w,(KE (ρ.t 24)).run P w= .ok k w)(hen:gR P (ρ.f 6)=true)
 {δ:Type} (e:δ→V) (aAH:∀d,(e d).fits (.agg k)=true) (cf:δ→δ→Int) (hO:SWO (ltOf cf)) (g:Nat) (aAg:List V) (aIz:∀x y,aX P g ([e x,e y]++aAg) Kb (.int .i64 (cf x y)))
 (n:Nat) (ds:List δ) (hne:ds≠ []) (h:Hp) (nx:Nat) (hn:h n=some (.arr (.agg k) (ds.map e))) (hlen:ds.length<4611686018427387904):
 bD P (ρ.f 6) [.rs n (.agg k) 0 ds.length, .fn (.func g) [] aAg] h nx fun v h' nx'=>v= .tup []∧nx'=nx∧∃ds':List δ,ds'.Perm ds∧kV cf ds'∧h'=h.set n (.arr (.agg k) (ds'.map e)):=by
 refine⟨hen,fun K aAK hlv hr hv=>?_⟩;obtain⟨hsz,hv⟩:=hv;have hsz:aAK.size=2:=by simpa using hsz.symm
 obtain⟨c1,c2,rfl⟩:∃c1 c2,aAK=#[c1,c2]:=⟨aAK[0],aAK[1],by
  apply KI
  ·simp[hsz]
  intro i h1 h2;have:i=0∨i=1:=by simp at h2;omega
  rcases this with rfl|rfl<;>rfl⟩
 have v1:=hv 0 Zm;have v2:=hv 1 Zm;have hb:=hr.blk n _ hn;have aTJ:=hr.base n _ hn;cases hb with
 |arr _ _ c T hh hcs aBC aBE hcv=>
  have v1:VR K (.rs n (.agg k) 0 ds.length) c1:=v1;have v2:VR K (.fn (.func g) [] aAg) c2:=v2;cases v1 with
  |rs _ _ _ _ cap hl aAW hm=>
   cases v2 with
   |fn _ _ _ aAx aDm q1 q2 w1 w2=>
    have hcf:aAx=#[]:=by
     have:aAx.size=0:=by simpa using q1.symm
     exact Array.eq_empty_of_size_eq_zero this
    subst hcf;have hcs:ds.length*k≤c.size:=by simpa [Sh.size] using hcs
    have hblk:K.mu n<K.w.heap.size:=by
     rcases KG (K.mu n) K.w.heap.size with hlt|hge
     ·exact hlt
     rw[Kj hge] at hh;exact absurd hh Zm
    --data beside their cells
    let A:={p:δ×List Value // p.2.length=k∧VR K (e p.1) (.agg p.2.toArray)}
    let cells:Nat→List Value:=fun i=>(List.range k).map fun j=>c.getD (i*k+j) Ko
    have aAJ:∀i (hi:i<ds.length),(cells i).length=k∧VR K (e ds[i]) (.agg (cells i).toArray):=fun i hi=>by
     refine⟨by simp[cells],VR.aDb (aAH _) (by simp[cells]) fun j hj=>?_⟩;have:=hcv i (by simpa using hi) j (by simpa [Sh.size] using hj);simp only[Kg,List.getElem?_map,Kf hi,Option.map_some,Kz,Sh.size] at this;simpa [cells,Ke,hj] using this
    have aBU:0<ds.length:=List.length_pos_iff.2 hne
    haveI:Inhabited A:=⟨⟨(ds[0],cells 0),aAJ 0 aBU⟩⟩
    let d:Array A:=Array.ofFn fun i:Fin ds.length=>(⟨(ds[i],cells i),aAJ i i.2⟩:A)
    have hds:d.size=ds.length:=by simp[d]
    have hd:∀i (hi:i<ds.length),d[i]! =(⟨(ds[i],cells i),aAJ i hi⟩:A):=fun i hi=>by
     rw[getElem!_pos d i (by rw[hds];exact hi)];simp[d]
    let enc:A→List Value:=fun p=>p.1.2
    have hk:∀x:A,(enc x).length=k:=fun x=>x.2.1;have h1:∀x:A,∀v∈enc x,v.oneCell'=true:=by
     intro x v hv;obtain⟨a1,a2,a3,a4⟩:=x.2.2.cells (aAH x.1.1);obtain⟨j,hj,rfl⟩:=List.mem_iff_getElem.1 hv;have hjk:j<k:=by rw[←hk x];exact hj
     have h3:=a3 j hjk;have h4:=a4 j hjk;have:=h3.aB6 h4;have e1:(Value.agg x.1.2.toArray).cells.getD j Ko=(enc x)[j]:=by
      show x.1.2.toArray.getD j Ko=x.1.2[j];rw[Ke];simp only[Ks];rw[Kf hj];rfl
     rw[e1] at this;exact this
    have hH:HoldsK enc k K.w (K.mu n) 0 d:=by
     intro j hj;rw[size_flatK,hds] at hj;rw[get_flatK _ _ _ _ (by rw[hds];exact hj)];have hk0:0<k:=by
      rcases Nat.eq_zero_or_pos k with h|h
      ·subst h;simp at hj
      exact h
     have hq:j / k<ds.length:=by rw[Nat.div_lt_iff_lt_mul hk0];exact hj
     have hm:j % k<k:=Nat.mod_lt _ hk0;constructor
     ·rw[hd _ hq];simp only[KC,hh,KH,enc,cells,id];have:j / k*k+j % k=j:=by rw[Nat.mul_comm];exact Nat.div_add_mod j k
      simp only[Kt,Ku,if_false];rw[getElem!_pos _ _ (by simpa using hm)];simp only[Ky,List.getElem_range,this];rw[Ke,Array.getElem?_eq_getElem or];rfl
     simp only[World.frozen?,hh];simp
    have hC:CmpLays P g aDm enc k (fun x y:A=>cf x.1.1 y.1.1) (K.mu n) 0 d.size K.w:=by
     intro m os dk _ x y;have hle:=tC enc k (K.mu n) 0 m dk os hh aTJ aBC;generalize hW:sortWorldK enc k K.w (K.mu n) 0 m dk os=W at hle⊢;have hp:=(aIz x.1.1 y.1.1) Kb nx (aU _);have up:∀{v cv},VR K v cv→VR {K with w:=W,fro:=fun b=>b<W.heap.size} v cv:=fun r=>VR.aM6 (K:={K with w:=W}) (fun b hb=>Kv (hr.size b hb) (by rw[←hW];exact size_sortWorldK_c enc k K.w _ _ m dk os)) (r.mono hle)
     have c:=hp.2 {K with w:=W,fro:=fun b=>b<W.heap.size} (#[.agg (enc x).toArray, .agg (enc y).toArray]++aDm) hlv ⟨(fun n b e=>by cases e),(fun n b e=>by cases e),(fun n b e=>by cases e),(fun n n' b b' e=>by cases e),(fun b hb=>hb)⟩
      ((show VRs _ [e x.1.1,e y.1.1] #[.agg (enc x).toArray, .agg (enc y).toArray] from⟨rfl,fun i hi=>by
        have:i=0∨i=1:=by simp at hi;omega
        rcases this with rfl|rfl
        ·exact up x.2.2
        exact up y.2.2⟩).append ⟨q2,fun i hi=>up (w2 i hi)⟩)
     refine c.mono ?_;rintro e' w' ⟨K',v,cv,h',nx',rfl,rfl,a1,a2,a3,a4,a5,rfl,rfl,rfl⟩;cases a2;exact⟨rfl,Ap a1.below⟩
    have key:=AnyQ.slices_SortFunc L k aE zE enc hk h1 (fun x y:A=>cf x.1.1 y.1.1) (Bg (fun x:A=>x.1.1) hO) g aDm (K.mu n) 0 cap d K.w (fun args w=>lU (aIz ds[0] ds[0] Kb 0 (aU _)).1 args w) hC hH hblk (by rw[hds];exact hlen);rw[hds] at key;have e0:(0:Nat)*(Sh.agg k).size=0:=Nat.zero_mul _;rw[e0];refine key.mono ?_;rintro e' w' ⟨rfl,d',m,os,hp,hs,rfl⟩;obtain⟨hp1,_,hp3⟩:=hp;have hp1:d'.size=ds.length:=by rw[hp1,hds]
    have hle:=tC enc k (K.mu n) 0 m d' os hh aTJ aBC;have hH':=holdsK_sortWorldK_c enc k K.w (K.mu n) 0 d d' m os hH hblk (by rw[hp1,hds]);obtain⟨c',hh',hcz⟩:=qP enc k K.w (K.mu n) 0 m d' os hh;refine⟨{K with w:=sortWorldK enc k K.w (K.mu n) 0 m d' os}, .tup [], .tuple #[],h.set n (.arr (.agg k) ((d'.toList.map fun x=>x.1.1).map e)),nx,rfl,rfl,hle, .tup [] #[] rfl (fun i hi=>absurd hi Zm),?_,fun m hm=>⟨hlv m hm, .inl hm⟩,Km _,rfl,rfl,_,?_,?_,rfl⟩
    ·have aBP:∀m b,h m=some b→m≠n→(sortWorldK enc k K.w (K.mu n) 0 (ds.length*0+0) d' os).heap.size=(sortWorldK enc k K.w (K.mu n) 0 (ds.length*0+0) d' os).heap.size:=fun _ _ _ _=>rfl;have aFw:∀m b,(h.set n (.arr (.agg k) ((d'.toList.map fun x=>x.1.1).map e))) m=some b→∃b',h m=some b':=fun m' b' e'=>by
      unfold Kc at e';split at e'
      ·rename_i em;subst em;exact⟨_,hn⟩
      exact⟨_,e'⟩
     refine⟨fun m' b' e'=>?_,fun m' b' e'=>?_,fun m' b' e'=>?_,fun m1 m2 b1 b2 e1 e2 em=>?_,fun b' hb'=>Kv (hr.size b' hb') hle.below.size⟩
     ·obtain⟨b2,e2⟩:=aFw m' b' e';exact hr.lt m' b2 e2
     ·obtain⟨b2,e2⟩:=aFw m' b' e';exact hr.base m' b2 e2
     ·by_cases em:m'=n
      ·subst em;have eb:b'= .arr (.agg k) ((d'.toList.map fun x=>x.1.1).map e):=by simpa [Kc] using e'.symm
       subst eb;refine .arr _ _ c' T hh' (by
        have e0:((d'.toList.map fun x=>x.1.1).map e).length=ds.length:=by
         simp only[List.length_map,Array.length_toList];omega
        rw[hcz,e0];exact hcs) aBC (fun v hv=>?_) fun i hi j hj=>?_
       ·obtain⟨x,_,rfl⟩:=List.mem_map.1 hv;exact aAH x
       have hi:i<d'.size:=by simpa using hi
       have hj:j<k:=by simpa [Sh.size] using hj
       obtain⟨g1,_⟩:=hH'.cell hi hj;simp only[KC,hh',Kt,Ku,if_false,KH] at g1;have x2:=(d'[i]!).2.2;obtain⟨_,_,a3,_⟩:=x2.cells (aAH (d'[i]!).1.1);have:=(a3 j hj).mono hle;have e1:(((d'.toList.map fun x=>x.1.1).map e).getD i V.undef)=e (d'[i]!).1.1:=by
        rw[getElem!_pos d' i hi];simp[Kg,hi]
       have e2:c'.getD (i*(Sh.agg k).size+j) Ko=(Value.agg (d'[i]!).1.2.toArray).cells.getD j Ko:=by
        show c'.getD (i*k+j) Ko=(d'[i]!).1.2.toArray.getD j Ko;rw[Ke,g1,Ke];have hjl:j<(d'[i]!).1.2.length:=by rw[(d'[i]!).2.1];exact hj
        simp only[Ks,Kf hjl,Kz];exact getElem!_pos (d'[i]!).1.2 j hjl
       rw[e1,e2];exact this
      have e2:h m'=some b':=by unfold Kc at e';rw[if_neg em] at e';exact e'
      have hne:K.mu m'≠K.mu n:=fun e3=>em (hr.inj m' n _ _ e2 hn e3);exact(hr.blk m' b' e2).mono hle (hr.lt m' b' e2) (iF enc k K.w (K.mu n) 0 m d' os _ (hr.blk m' b' e2).lt_size hne) rfl
     obtain⟨b3,e3⟩:=aFw m1 b1 e1;obtain⟨b4,e4⟩:=aFw m2 b2 e2;exact hr.inj m1 m2 b3 b4 e3 e4 em
    ·have p:=hp3.map fun x:A=>x.1.1;have ex:∀(x:Array A),x.size=ds.length→x.extract 0 ds.length=x:=fun x hx=>by rw[←hx];simp
     rw[ex d' hp1,ex d hds] at p;have:d.toList.map (fun x:A=>x.1.1)=ds:=by
      apply List.ext_getElem
      ·simp[hds]
      intro i h1 h2;simp[d]
     rw[this] at p;exact p
    unfold kV;rw[List.pairwise_map,List.pairwise_iff_getElem];intro i j hi hj hij;have:=hs i j (Kx _) hij (by simpa [hp1] using hj);rw[getElem!_pos d' i (by simpa using hi),getElem!_pos d' j (by simpa using hj)] at this;simpa [ltOf] using this
end Go.Proofs.YtecepaehmojpgaaGreat
namespace Go.Proofs.YtecepaehmojpgaaGreat
open Go.RowKit Go.Sort Go.Shelf Go.Lib
def lst(k:Sh)(es:List V):V:=if es.isEmpty=true then .sl k .nil [] else .sl k .free es
theorem cP{k:Sh}{es:List V}(h:∀L,bP L es)(L:Nat→Prop):(lst k es).names L:=by
 unfold lst;split<;>simp[V.names,h L,bP]
theorem mQ(k:Sh)(es:List V):∃own,lst k es= .sl k own es:=by
 cases es with
 |nil=>exact⟨.nil,rfl⟩
 |cons e es=>exact⟨.free,rfl⟩
theorem jr(k:Sh)(es:List V):(lst k es).aAD=true:=by cases es<;>rfl
def yR(nx:Nat)(h:Hp)(k:Sh)(es:List V)(v:V)(h':Hp):Prop:=
 (es=[]∧v= .sl k .nil []∧h'=h)∨(es≠ []∧∃id,nx≤id∧v= .sl k (.tok id) es∧h'=h.set id .tip)
def Ci(nx:Nat)(h:Hp)(k:Sh)(es:List V)(v:V)(h':Hp):Prop:=
 (es=[]∧v= .sl k .nil []∧h'=h)∨(es≠ []∧∃id,nx≤id∧v= .rs id k 0 es.length∧h'=h.set id (.arr k es))
theorem yR.loose{nx:Nat}{h:Hp}{k:Sh}{es:List V}{v:V}{h':Hp}(f:yR nx h k es v h'):v.loose=lst k es:=by
 rcases f with⟨rfl,rfl,_⟩|⟨hne,id,_,rfl,_⟩
 ·rfl
 cases es with
 |nil=>exact absurd rfl hne
 |cons=>rfl
theorem yR.le{nx:Nat}{h:Hp}{k:Sh}{es:List V}{v:V}{h':Hp}(f:yR nx h k es v h')(hd:aK h nx):h.le h':=by
 rcases f with⟨_,_,rfl⟩|⟨_,id,hid,_,rfl⟩
 ·exact Ka _
 exact kN (Ka _) (hd.none hid) _
theorem bD.conv{P:Program}{f:FuncId}{args:List V}{h:Hp}{nx:Nat}{R R':V→Hp→Nat→Prop}(c:bD P f args h nx R)(hc:∀v h' nx',nx≤nx'→aK h' nx'→R v h' nx'→∃h2,h2.le h'∧R' v.loose h2 nx'):bD P f args h nx R':=by
 refine⟨c.1,fun K aAK hl hr hv=>(c.2 K aAK hl hr hv).mono ?_⟩;rintro e w' ⟨K',v,cv,h',nx',rfl,he,hle,hvr,aAS,hlv,hnx,hR⟩;obtain⟨h2,q1,q2⟩:=hc v h' nx' hnx (fun m b hm=>(hlv m (aAS.lt m b hm)).1) hR;exact⟨K',v.loose,cv,h2,nx',rfl,he,hle,hvr.loose,aAS.weaken q1,hlv,hnx,q2⟩
theorem dI{P:Program}{f:FuncId}{args:List V}{h:Hp}{v:V}(hv:∀L,v.names L)(hc:∀h' nx,h.has h'→bD P f args h' nx fun v' h'' _=>v'.loose=v∧h'.le h''):aX P f args h v:=
 aP hv fun h' nx hh=>(hc h' nx hh).conv fun v' h'' nx' _ _ hq=>⟨h',hq.2,hq.1,rfl⟩
theorem bD.aIh{P:Program}{f:FuncId}{args:List V}{h:Hp}{nx:Nat}{k:Sh}{G:List V→Prop}
 (c:bD P f args h nx fun v h' _=>∃es,G es∧Ci nx h k es v h'):bD P f args h nx fun v h' _=>∃es,G es∧yR nx h k es v h':=by
 refine⟨c.1,fun K aAK hl hr hv=>(c.2 K aAK hl hr hv).mono ?_⟩;rintro e w' ⟨K',v,cv,h',nx',rfl,he,hle,hvr,aAS,hlv,hnx,es,hG,(⟨rfl,rfl,rfl⟩|⟨hne,n,hn,rfl,rfl⟩)⟩
 ·exact⟨K',_,cv,_,nx',rfl,he,hle,hvr,aAS,hlv,hnx,[],hG, .inl ⟨rfl,rfl,rfl⟩⟩
 have hfr:¬K'.live nx':=fun hh=>Nat.lt_irrefl _ (hlv nx' hh).1;have aAR:(h.set n (.arr k es)) n=some (.arr k es):=by simp[Kc]
 obtain⟨K'',q1,q2,q3,q4,q5⟩:=BQ aAS aAR hfr hvr;have aBb:h n=none:=by
  cases hd:h n with
  |none=>rfl
  |some b=>exact absurd (hl n (hr.lt n b hd)) or
 have hh:((h.set n (.arr k es)).del n).set nx' .tip=h.set nx' .tip:=by
  funext x;unfold Kc Hp.del;by_cases e1:x=nx'
  ·simp[e1]
  by_cases e2:x=n
  ·subst e2;simp[e1,aBb]
  simp[e1,e2]
 rw[hh] at q5;refine⟨K'',_,cv,_,nx'+1,q1,he,hle.trans q2,q4,q5,fun m hm=>?_,or,es,hG, .inr ⟨hne,nx',hnx,rfl,rfl⟩⟩;rcases q3 m hm with hm|rfl
 ·exact⟨by have:=(hlv m hm).1;omega,(hlv m hm).2⟩
 exact⟨or, .inr hnx⟩
def dV{α:Type}(cf:α→α→Int)(l:List α):List α:=l.mergeSort fun x y=> !(ltOf cf y x)
theorem dU{α:Type}(cf:α→α→Int)(l:List α):(dV cf l).Perm l:=List.mergeSort_perm _ _
theorem sW{α:Type}{cf:α→α→Int}(hT:∀x y,ltOf cf x y=false→ltOf cf y x=false→x=y):∀(a b:List α),a.Perm b→kV cf a→kV cf b→a=b:=by
 intro a b hp ha hb;exact List.Perm.eq_of_pairwise (le:=fun x y=>ltOf cf y x=false) (fun x y _ _ h1 h2=>hT x y h2 h1) ha hb hp
theorem iS{α:Type}{cf:α→α→Int}(hO:SWO (ltOf cf))(l:List α):kV cf (dV cf l):=by
 have:=List.pairwise_mergeSort (le:=fun x y=> !(ltOf cf y x)) (fun x y z h1 h2=>by
  simp only[Bool.not_eq_true'] at h1 h2⊢;exact hO.ntrans z y x h2 h1) (fun x y=>by
  cases h1:ltOf cf y x with
  |false=>rfl
  |true=>
   cases h2:ltOf cf x y with
   |false=>rfl
   |true=>have:=hO.trans x y x h2 h1;rw[hO.irrefl] at this;cases this) l
 unfold kV dV;exact this.imp fun{x y} h=>by simpa using h
theorem gm{P:Program}{ρ:Ren}(L:SlLaysF0.n6 P ρ)(hen:gR P (ρ.f 6)=true)(k:Sh)(fv:V)(h:Hp)(nx:Nat):bD P (ρ.f 6) [.sl k .nil [],fv] h nx fun v h' nx'=>v= .tup []∧h'=h:=by
 refine⟨hen,fun K aAK hlv hr hv=>?_⟩;obtain⟨hsz,hv⟩:=hv;have hsz:aAK.size=2:=by simpa using hsz.symm
 obtain⟨c1,c2,rfl⟩:∃c1 c2,aAK=#[c1,c2]:=⟨aAK[0],aAK[1],by
  apply KI
  ·simp[hsz]
  intro i h1 h2;have:i=0∨i=1:=by simp at h2;omega
  rcases this with rfl|rfl<;>rfl⟩
 have v1:VR K (.sl k .nil []) c1:=hv 0 Zm;cases v1 with
 |sl _ _ _ b off cap f hb aAH aAJ hst hv aAW aA6 aAo aBH=>exact absurd rfl aA6
 |slnil=>
  refine(AnyF.slices_SortFunc_none L none 0 c2 K.w).mono ?_;rintro e w' ⟨rfl,rfl⟩;exact⟨K, .tup [], .tuple #[],h,nx,rfl,rfl, .refl K, .tup [] #[] rfl (fun i hi=>absurd hi Zm),hr,fun n hn=>⟨hlv n hn, .inl hn⟩,Km _,rfl,rfl⟩
section
variable{P:Program}{α:Type}(e:α→V)
theorem oD{ρ:Ren}(L:SlLaysF0.n6 P ρ){n:Nat}(aAH:∀x,(e x).fits (.agg n)=true)(aE:∀w,(isAgg (ρ.t 24)).run P w= .ok true w)(zE:∀w,(KE (ρ.t 24)).run P w= .ok n w)(hen:gR P (ρ.f 6)=true)
 {f f0 f1 f2 bs:Nat} {z:V} (hL:aJ P f=some (LB.aBD (.agg n) f0 f1)) (hL0:aJ P f0=some (LB.Collect (.agg n) f2)) (hL2:aJ P f2=some (LB.aAy (.agg n) z bs)) (hz:z.fits (.agg n)=true) (hbs:bs≤140737) (hf1:f1=ρ.f 6)
 (g:Nat) (aAg:List V) (hb:Hp) (xs:List α) (hit:AX P g aAg hb (xs.map fun x=>[e x])) (hl:xs.length≤100000000)
 (cf:α→α→Int) (hO:SWO (ltOf cf)) (gc:Nat) (aIj:List V) (aIz:∀x y,aX P gc ([e x,e y]++aIj) Kb (.int .i64 (cf x y))) (h':Hp) (nx:Nat) (hh:hb.has h'):
 bD P f [.fn (.func g) [] aAg, .fn (.func gc) [] aIj] h' nx fun v h'' _=>∃es,(∃ys:List α,ys.Perm xs∧kV cf ys∧es=ys.map e)∧Ci nx h' (.agg n) es v h'':=by
 refine aD hL fun hd=>?_;simp only[jL,jM,jA,jB,jN,jO,jP,jQ,V.undef];refine wl ?_;refine bX ((tt e aAH hL0 hL2 hz hbs g aAg hb xs hit hl _ _ hh).mono ?_);intro v h'' nx' hnx hv;unfold eI;rcases hv with⟨rfl,rfl,rfl⟩|⟨hne,id,hid,rfl,rfl⟩
 ·refine Zn ?_;refine wl ?_;refine bX ?_;subst hf1;refine(gm L hen (.agg n) _ _ _).mono ?_;rintro v h'' aTf _ ⟨rfl,rfl⟩;unfold eI;refine Zn ?_;refine wl ?_;exact bT (aG h'' (Ka _) ⟨[],⟨[],List.Perm.refl _,List.Pairwise.nil,rfl⟩, .inl ⟨rfl,rfl,rfl⟩⟩)
 refine Zn ?_;refine wl ?_;refine bX ?_;subst hf1;refine(pA L n aE zE hen e aAH cf hO gc aIj aIz id xs hne _ _ (by simp[Kc]) or).mono ?_;rintro v h'' aTf _ ⟨rfl,rfl,ys,hp,hs,rfl⟩;unfold eI;refine Zn ?_;refine wl ?_;have hlen:ys.length=xs.length:=hp.length_eq;refine bT (aG _ (Ka _) ⟨ys.map e,⟨ys,hp,hs,rfl⟩, .inr ⟨?_,id,hid,?_,?_⟩⟩)
 ·intro hys;have:ys=[]:=by simpa using hys
  subst this;exact hne (List.length_eq_zero_iff.1 (by simpa using hlen.symm))
 ·simp only[jK,hlen,go_sem,reduceIte,jA,jB,jC,jD,reduceCtorEq,jE,jF]
 funext m;simp only[Kd];split<;>rfl
theorem zV{ρ:Ren}(L:SlLaysF0.n6 P ρ){n:Nat}(aAH:∀x,(e x).fits (.agg n)=true)(hnm:∀x L,(e x).names L)(aE:∀w,(isAgg (ρ.t 24)).run P w= .ok true w)(zE:∀w,(KE (ρ.t 24)).run P w= .ok n w)(hen:gR P (ρ.f 6)=true)
 {f f0 f1 f2 bs:Nat} {z:V} (hL:aJ P f=some (LB.aBD (.agg n) f0 f1)) (hL0:aJ P f0=some (LB.Collect (.agg n) f2)) (hL2:aJ P f2=some (LB.aAy (.agg n) z bs)) (hz:z.fits (.agg n)=true) (hbs:bs≤140737) (hf1:f1=ρ.f 6)
 (g:Nat) (aAg:List V) (hb:Hp) (xs:List α) (hit:AX P g aAg hb (xs.map fun x=>[e x])) (hl:xs.length≤100000000)
 (cf:α→α→Int) (hO:SWO (ltOf cf)) (hT:∀x y,ltOf cf x y=false→ltOf cf y x=false→x=y) (gc:Nat) (aIj:List V) (aIz:∀x y,aX P gc ([e x,e y]++aIj) Kb (.int .i64 (cf x y))):
 aX P f [.fn (.func g) [] aAg, .fn (.func gc) [] aIj] hb (lst (.agg n) ((dV cf xs).map e)):=by
 refine dI (fun L=>cP (fun L=>bE (fun x=>hnm x L) _) L) fun h' nx hh=>?_;have c:=(oD e L aAH aE zE hen hL hL0 hL2 hz hbs hf1 g aAg hb xs hit hl cf hO gc aIj aIz h' nx hh).aIh;refine⟨c.1,fun K aAK hlv hr hv=>((c.mono (R':=fun v' h'' _=>v'.loose=lst (.agg n) ((dV cf xs).map e)∧h'.le h'') ?_).2 K aAK hlv hr hv)⟩;rintro v h'' nx' hnx ⟨es,⟨ys,hp,hs,rfl⟩,hf⟩;have hy:ys=dV cf xs:=sW hT _ _ (hp.trans (dU cf xs).symm) hs (iS hO xs);subst hy;exact⟨hf.loose,hf.le (fun m b hm=>hlv m (hr.lt m b hm))⟩
end
end Go.Proofs.YtecepaehmojpgaaGreat
namespace Go.Proofs.YtecepaehmojpgaaGreat
open Go.RowKit Go.Sort Go.Shelf
section
variable{P:Program}{k:Sh}{α:Type}(e:α→V)(aAH:∀x,(e x).fits k=true)
include aAH
end
section
variable{P:Program}{α:Type}(e:α→V)
end
end Go.Proofs.YtecepaehmojpgaaGreat
