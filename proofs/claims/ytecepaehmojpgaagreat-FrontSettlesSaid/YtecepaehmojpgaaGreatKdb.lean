/-
Texts of this proof,one behind the other. No conditions.
-/
import Derived.Test.YtecepaehmojpgaaGreatKd
import Derived.Test.YtecepaehmojpgaaGreatKcb
import Derived.Shelf.SlSortCmp.WholeK
import Derived.Shelf.SlSortCmp.NoneTotal
set_option linter.unusedSimpArgs false
set_option linter.unusedVariables false
set_option linter.unusedSectionVars false
open Nat renaming reduceAdd→jA,reduceSub→jB,reduceLT→jC,reduceLeDiff→jD,reduceEqDiff→jE
open Int renaming reduceToNat→jF,toNat_natCast→jG,natCast_add→jH,natCast_one→jI,natCast_zero→jJ
open List renaming length_map→jK,length_cons→jL,length_nil→jM,replicate_succ→jN,replicate_zero→jO,cons_append→jP,nil_append→jQ
namespace Go.Proofs.YtecepaehmojpgaaGreat
open Go.RowKit
namespace LB
abbrev IndexFunc_r0:List aA:=[
 ⟨some 4,none, .val (.move (.const (.int .i64 0)))⟩]
abbrev IndexFunc_r1:List aA:=[
 ⟨some 6,none, .val (.move (.slot 0))⟩,
 ⟨some 7,none, .val (.len (.slot 6))⟩,
 ⟨some 8,none, .val (.move (.const (.int .i64 0)))⟩]
abbrev IndexFunc_r2:List aA:=[
 ⟨some 9,none, .val (.bin .lss (.slot 8) (.slot 7))⟩]
abbrev IndexFunc_r3:List aA:=[
 ⟨some 10,none, .val (.move (.slot 8))⟩,
 ⟨some 5,none, .val (.move (.slot 10))⟩]
abbrev IndexFunc_r4(k:Sh):List aA:=[
 ⟨some 11,none, .val (.move (.slot 1))⟩,
 ⟨some 12,none, .val (.move (.slot 0))⟩,
 ⟨some 13,none, .val (.move (.slot 5))⟩,
 ⟨some 14,none, .val (.idxA k (.slot 12) (.slot 13))⟩,
 ⟨some 15,none, .val (.load k (.slot 14))⟩,
 ⟨some 16,none, .callv (.slot 11) [(.slot 15)]⟩]
abbrev IndexFunc_r5:List aA:=[
 ⟨some 17,none, .val (.move (.slot 5))⟩,
 ⟨some 4,none, .val (.move (.slot 17))⟩]
abbrev IndexFunc_r6:List aA:=[
 ⟨some 18,none, .val (.bin .add (.slot 8) (.const (.int .i64 1)))⟩,
 ⟨some 8,none, .val (.move (.slot 18))⟩]
abbrev IndexFunc_l0(k:Sh):bE:=(.seq (.ops IndexFunc_r2) (.seq (.cond (.slot 9) .skip (.exit 0)) (.seq (.block 1 (.seq (.ops IndexFunc_r3) (.seq (.ops (IndexFunc_r4 k)) (.cond (.slot 16) (.seq (.ops IndexFunc_r5) .ret) .skip)))) (.ops IndexFunc_r6))))
abbrev IndexFunc_r7:List aA:=[
 ⟨some 4,none, .val (.move (.const (.int .i64 (-1))))⟩]
def IndexFunc(k:Sh):LFn:=⟨(.seq (.ops IndexFunc_r0) (.seq (.seq (.ops IndexFunc_r1) (.block 0 (.loop (IndexFunc_l0 k)))) (.seq (.ops IndexFunc_r7) .ret))),19,[.slot 4]⟩
abbrev ContainsFunc_r0:List aA:=[
 ⟨some 4,none, .val (.move (.const (.bool false)))⟩]
abbrev ContainsFunc_r1(f0:Nat):List aA:=[
 ⟨some 5,none, .val (.move (.slot 0))⟩,
 ⟨some 6,none, .val (.move (.slot 1))⟩,
 ⟨some 7,none, .call f0 [(.slot 5),(.slot 6)]⟩,
 ⟨some 8,none, .val (.bin .geq (.slot 7) (.const (.int .i64 0)))⟩,
 ⟨some 4,none, .val (.move (.slot 8))⟩]
def ContainsFunc(k:Sh)(f0:Nat):LFn:=⟨(.seq (.ops ContainsFunc_r0) (.seq (.ops (ContainsFunc_r1 f0)) .ret)),9,[.slot 4]⟩
abbrev ValuesIt_r0:List aA:=[
 ⟨some 5,none, .val (.load .leaf (.slot 1))⟩,
 ⟨some 6,none, .val (.len (.slot 5))⟩,
 ⟨some 7,none, .val (.move (.const (.int .i64 0)))⟩]
abbrev ValuesIt_r1:List aA:=[
 ⟨some 8,none, .val (.bin .lss (.slot 7) (.slot 6))⟩]
abbrev ValuesIt_r2(k:Sh)(z:V):List aA:=[
 ⟨some 9,none, .val (.idxA k (.slot 5) (.slot 7))⟩,
 ⟨some 10,none, .val (.load k (.slot 9))⟩,
 ⟨some 4,none, .box k (.const z)⟩,
 ⟨none,none, .store k (.slot 4) (.slot 10)⟩]
abbrev ValuesIt_r3(k:Sh):List aA:=[
 ⟨some 11,none, .val (.move (.slot 0))⟩,
 ⟨some 12,none, .val (.load k (.slot 4))⟩,
 ⟨some 13,none, .callv (.slot 11) [(.slot 12)]⟩,
 ⟨some 14,none, .val (.not (.slot 13))⟩]
abbrev ValuesIt_r4:List aA:=[
 ⟨some 15,none, .val (.bin .add (.slot 7) (.const (.int .i64 1)))⟩,
 ⟨some 7,none, .val (.move (.slot 15))⟩]
abbrev ValuesIt_l0(k:Sh)(z:V):bE:=(.seq (.ops ValuesIt_r1) (.seq (.cond (.slot 8) .skip (.exit 0)) (.seq (.block 1 (.seq (.ops (ValuesIt_r2 k z)) (.seq (.ops (ValuesIt_r3 k)) (.cond (.slot 14) .ret .skip)))) (.ops ValuesIt_r4))))
def ValuesIt(k:Sh)(z:V):LFn:=⟨(.seq (.ops ValuesIt_r0) (.block 0 (.loop (ValuesIt_l0 k z)))),16,[]⟩
abbrev Values_r0:List aA:=[
 ⟨some 1,none, .box .leaf (.slot 0)⟩,
 ⟨some 2,none, .val (.move (.const .nilFn))⟩]
abbrev Values_r1(f0:Nat):List aA:=[
 ⟨some 3,none, .val (.mkfn (.func f0) [] [(.slot 1)])⟩,
 ⟨some 2,none, .val (.move (.slot 3))⟩]
def Values(k:Sh)(f0:Nat):LFn:=⟨(.seq (.ops Values_r0) (.seq (.ops (Values_r1 f0)) .ret)),4,[.slot 2]⟩
abbrev AppendSeq_r0(k:Sh):List aA:=[
 ⟨some 2,none, .box .leaf (.slot 0)⟩,
 ⟨some 4,none, .val (.move (.const (.sl k .nil [])))⟩]
abbrev AppendSeq_r1:List aA:=[
 ⟨some 6,none, .val (.move (.slot 1))⟩]
abbrev AppendSeq_r2(k:Sh)(z:V):List aA:=[
 ⟨some 5,none, .box k (.const z)⟩,
 ⟨none,none, .store k (.slot 5) (.slot 7)⟩]
abbrev AppendSeq_r3(k:Sh)(bs:Nat):List aA:=[
 ⟨some 8,none, .val (.load .leaf (.slot 2))⟩,
 ⟨some 9,none, .val (.load k (.slot 5))⟩,
 ⟨some 10,none, .bslice k [(.slot 9)]⟩,
 ⟨some 11,none, .append k bs (.slot 8) (.slot 10)⟩,
 ⟨none,none, .store .leaf (.slot 2) (.slot 11)⟩]
abbrev AppendSeq_b0(k:Sh)(bs:Nat):bE:=(.block 1 (.ops (AppendSeq_r3 k bs)))
abbrev AppendSeq_r4:List aA:=[
 ⟨some 12,none, .val (.load .leaf (.slot 2))⟩,
 ⟨some 4,none, .val (.move (.slot 12))⟩]
def AppendSeq(k:Sh)(z:V)(bs:Nat):LFn:=⟨(.seq (.ops (AppendSeq_r0 k)) (.seq (.seq (.ops AppendSeq_r1) (.block 0 (.range (.slot 6) [7] (.ops (AppendSeq_r2 k z)) (AppendSeq_b0 k bs)))) (.seq (.ops AppendSeq_r4) .ret))),13,[.slot 4]⟩
abbrev Collect_r0(k:Sh):List aA:=[
 ⟨some 2,none, .val (.move (.const (.sl k .nil [])))⟩]
abbrev Collect_r1(k:Sh)(f0:Nat):List aA:=[
 ⟨some 3,none, .val (.move (.slot 0))⟩,
 ⟨some 4,none, .call f0 [(.const (.sl k .nil [])),(.slot 3)]⟩,
 ⟨some 2,none, .val (.move (.slot 4))⟩]
def Collect(k:Sh)(f0:Nat):LFn:=⟨(.seq (.ops (Collect_r0 k)) (.seq (.ops (Collect_r1 k f0)) .ret)),5,[.slot 2]⟩
abbrev SortedFunc_r0(k:Sh):List aA:=[
 ⟨some 4,none, .val (.move (.const (.sl k .nil [])))⟩]
abbrev SortedFunc_r1(f0:Nat):List aA:=[
 ⟨some 6,none, .val (.move (.slot 0))⟩,
 ⟨some 7,none, .call f0 [(.slot 6)]⟩,
 ⟨some 5,none, .val (.move (.slot 7))⟩]
abbrev SortedFunc_r2(f1:Nat):List aA:=[
 ⟨some 8,none, .val (.move (.slot 5))⟩,
 ⟨some 9,none, .val (.move (.slot 1))⟩,
 ⟨some 10,none, .call f1 [(.slot 8),(.slot 9)]⟩]
abbrev SortedFunc_r3:List aA:=[
 ⟨some 11,none, .val (.move (.slot 5))⟩,
 ⟨some 4,none, .val (.move (.slot 11))⟩]
def SortedFunc(k:Sh)(f0:Nat)(f1:Nat):LFn:=⟨(.seq (.ops (SortedFunc_r0 k)) (.seq (.ops (SortedFunc_r1 f0)) (.seq (.ops (SortedFunc_r2 f1)) (.seq (.ops SortedFunc_r3) .ret)))),12,[.slot 4]⟩
abbrev Equal_r0:List aA:=[
 ⟨some 4,none, .val (.move (.const (.bool false)))⟩]
abbrev Equal_r1:List aA:=[
 ⟨some 6,none, .val (.move (.slot 0))⟩,
 ⟨some 7,none, .val (.len (.slot 6))⟩,
 ⟨some 8,none, .val (.move (.slot 1))⟩,
 ⟨some 9,none, .val (.len (.slot 8))⟩,
 ⟨some 10,none, .val (.bin .neq (.slot 7) (.slot 9))⟩]
abbrev Equal_r2:List aA:=[
 ⟨some 4,none, .val (.move (.const (.bool false)))⟩]
abbrev Equal_r3:List aA:=[
 ⟨some 11,none, .val (.move (.slot 0))⟩,
 ⟨some 12,none, .val (.len (.slot 11))⟩,
 ⟨some 13,none, .val (.move (.const (.int .i64 0)))⟩]
abbrev Equal_r4:List aA:=[
 ⟨some 14,none, .val (.bin .lss (.slot 13) (.slot 12))⟩]
abbrev Equal_r5:List aA:=[
 ⟨some 15,none, .val (.move (.slot 13))⟩,
 ⟨some 5,none, .val (.move (.slot 15))⟩]
abbrev Equal_r6(k:Sh)(e:rT):List (aA×List Nat):=[
 (⟨some 16,none, .val (.move (.slot 0))⟩,[]),
 (⟨some 17,none, .val (.move (.slot 5))⟩,[]),
 (⟨some 18,none, .val (.idxA k (.slot 16) (.slot 17))⟩,[0,1]),
 (⟨some 19,none, .val (.load k (.slot 18))⟩,[0,1,2]),
 (⟨some 20,none, .val (.move (.slot 1))⟩,[]),
 (⟨some 21,none, .val (.move (.slot 5))⟩,[]),
 (⟨some 22,none, .val (.idxA k (.slot 20) (.slot 21))⟩,[4,5]),
 (⟨some 23,none, .val (.load k (.slot 22))⟩,[4,5,6]),
 (⟨some 24,none, .val (.eq true e (.slot 19) (.slot 23))⟩,[0,1,2,3,4,5,6,7])]
abbrev Equal_r6t:List aA:=[]
abbrev Equal_r7:List aA:=[
 ⟨some 4,none, .val (.move (.const (.bool false)))⟩]
abbrev Equal_r8:List aA:=[
 ⟨some 25,none, .val (.bin .add (.slot 13) (.const (.int .i64 1)))⟩,
 ⟨some 13,none, .val (.move (.slot 25))⟩]
abbrev Equal_l0(k:Sh)(e:rT):bE:=(.seq (.ops Equal_r4) (.seq (.cond (.slot 14) .skip (.exit 0)) (.seq (.block 1 (.seq (.ops Equal_r5) (.seq (.draw 9 (Equal_r6 k e) Equal_r6t) (.cond (.slot 24) (.seq (.ops Equal_r7) .ret) .skip)))) (.ops Equal_r8))))
abbrev Equal_r9:List aA:=[
 ⟨some 4,none, .val (.move (.const (.bool true)))⟩]
def Equal(k:Sh)(e:rT):LFn:=⟨(.seq (.ops Equal_r0) (.seq (.seq (.ops Equal_r1) (.cond (.slot 10) (.seq (.ops Equal_r2) .ret) .skip)) (.seq (.seq (.ops Equal_r3) (.block 0 (.loop (Equal_l0 k e)))) (.seq (.ops Equal_r9) .ret)))),26,[.slot 4]⟩
abbrev Clone_r0(k:Sh):List aA:=[
 ⟨some 2,none, .val (.move (.const (.sl k .nil [])))⟩]
abbrev Clone_r1(k:Sh):List aA:=[
 ⟨some 3,none, .val (.move (.slot 0))⟩,
 ⟨some 4,none, .val (.eq false .slice (.slot 3) (.const (.sl k .nil [])))⟩]
abbrev Clone_r2(k:Sh):List aA:=[
 ⟨some 2,none, .val (.move (.const (.sl k .nil [])))⟩]
abbrev Clone_r3(k:Sh)(bs:Nat):List aA:=[
 ⟨some 5,none, .bslice k []⟩,
 ⟨some 6,none, .val (.move (.slot 0))⟩,
 ⟨some 7,none, .append k bs (.slot 5) (.slot 6)⟩,
 ⟨some 2,none, .val (.move (.slot 7))⟩]
def Clone(k:Sh)(bs:Nat):LFn:=⟨(.seq (.ops (Clone_r0 k)) (.seq (.seq (.ops (Clone_r1 k)) (.cond (.slot 4) (.seq (.ops (Clone_r2 k)) .ret) .skip)) (.seq (.ops (Clone_r3 k bs)) .ret))),8,[.slot 2]⟩
abbrev CmpInt_r0:List aA:=[
 ⟨some 4,none, .val (.move (.const (.int .i64 0)))⟩]
abbrev CmpInt_r1(f0:Nat):List aA:=[
 ⟨some 7,none, .val (.move (.slot 0))⟩,
 ⟨some 8,none, .call f0 [(.slot 7)]⟩,
 ⟨some 5,none, .val (.move (.slot 8))⟩]
abbrev CmpInt_r2(f0:Nat):List aA:=[
 ⟨some 9,none, .val (.move (.slot 1))⟩,
 ⟨some 10,none, .call f0 [(.slot 9)]⟩,
 ⟨some 6,none, .val (.move (.slot 10))⟩]
abbrev CmpInt_r3:List aA:=[
 ⟨some 11,none, .val (.move (.slot 5))⟩]
abbrev CmpInt_r4:List aA:=[
 ⟨some 12,none, .val (.move (.slot 6))⟩]
abbrev CmpInt_r5:List aA:=[
 ⟨some 4,none, .val (.move (.const (.int .i64 0)))⟩]
abbrev CmpInt_r6:List aA:=[
 ⟨some 4,none, .val (.move (.const (.int .i64 (-1))))⟩]
abbrev CmpInt_r7:List aA:=[
 ⟨some 13,none, .val (.move (.slot 6))⟩]
abbrev CmpInt_r8:List aA:=[
 ⟨some 4,none, .val (.move (.const (.int .i64 1)))⟩]
abbrev CmpInt_r9:List aA:=[
 ⟨some 14,none, .val (.move (.slot 0))⟩,
 ⟨some 15,none, .val (.move (.slot 1))⟩,
 ⟨some 16,none, .val (.bin .lss (.slot 14) (.slot 15))⟩]
abbrev CmpInt_r10:List aA:=[
 ⟨some 4,none, .val (.move (.const (.int .i64 (-1))))⟩]
abbrev CmpInt_r11:List aA:=[
 ⟨some 17,none, .val (.move (.slot 0))⟩,
 ⟨some 18,none, .val (.move (.slot 1))⟩,
 ⟨some 19,none, .val (.bin .gtr (.slot 17) (.slot 18))⟩]
abbrev CmpInt_r12:List aA:=[
 ⟨some 4,none, .val (.move (.const (.int .i64 1)))⟩]
abbrev CmpInt_r13:List aA:=[
 ⟨some 4,none, .val (.move (.const (.int .i64 0)))⟩]
def CmpInt(f0:Nat):LFn:=⟨(.seq (.ops CmpInt_r0) (.seq (.ops (CmpInt_r1 f0)) (.seq (.ops (CmpInt_r2 f0)) (.seq (.seq (.ops CmpInt_r3) (.cond (.slot 11) (.seq (.seq (.ops CmpInt_r4) (.cond (.slot 12) (.seq (.ops CmpInt_r5) .ret) .skip)) (.seq (.ops CmpInt_r6) .ret)) .skip)) (.seq (.seq (.ops CmpInt_r7) (.cond (.slot 13) (.seq (.ops CmpInt_r8) .ret) .skip)) (.seq (.seq (.ops CmpInt_r9) (.cond (.slot 16) (.seq (.ops CmpInt_r10) .ret) .skip)) (.seq (.seq (.ops CmpInt_r11) (.cond (.slot 19) (.seq (.ops CmpInt_r12) .ret) .skip)) (.seq (.ops CmpInt_r13) .ret)))))))),20,[.slot 4]⟩
abbrev OrInt_r0:List aA:=[
 ⟨some 2,none, .val (.move (.const (.int .i64 0)))⟩]
abbrev OrInt_r1:List aA:=[
 ⟨some 3,none, .val (.move (.const (.int .i64 0)))⟩]
abbrev OrInt_r2:List aA:=[
 ⟨some 6,none, .val (.move (.slot 0))⟩,
 ⟨some 7,none, .val (.len (.slot 6))⟩,
 ⟨some 8,none, .val (.move (.const (.int .i64 0)))⟩]
abbrev OrInt_r3:List aA:=[
 ⟨some 9,none, .val (.bin .lss (.slot 8) (.slot 7))⟩]
abbrev OrInt_r4:List aA:=[
 ⟨some 10,none, .val (.idxA .leaf (.slot 6) (.slot 8))⟩,
 ⟨some 11,none, .val (.load .leaf (.slot 10))⟩,
 ⟨some 5,none, .val (.move (.slot 11))⟩]
abbrev OrInt_r5:List aA:=[
 ⟨some 12,none, .val (.move (.slot 5))⟩,
 ⟨some 13,none, .val (.move (.slot 3))⟩,
 ⟨some 14,none, .val (.bin .neq (.slot 12) (.slot 13))⟩]
abbrev OrInt_r6:List aA:=[
 ⟨some 15,none, .val (.move (.slot 5))⟩,
 ⟨some 2,none, .val (.move (.slot 15))⟩]
abbrev OrInt_r7:List aA:=[
 ⟨some 16,none, .val (.bin .add (.slot 8) (.const (.int .i64 1)))⟩,
 ⟨some 8,none, .val (.move (.slot 16))⟩]
abbrev OrInt_l0:bE:=(.seq (.ops OrInt_r3) (.seq (.cond (.slot 9) .skip (.exit 0)) (.seq (.block 1 (.seq (.ops OrInt_r4) (.seq (.ops OrInt_r5) (.cond (.slot 14) (.seq (.ops OrInt_r6) .ret) .skip)))) (.ops OrInt_r7))))
abbrev OrInt_r8:List aA:=[
 ⟨some 17,none, .val (.move (.slot 3))⟩,
 ⟨some 2,none, .val (.move (.slot 17))⟩]
def OrInt:LFn:=⟨(.seq (.ops OrInt_r0) (.seq (.ops OrInt_r1) (.seq (.seq (.ops OrInt_r2) (.block 0 (.loop OrInt_l0))) (.seq (.ops OrInt_r8) .ret)))),18,[.slot 2]⟩
abbrev NaNInt_r0:List aA:=[
 ⟨some 2,none, .val (.move (.const (.bool false)))⟩]
abbrev NaNInt_r1:List aA:=[
 ⟨some 3,none, .val (.move (.slot 0))⟩,
 ⟨some 4,none, .val (.move (.slot 0))⟩,
 ⟨some 5,none, .val (.bin .neq (.slot 3) (.slot 4))⟩,
 ⟨some 2,none, .val (.move (.slot 5))⟩]
def NaNInt:LFn:=⟨(.seq (.ops NaNInt_r0) (.seq (.ops NaNInt_r1) .ret)),6,[.slot 2]⟩
end LB
end Go.Proofs.YtecepaehmojpgaaGreat
namespace Go.Proofs.YtecepaehmojpgaaGreat
open Go.RowKit
theorem cE{α:Type}(f:α→V)(l:List α)(k:Nat)(h:k<l.length):(l.map f).getD k (.tup [])=f l[k]:=by
 rw[List.getD_eq_getElem?_getD,List.getElem?_eq_getElem (by simpa using h)]
 simp
def eK{α:Type}(p:α→Bool)(l:List α):Int:=match l.findIdx? p with
 |some i=>i
 |none=>-1
theorem wH{α:Type}(p:α→Bool)(l:List α):decide (0≤eK p l)=l.any p:=by
 unfold eK
 cases hf:l.findIdx? p with
 |none=>
  rw[List.findIdx?_eq_none_iff] at hf
  have:l.any p=false:=by
   rw[List.any_eq_false]
   intro x hx
   simp[hf x hx]
  simp[this]
 |some i=>
  rw[List.findIdx?_eq_some_iff_getElem] at hf
  obtain⟨h1,h2,_⟩:=hf
  have:l.any p=true:=List.any_eq_true.2 ⟨l[i],List.getElem_mem _,h2⟩
  simp[this]
section
variable{P:Program}{k:Sh}{α:Type}(e:α→V)(hfit:∀x,(e x).fits k=true)
include hfit
theorem qM{f:Nat}(hL:aH P f=some (LB.IndexFunc k))(p:α→Bool)(own:Own)(l:List α)(g:Nat)(caps:List V)(h:Hp)(hp:∀x∈l,aZ P g ([e x]++caps) h (.bool (p x)))(hl:l.length≤1000000000):
 aZ P f [.sl k own (l.map e), .fn (.func g) [] caps] h (.int .i64 (eK p l)):=by
 refine aU (fun L=>trivial) fun h' nx hh=>aD hL fun hd=>?_
 simp only[jL,jM,jA,jB,jN,jO,jP,jQ,V.undef]
 refine wle trivial ?_
 refine mO (fun i:Nat=>i≤l.length∧∀x∈l.take i,p x=false) (fun i=>⟨aB 19 0 [(0, .sl k own (l.map e)),(1, .fn (.func g) [] caps),(7, .int .i64 l.length),(8, .int .i64 i)],h',nx⟩) (fun i=>l.length-i) 0 ⟨Nat.zero_le _,by simp⟩ ?_ ?_
 ·refine nV (by simp only[WkL,aB,jH,jI,jJ,go_sem,reduceIte,jA,jB,jC,jD,reduceCtorEq,jE,jF]) ?_ ?_
  ·exact Hp.le_refl _
  omega
 rintro i ⟨hi,hno⟩
 simp only[aB,go_sem,reduceIte,jA,jB,jC,jD,reduceCtorEq,jE,jF]
 refine wl ?_
 refine cP _ rfl (fun hc=>?_) (fun hc=>?_)
 ·have hlt:i<l.length:=by simpa using hc
  have hg:=cE e l i hlt
  refine wle (ee2 hg hfit) ?_
  refine nK rfl (hp l[i] (List.getElem_mem _)) (by simp only[go_sem,reduceIte,jA,jB,jC,jD,reduceCtorEq,jE,jF]) hh ?_
  simp only[go_sem,reduceIte,jA,jB,jC,jD,reduceCtorEq,jE,jF]
  refine wl ?_
  refine cP _ rfl (fun hc=>?_) (fun hc=>?_)
  ·refine wl ?_
   refine bU ?_
   repeat (first|with_reducible refine gK ?_|with_reducible refine eL ?_|with_reducible refine fA ?_|with_reducible refine fB ?_)
   refine aG h' (Hp.le_refl _) ⟨?_,rfl⟩
   simp only[go_sem,reduceIte,jA,jB,jC,jD,reduceCtorEq,jE,jF]
   have:l.findIdx? p=some i:=by
    rw[List.findIdx?_eq_some_iff_getElem]
    refine⟨hlt,hc,fun j hj=>?_⟩
    have:=hno l[j] (List.mem_take_iff_getElem.2 ⟨j,by omega,rfl⟩)
    simp[this]
   simp only[eK,this]
  refine wl ?_
  refine gL (i+1) ⟨by omega,?_⟩ (by omega) ?_
  ·intro x hx
   rw[List.take_succ_eq_append_getElem hlt,List.mem_append,List.mem_singleton] at hx
   rcases hx with hx|rfl
   ·exact hno x hx
   exact hc
  rw[bM (by omega) (by omega)]
  refine nV (by simp only[WkL,aB,jH,jI,jJ,go_sem,reduceIte,jA,jB,jC,jD,reduceCtorEq,jE,jF]) ?_ ?_
  ·exact Hp.le_refl _
  omega
 have hge:i=l.length:=by have:¬i<l.length:=by simpa using hc
                         omega
 refine lE ?_
 repeat (first|with_reducible refine iV ?_|with_reducible refine iD ?_|with_reducible refine iE ?_|with_reducible refine bQ (by decide) ?_|with_reducible refine gA ?_|with_reducible refine aO ?_)
 refine wl ?_
 refine bU (aG h' (Hp.le_refl _) ⟨?_,rfl⟩)
 simp only[go_sem,reduceIte,jA,jB,jC,jD,reduceCtorEq,jE,jF]
 rw[hge,List.take_length] at hno
 have:l.findIdx? p=none:=by
  rw[List.findIdx?_eq_none_iff]
  exact fun x hx=>hno x hx
 simp only[eK,this]
theorem dB{f f0:Nat}(hL:aH P f=some (LB.ContainsFunc k f0))(hL0:aH P f0=some (LB.IndexFunc k))(p:α→Bool)(own:Own)(l:List α)(g:Nat)(caps:List V)(h:Hp)(hp:∀x∈l,aZ P g ([e x]++caps) h (.bool (p x)))(hl:l.length≤1000000000):
 aZ P f [.sl k own (l.map e), .fn (.func g) [] caps] h (.bool (l.any p)):=by
 refine aU (fun L=>trivial) fun h' nx hh=>aD hL fun hd=>?_
 simp only[jL,jM,jA,jB,jN,jO,jP,jQ,V.undef]
 refine wl ?_
 refine aQ (qM e hfit hL0 p own l g caps h hp hl) (by simp only[go_sem,reduceIte,jA,jB,jC,jD,reduceCtorEq,jE,jF]) hh ?_
 simp only[go_sem,reduceIte,jA,jB,jC,jD,reduceCtorEq,jE,jF]
 refine wl ?_
 refine bU (aG h' (Hp.le_refl _) ⟨?_,rfl⟩)
 simp only[go_sem,reduceIte,jA,jB,jC,jD,reduceCtorEq,jE,jF]
 rw[←wH]
theorem rV{f:Nat}{z:V}(hL:aH P f=some (LB.ValuesIt k z))(hz:z.fits k=true)(own:Own)(l:List α)(hl:l.length≤1000000000):
 aHr P f [.ept .leaf [.sl k own (l.map e)] 0 0] Hp.none (l.map fun x=>[e x]):=by
 intro yn J D hbJ hnJ hnD hJ h0 nx0 h0J hd0
 simp only[jK]
 refine aD hL fun hd=>?_
 simp only[jL,jM,jA,jB,jN,jO,jP,jQ,V.undef]
 refine wle trivial ?_
 refine mO (fun p:Nat×Hp×Nat=>p.1≤l.length∧J p.1 p.2.1 p.2.2∧aM p.2.1 p.2.2) (fun p=>⟨aB 16 0 [(0, .yld yn),(5, .sl k own (l.map e)),(6, .int .i64 l.length),(7, .int .i64 p.1)],p.2.1,p.2.2⟩) (fun p=>l.length-p.1) (0,h0,nx0) ⟨Nat.zero_le _,h0J,hd0⟩ ?_ ?_
 ·refine nV (by simp only[WkL,aB,jH,jI,jJ,go_sem,reduceIte,jA,jB,jC,jD,reduceCtorEq,jE,jF]) ?_ ?_
  ·exact Hp.le_refl _
  exact Nat.le_refl _
 rintro⟨i,h,nx⟩ ⟨hi,hj,hdm⟩
 simp only at hi hj hdm
 simp only[aB,go_sem,reduceIte,jA,jB,jC,jD,reduceCtorEq,jE,jF]
 refine wl ?_
 refine cP _ rfl (fun hc=>?_) (fun hc=>?_)
 ·have hlt:i<l.length:=by simpa using hc
  have hg:=cE e l i hlt
  repeat (first|with_reducible refine bI ?_|with_reducible refine cT ?_|with_reducible refine dZ ?_|with_reducible refine aO ?_|with_reducible refine bT ?_|with_reducible refine bN ?_|(refine eW rfl (by simp only[jK,jG,hg,hfit,hz,iZ (hfit _),cG hz (hfit _),go_sem,reduceIte,jA,jB,jC,jD,reduceCtorEq,jE,jF];try omega) ?_;simp only[jK,jG,hg,hfit,hz,iZ (hfit _),cG hz (hfit _),go_sem,reduceIte,jA,jB,jC,jD,reduceCtorEq,jE,jF])|(with_reducible refine dL ?_))
  refine aEQ rfl ?_
  have hy:=(hJ i (by simpa using hlt) h (nx+1+1) (hnJ i h nx _ hj (by omega)) (hdm.up (by omega))).dom
  simp only[List.getElem_map] at hy
  refine(hy.weaken ?_).mono ?_
  ·exact aJ hdm (aJ hdm (Hp.le_refl _) (by omega) _) (by omega) _
  rintro v h' nx' hnx ⟨hq,hdm',_⟩
  unfold cR
  rcases hq with⟨rfl,hj'⟩|⟨rfl,hD⟩
  ·simp only[go_sem,reduceIte,jA,jB,jC,jD,reduceCtorEq,jE,jF]
   refine wl ?_
   refine cP _ rfl (fun hc=>?_) (fun hc=>?_)
   ·cases hc
   refine wl ?_
   refine gL (i+1,h',nx') ⟨hlt,hj',hdm'⟩ (by simp only;omega) ?_
   rw[bM (by omega) (by omega)]
   refine nV (by simp only[WkL,aB,jH,jI,jJ,go_sem,reduceIte,jA,jB,jC,jD,reduceCtorEq,jE,jF]) ?_ ?_
   ·exact Hp.le_refl _
   exact Nat.le_refl _
  simp only[go_sem,reduceIte,jA,jB,jC,jD,reduceCtorEq,jE,jF]
  refine wl ?_
  refine cP _ rfl (fun hc=>?_) (fun hc=>?_)
  ·refine bU ?_
   repeat (first|with_reducible refine gK ?_|with_reducible refine eL ?_|with_reducible refine fA ?_|with_reducible refine fB ?_)
   exact⟨h',Hp.le_refl _, .inr hD⟩
  cases hc
 have hge:i=l.length:=by have:¬i<l.length:=by simpa using hc
                         omega
 subst hge
 refine lE ?_
 repeat (first|with_reducible refine iV ?_|with_reducible refine iD ?_|with_reducible refine iE ?_|with_reducible refine bQ (by decide) ?_|with_reducible refine gA ?_|with_reducible refine aO ?_)
 exact⟨h,Hp.le_refl _, .inl hj⟩
end
theorem xF{P:Program}{k:Sh}{f f0:Nat}(hL:aH P f=some (LB.Values k f0))(own:Own)(l:List V)(hn:∀L,bP L l)(h:Hp):
 aZ P f [.sl k own l] h (.fn (.func f0) [] [.ept .leaf [(V.sl k own l).loose] 0 0]):=by
 refine aU (fun L=>?_) fun h' nx hh=>aAe (aD hL fun hd=>?_)
 ·cases own<;>simp[V.loose,V.names,bP,hn L]
 simp only[jL,jM,jA,jB,jN,jO,jP,jQ,V.undef]
 refine wl ?_
 refine bU (aG _ (Hp.le_refl _) ⟨nx,Nat.le_refl _,?_,rfl⟩)
 simp only[go_sem,reduceIte,jA,jB,jC,jD,reduceCtorEq,jE,jF]
section
variable{P:Program}{k:Sh}{α:Type}(e:α→V)(hfit:∀x,(e x).fits k=true)
include hfit
theorem aAG{f bs:Nat}{z:V}(hL:aH P f=some (LB.AppendSeq k z bs))(hz:z.fits k=true)(hbs:bs≤140737)(g:Nat)(caps:List V)(hb:Hp)(xs:List α)(hit:aHr P g caps hb (xs.map fun x=>[e x]))(hl:xs.length≤100000000)
 (h':Hp) (nx:Nat) (hh:hb.has h'):
 aW P f [.sl k .nil [], .fn (.func g) [] caps] h' nx fun v h'' _=>(xs=[]∧v= .sl k .nil []∧h''=h')∨(xs≠ []∧∃id,nx≤id∧v= .rs id k 0 xs.length∧h''=h'.set id (.arr k (xs.map e))):=by
 refine aD hL fun hd=>?_
 simp only[jL,jM,jA,jB,jN,jO,jP,jQ,V.undef]
 refine wl ?_
 have hnone:∀n,nx≤n→h' n=none:=fun n hn=>aM.none hd hn
 obtain⟨I,hI⟩:∃I:Nat→Hp→Nat→Prop,∀i h nx1,I i h nx1↔(h'.le h∧∃acc,h nx=some (.arr .leaf [acc])∧((i=0∧acc= .sl k .nil [])∨(0<i∧∃id,nx≤id∧id≠nx∧id≠nx+1∧acc= .rs id k 0 i∧h id=some (.arr k ((xs.take i).map e))))):=⟨_,fun _ _ _=>Iff.rfl⟩
 refine yG hit rfl (by simp) (aM.set hd (by simp) (by simp) _) I (fun _ _ _=>False) ?_ ?_ ?_ (fun _ _ _ _ h=>h.elim) (fun _ _ _ _ h=>h.elim) ?_ ?_ ?_ (fun _ _ _ h=>h.elim)
 ·intro i h nx1 hi
  exact uZ hh (aKm ((hI _ _ _).1 hi).1)
 ·exact fun i h nx1 nx2 hi _=>(hI _ _ _).2 ((hI _ _ _).1 hi)
 ·intro i h nx1 b hi
  obtain⟨hle,acc,h1,h2⟩:=(hI _ _ _).1 hi
  refine(hI _ _ _).2 ⟨kB hle (hnone _ (by simp)) b,acc,?_,?_⟩
  ·simp only[Hp.set_app]
   rw[if_neg (by simp)];exact h1
  rcases h2 with h2|⟨hi,id,h3,h4,h5,h6,h7⟩
  ·exact .inl h2
  refine .inr ⟨hi,id,h3,h4,h5,h6,?_⟩
  simp only[Hp.set_app]
  rw[if_neg h5];exact h7
 ·exact(hI _ _ _).2 ⟨kB (Hp.le_refl _) (hnone _ (by simp)) _, .sl k .nil [],by simp[Hp.set_app], .inl ⟨rfl,rfl⟩⟩
 ·intro i hi h nx1 X hii hnx hX hdm
  obtain⟨hle,acc,h1,h2⟩:=(hI _ _ _).1 hii
  simp only at hnx hX
  have hi':i<xs.length:=by simpa using hi
  have hnx0:nx<nx1:=by omega
  have e1:(nx=nx1)=False:=by simp;omega
  have e2:(nx+1=nx1)=False:=by simp;omega
  have e4:(nx1=nx+1)=False:=by simp;omega
  have e6:(nx1=nx)=False:=by simp;omega
  have e7:(nx=nx1+2)=False:=by simp;omega
  have e8:(nx+1=nx1+2)=False:=by simp;omega
  have e9:(nx=nx1+3)=False:=by simp;omega
  have e10:(nx+1=nx1+3)=False:=by simp;omega
  have hx:(xs.map fun x=>[e x])[i]=[e xs[i]]:=by simp
  simp only[putAll,hx,List.set_cons_succ,List.set_cons_zero]
  refine wle (ee5 hz hfit e1 e2 e4) ?_
  refine aDV (by simp only[e1,e2,e4,go_sem,reduceIte,jA,jB,jC,jD,reduceCtorEq,jE,jF];exact hX) fun X'=>?_
  simp only[go_sem,reduceIte,jA,jB,jC,jD,reduceCtorEq,jE,jF]
  refine cT (bN ?_)
  have hone:∀(h'':Hp) (nx2 id:Nat),h'.le h''→nx1≤id→h'' nx=some (.arr .leaf [.rs id k 0 (i+1)])→h'' (nx+1)=some X'→h'' id=some (.arr k ((xs.take (i+1)).map e))→∀sl,gB 1 (aBS (nx+1) X' (I (i+1)) (fun _ _ _=>False)) .normal ⟨sl,h'',nx2⟩:=by
   intro h'' nx2 id q1 q2 q3 q4 q5 sl
   exact bT (aAp q4 ((hI _ _ _).2 ⟨q1,_,q3, .inr ⟨by omega,id,by omega,by omega,by omega,rfl,q5⟩⟩))
  generalize hQ:gB 1 (aBS (nx+1) X' (I (i+1)) (fun _ _ _=>False)) .normal=Qn at hone⊢
  have hle2:∀n b,nx1≤n→∀{h2:Hp},h'.le h2→h'.le (h2.set n b):=fun n b hn h2 q=>kB q (hnone n (by omega)) b
  have hle3:∀n,nx≤n→∀{h2:Hp},h'.le h2→∀b,h'.le (h2.set n b):=fun n hn h2 q b=>kB q (hnone n hn) b
  rcases h2 with⟨rfl,rfl⟩|⟨hpos,id,h3,h4,h5,rfl,h7⟩
  ·refine bB 3 rfl (by simp only[h1,hfit,hz,e1,e2,e4,e6,go_sem,reduceIte,jA,jB,jC,jD,reduceCtorEq,jE,jF]) ?_
   simp only[h1,hfit,hz,e1,e2,e4,e6,go_sem,reduceIte,jA,jB,jC,jD,reduceCtorEq,jE,jF]
   refine nW rfl rfl (by simp) (by simp only[jL,jM];omega) ?_
   refine eW rfl (by simp only[h1,hfit,hz,e1,e2,e4,e6,e7,e8,e9,e10,go_sem,reduceIte,jA,jB,jC,jD,reduceCtorEq,jE,jF];try omega) ?_
   simp only[h1,hfit,hz,e1,e2,e4,e6,e7,e8,e9,e10,go_sem,reduceIte,jA,jB,jC,jD,reduceCtorEq,jE,jF]
   refine hone _ _ (nx1+3) ?_ (by omega) ?_ ?_ ?_ _
   ·repeat (first|exact hle|refine hle3 _ (by omega) ?_ _)
   ·simp only[h1,e1,e2,e4,e6,e7,e8,e9,e10,go_sem,reduceIte,jA,jB,jC,jD,reduceCtorEq,jE,jF]
   ·simp only[h1,e1,e2,e4,e6,e7,e8,e9,e10,go_sem,reduceIte,jA,jB,jC,jD,reduceCtorEq,jE,jF]
   have:xs.take (0+1)=[xs[0]]:=by
    cases xs with
    |nil=>simp at hi'
    |cons x l=>simp
   rw[this]
   simp only[List.map_cons,List.map_nil,go_sem,reduceIte,jA,jB,jC,jD,reduceCtorEq,jE,jF]
   have:(nx1+3=nx)=False:=by simp;omega
   simp only[this,go_sem,reduceIte,jA,jB,jC,jD,reduceCtorEq,jE,jF]
  have hid:id<nx1:=hdm _ _ h7
  have f1:(id=nx1)=False:=by simp;omega
  have f2:(id=nx1+2)=False:=by simp;omega
  have f3:(id=nx)=False:=by simp;omega
  have f4:(id=nx+1)=False:=by simp;omega
  have f5:(id=nx1+3)=False:=by simp;omega
  have f6:(nx=id)=False:=by simp;omega
  have f7:(nx+1=id)=False:=by simp;omega
  have f8:(nx1+3=id)=False:=by simp;omega
  have hlen:((xs.take i).map e).length=i:=by simp;omega
  have hb1:(i+1)*bs≤140737488355328:=aBx (by omega) hbs
  refine eW rfl (by simp only[h1,h7,hlen,hb1,hfit,hz,e1,e2,e4,e6,e7,e8,e9,e10,f1,f2,f3,f4,f5,f6,f7,f8,go_sem,reduceIte,jA,jB,jC,jD,reduceCtorEq,jE,jF];try omega) ?_
  simp only[h1,h7,hlen,hb1,hfit,hz,e1,e2,e4,e6,e7,e8,e9,e10,f1,f2,f3,f4,f5,f6,f7,f8,go_sem,reduceIte,jA,jB,jC,jD,reduceCtorEq,jE,jF]
  refine hone _ _ (nx1+3) ?_ (by omega) ?_ ?_ ?_ _
  ·repeat (first|exact hle|refine hle3 _ (by omega) ?_ _|refine uW ?_ (hnone _ h3))
  ·simp only[h1,e1,e2,e4,e6,e7,e8,e9,e10,go_sem,reduceIte,jA,jB,jC,jD,reduceCtorEq,jE,jF]
  ·simp only[h1,e1,e2,e4,e6,e7,e8,e9,e10,f6,f7,go_sem,reduceIte,jA,jB,jC,jD,reduceCtorEq,jE,jF]
  have:(nx1+3=nx)=False:=by simp;omega
  rw[List.take_succ_eq_append_getElem hi',List.map_append]
  simp only[this,List.map_cons,List.map_nil,go_sem,reduceIte,jA,jB,jC,jD,reduceCtorEq,jE,jF]
 intro h nx1 hii hnx hdm
 obtain⟨hle,acc,h1,h2⟩:=(hI _ _ _).1 hii
 simp only at hnx
 have e1:(nx=nx+1)=False:=by simp
 refine wle (ee2 h1 e1) ?_
 rcases h2 with⟨h2,rfl⟩|⟨hpos,id,h3,h4,h5,rfl,h7⟩
 ·refine bU (aG h' ?_ (.inl ⟨?_,?_,rfl⟩))
  ·exact uW hle (hnone _ (by simp))
  ·cases xs with
   |nil=>rfl
   |cons x l=>simp at h2
  simp only[go_sem,reduceIte,jA,jB,jC,jD,reduceCtorEq,jE,jF]
 have hne:xs≠ []:=by rintro rfl;simp at hpos
 refine bU (aG (h'.set id (.arr k (xs.map e))) ?_ (.inr ⟨hne,id,h3,?_,rfl⟩))
 ·refine aGk (uW hle (hnone _ (by simp))) ?_
  simp only[Hp.del_app]
  rw[if_neg h5,h7]
  simp
 simp only[jK,go_sem,reduceIte,jA,jB,jC,jD,reduceCtorEq,jE,jF]
theorem aDK{f f0 bs:Nat}{z:V}(hL:aH P f=some (LB.Collect k f0))(hL0:aH P f0=some (LB.AppendSeq k z bs))(hz:z.fits k=true)(hbs:bs≤140737)(g:Nat)(caps:List V)(hb:Hp)(xs:List α)(hit:aHr P g caps hb (xs.map fun x=>[e x]))(hl:xs.length≤100000000)
 (h':Hp) (nx:Nat) (hh:hb.has h'):
 aW P f [.fn (.func g) [] caps] h' nx fun v h'' _=>(xs=[]∧v= .sl k .nil []∧h''=h')∨(xs≠ []∧∃id,nx≤id∧v= .rs id k 0 xs.length∧h''=h'.set id (.arr k (xs.map e))):=by
 refine aD hL fun hd=>?_
 simp only[jL,jM,jA,jB,jN,jO,jP,jQ,V.undef]
 refine wl ?_
 refine aX ((aAG e hfit hL0 hz hbs g caps hb xs hit hl _ _ hh).mono ?_)
 intro v h'' nx' hnx hv
 unfold cR
 simp only[go_sem,reduceIte,jA,jB,jC,jD,reduceCtorEq,jE,jF]
 refine wl ?_
 exact bU (aG h'' (Hp.le_refl _) hv)
end
end Go.Proofs.YtecepaehmojpgaaGreat
namespace Go.Proofs.YtecepaehmojpgaaGreat
open Go.RowKit Go.Sort Go.Shelf Go.Lib
theorem VR.refro{K:Ker}{F:Nat→Prop}(hF:∀b,K.fro b→F b){v:V}{cv:Value}(r:VR K v cv):VR {K with fro:=F} v cv:=by
 have st:∀b o,K.still b o→Ker.still {K with fro:=F} b o:=fun b o h=>h.elim (fun h=> .inl (hF b h)) .inr
 induction r with
 |bool b=>exact .bool b
 |int k n=>exact .int k n
 |str s=>exact .str s
 |nilPtr=>exact .nilPtr
 |ptr n k i o hn=>exact .ptr (K:={K with fro:=F}) n k i o hn
 |ept k es i o b off f hb hfit hcell hst hv ih=>exact .ept (K:={K with fro:=F}) k es i o b off f hb hfit hcell (fun j hj=>st _ _ (hst j hj)) ih
 |slnil k=>exact .slnil k
 |slz k a=>exact .slz k a
 |sl k own es b off cap f hb hfit hcell hst hv hcap hnil hfull htok ih=>exact .sl (K:={K with fro:=F}) k own es b off cap f hb hfit hcell (fun j hj=>st _ _ (hst j hj)) ih hcap hnil hfull htok
 |rs n k off len cap hn hcap hm=>exact .rs (K:={K with fro:=F}) n k off len cap hn hcap hm
 |nilMap=>exact .nilMap
 |map n hn=>exact .map (K:={K with fro:=F}) n hn
 |nilChan=>exact .nilChan
 |chan n hn=>exact .chan (K:={K with fro:=F}) n hn
 |fn f first cap cfirst ccap h1 h2 _ _ v1 v2=>exact .fn f first cap cfirst ccap h1 h2 v1 v2
 |nilFn=>exact .nilFn
 |yld n hn=>exact .yld (K:={K with fro:=F}) n hn
 |iface t v cv _ ih=>exact .iface t v cv ih
 |nilIface=>exact .nilIface
 |agg cs ccs hl _ ih=>exact .agg cs ccs hl ih
 |tup cs ccs hl _ ih=>exact .tup cs ccs hl ih
 |top cv=>exact .top cv
theorem aGL{w w':World}(h:nA (fun b=>b<w.heap.size) w w'):∃q os',w'=grow (w.drewN q) os':=by
 refine⟨w'.drawn-w.drawn,w'.heap.extract w.heap.size w'.heap.size,?_⟩
 obtain⟨h1,h2,h3,h4,h5,h6⟩:=h
 obtain⟨heap,tape,drawn,os,output⟩:=w
 obtain⟨heap',tape',drawn',os',output'⟩:=w'
 simp only at h1 h2 h3 h4 h5 h6
 subst h1 h2 h3
 unfold grow World.drewN
 simp only[World.mk.injEq,and_true,true_and]
 refine⟨?_,by omega⟩
 apply Array.ext_getElem?
 intro i
 by_cases hi:i<heap.size
 ·rw[h6 i hi (.inl hi),Array.getElem?_append_left hi]
 rw[Array.getElem?_append_right (by omega),Array.getElem?_extract]
 by_cases hi2:i<heap'.size
 ·rw[if_pos (by omega)]
  congr 1
  omega
 rw[if_neg (by omega),Array.getElem?_eq_none (by omega)]
theorem gE{α:Type} [Inhabited α](enc:α→List Value)(k:Nat)(w:World)(blk off m:Nat)(dk:Array α)(os:Array Obj)(b:Nat)(hb:b<w.heap.size)(hne:b≠blk):(sortWorldK enc k w blk off m dk os).heap[b]?=w.heap[b]?:=by
 unfold sortWorldK putRowK putRow mapBlock grow
 simp only[heap_ahead]
 rw[Array.getElem?_append_left (by simpa using hb),Array.getElem?_modify,if_neg (fun e=>hne e.symm)]
theorem oJ{α:Type} [Inhabited α](enc:α→List Value)(k:Nat)(w:World)(blk off m:Nat)(dk:Array α)(os:Array Obj){c:Array Value}{T:TypeId}{fr:Nat×Nat}(hh:w.heap[blk]?=some (.cells c T fr)):∃c':Array Value,(sortWorldK enc k w blk off m dk os).heap[blk]?=some (.cells c' T fr)∧c'.size=c.size:=by
 have hb:blk<w.heap.size:=by
  rcases Nat.lt_or_ge blk w.heap.size with hlt|hge
  ·exact hlt
  rw[Array.getElem?_eq_none hge] at hh;exact absurd hh (by simp)
 refine⟨putCells id off (flatK enc k dk) c,?_,by simp[putCells]⟩
 unfold sortWorldK putRowK putRow mapBlock grow
 simp only[heap_ahead]
 rw[Array.getElem?_append_left (by simpa using hb),Array.getElem?_modify,if_pos rfl,hh]
 rfl
theorem qL{K:Ker}{α:Type} [Inhabited α](enc:α→List Value)(k:Nat)(blk off m:Nat)(dk:Array α)(os:Array Obj){c:Array Value}{T:TypeId}(hh:K.w.heap[blk]?=some (.cells c T (0,0)))(hf:¬K.fro blk)(hi:K.imm blk=0):
 K.le {K with w:=sortWorldK enc k K.w blk off m dk os} where
 live _ hn:=hn
 mu _ _:=rfl
 tp _ _:=rfl
 fro:=rfl
 imm _ _:=Nat.le_refl _
 cell b o hb hst:=by
  have hne:b≠blk:=by
   rintro rfl
   rcases hst with h|h
   ·exact hf h
   omega
  exact iR (gE enc k K.w blk off m dk os b hb hne)
 shape b hb:=by
  by_cases e:b=blk
  ·subst e
   obtain⟨c',h1,h2⟩:=oJ enc k K.w b off m dk os hh
   simp only[World.shape?,h1,hh,h2]
  simp only[World.shape?,gE enc k K.w blk off m dk os b hb e]
 below:=⟨rfl,rfl,rfl,Nat.le_add_right _ _,size_sortWorldK_c enc k K.w blk off m dk os,fun b hb hF=>gE enc k K.w blk off m dk os b hb (fun e=>hF.elim (fun hF=>hf (e▸hF)) fun hm=>by subst e;unfold fZ at hm;rw[hh] at hm;cases hm)⟩
theorem aHJ{α β:Type}(f:α→β){cf:β→β→Int}(h:SWO (ltOf cf)):SWO (ltOf fun x y:α=>cf (f x) (f y)):=
 ⟨fun x=>h.irrefl (f x),fun x y z=>h.trans (f x) (f y) (f z),fun x y z=>h.ntrans (f x) (f y) (f z)⟩
def iU{δ:Type}(cf:δ→δ→Int)(l:List δ):Prop:=l.Pairwise fun x y=>ltOf cf y x=false
theorem nB{P:Program}{ρ:Ren}(L:SlLaysF0.n6 P ρ)(k:Nat)(aE:∀w,(isAgg (ρ.t 24)).run P w= .ok true w)(zE:∀w,(Go.sizeOf (ρ.t 24)).run P w= .ok k w)(hen:fR P (ρ.f 6)=true)
 {δ:Type} (e:δ→V) (hfit:∀d,(e d).fits (.agg k)=true) (cf:δ→δ→Int) (hO:SWO (ltOf cf)) (g:Nat) (caps:List V) (hcmp:∀x y,aZ P g ([e x,e y]++caps) Hp.none (.int .i64 (cf x y)))
 (n:Nat) (ds:List δ) (hne:ds≠ []) (h:Hp) (nx:Nat) (hn:h n=some (.arr (.agg k) (ds.map e))) (hlen:ds.length<4611686018427387904):
 aW P (ρ.f 6) [.rs n (.agg k) 0 ds.length, .fn (.func g) [] caps] h nx fun v h' nx'=>v= .tup []∧nx'=nx∧∃ds':List δ,ds'.Perm ds∧iU cf ds'∧h'=h.set n (.arr (.agg k) (ds'.map e)):=by
 refine⟨hen,fun K cargs hlv hr hv=>?_⟩
 obtain⟨hsz,hv⟩:=hv
 have hsz:cargs.size=2:=by simpa using hsz.symm
 obtain⟨c1,c2,rfl⟩:∃c1 c2,cargs=#[c1,c2]:=⟨cargs[0],cargs[1],by
  apply Array.ext
  ·simp[hsz]
  intro i h1 h2
  have:i=0∨i=1:=by simp at h2;omega
  rcases this with rfl|rfl<;>rfl⟩
 have v1:=hv 0 (by simp)
 have v2:=hv 1 (by simp)
 have hb:=hr.blk n _ hn
 have hfro:=hr.base n _ hn
 cases hb with
 |arr _ _ c T hh hcs himm hfit' hcv=>
  have v1:VR K (.rs n (.agg k) 0 ds.length) c1:=v1
  have v2:VR K (.fn (.func g) [] caps) c2:=v2
  cases v1 with
  |rs _ _ _ _ cap hl hcap hm=>
   cases v2 with
   |fn _ _ _ cfirst ccap q1 q2 w1 w2=>
    have hcf:cfirst=#[]:=by
     have:cfirst.size=0:=by simpa using q1.symm
     exact Array.eq_empty_of_size_eq_zero this
    subst hcf
    have hcs:ds.length*k≤c.size:=by simpa [Sh.size] using hcs
    have hblk:K.mu n<K.w.heap.size:=by
     rcases Nat.lt_or_ge (K.mu n) K.w.heap.size with hlt|hge
     ·exact hlt
     rw[Array.getElem?_eq_none hge] at hh;exact absurd hh (by simp)
    --data beside their cells
    let A:={p:δ×List Value // p.2.length=k∧VR K (e p.1) (.agg p.2.toArray)}
    let cells:Nat→List Value:=fun i=>(List.range k).map fun j=>c.getD (i*k+j) Go.undef
    have hcell:∀i (hi:i<ds.length),(cells i).length=k∧VR K (e ds[i]) (.agg (cells i).toArray):=fun i hi=>by
     refine⟨by simp[cells],VR.of_cells (hfit _) (by simp[cells]) fun j hj=>?_⟩
     have:=hcv i (by simpa using hi) j (by simpa [Sh.size] using hj)
     simp only[List.getD_eq_getElem?_getD,List.getElem?_map,List.getElem?_eq_getElem hi,Option.map_some,Option.getD_some,Sh.size] at this
     simpa [cells,Array.getD_eq_getD_getElem?,hj] using this
    have hpos:0<ds.length:=List.length_pos_iff.2 hne
    haveI:Inhabited A:=⟨⟨(ds[0],cells 0),hcell 0 hpos⟩⟩
    let d:Array A:=Array.ofFn fun i:Fin ds.length=>(⟨(ds[i],cells i),hcell i i.2⟩:A)
    have hds:d.size=ds.length:=by simp[d]
    have hd:∀i (hi:i<ds.length),d[i]! =(⟨(ds[i],cells i),hcell i hi⟩:A):=fun i hi=>by
     rw[getElem!_pos d i (by rw[hds];exact hi)]
     simp[d]
    let enc:A→List Value:=fun p=>p.1.2
    have hk:∀x:A,(enc x).length=k:=fun x=>x.2.1
    have h1:∀x:A,∀v∈enc x,v.oneCell'=true:=by
     intro x v hv
     obtain⟨a1,a2,a3,a4⟩:=x.2.2.cells (hfit x.1.1)
     obtain⟨j,hj,rfl⟩:=List.mem_iff_getElem.1 hv
     have hjk:j<k:=by rw[←hk x];exact hj
     have h3:=a3 j hjk
     have h4:=a4 j hjk
     have:=h3.oneCell h4
     have e1:(Value.agg x.1.2.toArray).cells.getD j Go.undef=(enc x)[j]:=by
      show x.1.2.toArray.getD j Go.undef=x.1.2[j]
      rw[Array.getD_eq_getD_getElem?]
      simp only[List.getElem?_toArray]
      rw[List.getElem?_eq_getElem hj]
      rfl
     rw[e1] at this
     exact this
    have hH:HoldsK enc k K.w (K.mu n) 0 d:=by
     intro j hj
     rw[size_flatK,hds] at hj
     rw[get_flatK _ _ _ _ (by rw[hds];exact hj)]
     have hk0:0<k:=by
      rcases Nat.eq_zero_or_pos k with h|h
      ·subst h;simp at hj
      exact h
     have hq:j / k<ds.length:=by rw[Nat.div_lt_iff_lt_mul hk0];exact hj
     have hm:j % k<k:=Nat.mod_lt _ hk0
     constructor
     ·rw[hd _ hq]
      simp only[World.cell?,hh,Nat.zero_add,enc,cells,id]
      have:j / k*k+j % k=j:=by rw[Nat.mul_comm];exact Nat.div_add_mod j k
      simp only[Option.isSome_none,Bool.false_eq_true,if_false]
      rw[getElem!_pos _ _ (by simpa using hm)]
      simp only[List.getElem_map,List.getElem_range,this]
      rw[Array.getD_eq_getD_getElem?,Array.getElem?_eq_getElem (by omega)]
      rfl
     simp only[World.frozen?,hh]
     simp
    have hC:CmpLays P g ccap enc k (fun x y:A=>cf x.1.1 y.1.1) (K.mu n) 0 d.size K.w:=by
     intro m os dk _ x y
     have hle:=qL enc k (K.mu n) 0 m dk os hh hfro himm
     generalize hW:sortWorldK enc k K.w (K.mu n) 0 m dk os=W at hle⊢
     have hp:=(hcmp x.1.1 y.1.1) Hp.none nx (aR _)
     have up:∀{v cv},VR K v cv→VR {K with w:=W,fro:=fun b=>b<W.heap.size} v cv:=fun r=>VR.refro (K:={K with w:=W}) (fun b hb=>Nat.lt_of_lt_of_le (hr.size b hb) (by rw[←hW];exact size_sortWorldK_c enc k K.w _ _ m dk os)) (r.mono hle)
     have c:=hp.2 {K with w:=W,fro:=fun b=>b<W.heap.size} (#[.agg (enc x).toArray, .agg (enc y).toArray]++ccap) hlv ⟨(fun n b e=>by cases e),(fun n b e=>by cases e),(fun n b e=>by cases e),(fun n n' b b' e=>by cases e),(fun b hb=>hb)⟩
      ((show VRs _ [e x.1.1,e y.1.1] #[.agg (enc x).toArray, .agg (enc y).toArray] from⟨rfl,fun i hi=>by
        have:i=0∨i=1:=by simp at hi;omega
        rcases this with rfl|rfl
        ·exact up x.2.2
        exact up y.2.2⟩).append ⟨q2,fun i hi=>up (w2 i hi)⟩)
     refine c.mono ?_
     rintro e' w' ⟨K',v,cv,h',nx',rfl,rfl,a1,a2,a3,a4,a5,rfl,rfl,rfl⟩
     cases a2
     exact⟨rfl,aGL a1.below⟩
    have key:=AnyQ.slices_SortFunc L k aE zE enc hk h1 (fun x y:A=>cf x.1.1 y.1.1) (aHJ (fun x:A=>x.1.1) hO) g ccap (K.mu n) 0 cap d K.w (fun args w=>kJ (hcmp ds[0] ds[0] Hp.none 0 (aR _)).1 args w) hC hH hblk (by rw[hds];exact hlen)
    rw[hds] at key
    have e0:(0:Nat)*(Sh.agg k).size=0:=Nat.zero_mul _
    rw[e0]
    refine key.mono ?_
    rintro e' w' ⟨rfl,d',m,os,hp,hs,rfl⟩
    obtain⟨hp1,_,hp3⟩:=hp
    have hp1:d'.size=ds.length:=by rw[hp1,hds]
    have hle:=qL enc k (K.mu n) 0 m d' os hh hfro himm
    have hH':=holdsK_sortWorldK_c enc k K.w (K.mu n) 0 d d' m os hH hblk (by rw[hp1,hds])
    obtain⟨c',hh',hcz⟩:=oJ enc k K.w (K.mu n) 0 m d' os hh
    refine⟨{K with w:=sortWorldK enc k K.w (K.mu n) 0 m d' os}, .tup [], .tuple #[],h.set n (.arr (.agg k) ((d'.toList.map fun x=>x.1.1).map e)),nx,rfl,rfl,hle, .tup [] #[] rfl (fun i hi=>absurd hi (by simp)),?_,fun m hm=>⟨hlv m hm, .inl hm⟩,Nat.le_refl _,rfl,rfl,_,?_,?_,rfl⟩
    ·have keep:∀m b,h m=some b→m≠n→(sortWorldK enc k K.w (K.mu n) 0 (ds.length*0+0) d' os).heap.size=(sortWorldK enc k K.w (K.mu n) 0 (ds.length*0+0) d' os).heap.size:=fun _ _ _ _=>rfl
     have live':∀m b,(h.set n (.arr (.agg k) ((d'.toList.map fun x=>x.1.1).map e))) m=some b→∃b',h m=some b':=fun m' b' e'=>by
      unfold Hp.set at e'
      split at e'
      ·rename_i em;subst em;exact⟨_,hn⟩
      exact⟨_,e'⟩
     refine⟨fun m' b' e'=>?_,fun m' b' e'=>?_,fun m' b' e'=>?_,fun m1 m2 b1 b2 e1 e2 em=>?_,fun b' hb'=>Nat.lt_of_lt_of_le (hr.size b' hb') hle.below.size⟩
     ·obtain⟨b2,e2⟩:=live' m' b' e';exact hr.lt m' b2 e2
     ·obtain⟨b2,e2⟩:=live' m' b' e';exact hr.base m' b2 e2
     ·by_cases em:m'=n
      ·subst em
       have eb:b'= .arr (.agg k) ((d'.toList.map fun x=>x.1.1).map e):=by simpa [Hp.set] using e'.symm
       subst eb
       refine .arr _ _ c' T hh' (by
        have e0:((d'.toList.map fun x=>x.1.1).map e).length=ds.length:=by
         simp only[List.length_map,Array.length_toList];omega
        rw[hcz,e0];exact hcs) himm (fun v hv=>?_) fun i hi j hj=>?_
       ·obtain⟨x,_,rfl⟩:=List.mem_map.1 hv
        exact hfit x
       have hi:i<d'.size:=by simpa using hi
       have hj:j<k:=by simpa [Sh.size] using hj
       obtain⟨g1,_⟩:=hH'.cell hi hj
       simp only[World.cell?,hh',Option.isSome_none,Bool.false_eq_true,if_false,Nat.zero_add] at g1
       have x2:=(d'[i]!).2.2
       obtain⟨_,_,a3,_⟩:=x2.cells (hfit (d'[i]!).1.1)
       have:=(a3 j hj).mono hle
       have e1:(((d'.toList.map fun x=>x.1.1).map e).getD i V.undef)=e (d'[i]!).1.1:=by
        rw[getElem!_pos d' i hi]
        simp[List.getD_eq_getElem?_getD,hi]
       have e2:c'.getD (i*(Sh.agg k).size+j) Go.undef=(Value.agg (d'[i]!).1.2.toArray).cells.getD j Go.undef:=by
        show c'.getD (i*k+j) Go.undef=(d'[i]!).1.2.toArray.getD j Go.undef
        rw[Array.getD_eq_getD_getElem?,g1,Array.getD_eq_getD_getElem?]
        have hjl:j<(d'[i]!).1.2.length:=by rw[(d'[i]!).2.1];exact hj
        simp only[List.getElem?_toArray,List.getElem?_eq_getElem hjl,Option.getD_some]
        exact getElem!_pos (d'[i]!).1.2 j hjl
       rw[e1,e2]
       exact this
      have e2:h m'=some b':=by unfold Hp.set at e';rw[if_neg em] at e';exact e'
      have hne:K.mu m'≠K.mu n:=fun e3=>em (hr.inj m' n _ _ e2 hn e3)
      exact(hr.blk m' b' e2).mono hle (hr.lt m' b' e2) (gE enc k K.w (K.mu n) 0 m d' os _ (hr.blk m' b' e2).lt_size hne) rfl
     obtain⟨b3,e3⟩:=live' m1 b1 e1
     obtain⟨b4,e4⟩:=live' m2 b2 e2
     exact hr.inj m1 m2 b3 b4 e3 e4 em
    ·have p:=hp3.map fun x:A=>x.1.1
     have ex:∀(x:Array A),x.size=ds.length→x.extract 0 ds.length=x:=fun x hx=>by rw[←hx];simp
     rw[ex d' hp1,ex d hds] at p
     have:d.toList.map (fun x:A=>x.1.1)=ds:=by
      apply List.ext_getElem
      ·simp[hds]
      intro i h1 h2
      simp[d]
     rw[this] at p
     exact p
    unfold iU
    rw[List.pairwise_map,List.pairwise_iff_getElem]
    intro i j hi hj hij
    have:=hs i j (Nat.zero_le _) hij (by simpa [hp1] using hj)
    rw[getElem!_pos d' i (by simpa using hi),getElem!_pos d' j (by simpa using hj)] at this
    simpa [ltOf] using this
end Go.Proofs.YtecepaehmojpgaaGreat
namespace Go.Proofs.YtecepaehmojpgaaGreat
open Go.RowKit Go.Sort Go.Shelf Go.Lib
def lst(k:Sh)(es:List V):V:=if es.isEmpty=true then .sl k .nil [] else .sl k .free es
theorem eV{k:Sh}{es:List V}(h:∀L,bP L es)(L:Nat→Prop):(lst k es).names L:=by
 unfold lst;split<;>simp[V.names,h L,bP]
theorem mC(k:Sh)(es:List V):∃own,lst k es= .sl k own es:=by
 cases es with
 |nil=>exact⟨.nil,rfl⟩
 |cons e es=>exact⟨.free,rfl⟩
theorem aBi(k:Sh)(es:List V):(lst k es).leafy=true:=by cases es<;>rfl
def vQ(nx:Nat)(h:Hp)(k:Sh)(es:List V)(v:V)(h':Hp):Prop:=
 (es=[]∧v= .sl k .nil []∧h'=h)∨(es≠ []∧∃id,nx≤id∧v= .sl k (.tok id) es∧h'=h.set id .tip)
def aIY(nx:Nat)(h:Hp)(k:Sh)(es:List V)(v:V)(h':Hp):Prop:=
 (es=[]∧v= .sl k .nil []∧h'=h)∨(es≠ []∧∃id,nx≤id∧v= .rs id k 0 es.length∧h'=h.set id (.arr k es))
theorem vQ.loose{nx:Nat}{h:Hp}{k:Sh}{es:List V}{v:V}{h':Hp}(f:vQ nx h k es v h'):v.loose=lst k es:=by
 rcases f with⟨rfl,rfl,_⟩|⟨hne,id,_,rfl,_⟩
 ·rfl
 cases es with
 |nil=>exact absurd rfl hne
 |cons=>rfl
theorem vQ.le{nx:Nat}{h:Hp}{k:Sh}{es:List V}{v:V}{h':Hp}(f:vQ nx h k es v h')(hd:aM h nx):h.le h':=by
 rcases f with⟨_,_,rfl⟩|⟨_,id,hid,_,rfl⟩
 ·exact Hp.le_refl _
 exact kB (Hp.le_refl _) (hd.none hid) _
theorem aW.conv{P:Program}{f:FuncId}{args:List V}{h:Hp}{nx:Nat}{R R':V→Hp→Nat→Prop}(c:aW P f args h nx R)(hc:∀v h' nx',nx≤nx'→aM h' nx'→R v h' nx'→∃h2,h2.le h'∧R' v.loose h2 nx'):aW P f args h nx R':=by
 refine⟨c.1,fun K cargs hl hr hv=>(c.2 K cargs hl hr hv).mono ?_⟩
 rintro e w' ⟨K',v,cv,h',nx',rfl,he,hle,hvr,hrel,hlv,hnx,hR⟩
 obtain⟨h2,q1,q2⟩:=hc v h' nx' hnx (fun m b hm=>(hlv m (hrel.lt m b hm)).1) hR
 exact⟨K',v.loose,cv,h2,nx',rfl,he,hle,hvr.loose,hrel.weaken q1,hlv,hnx,q2⟩
theorem gN{P:Program}{f:FuncId}{args:List V}{h:Hp}{v:V}(hv:∀L,v.names L)(hc:∀h' nx,h.has h'→aW P f args h' nx fun v' h'' _=>v'.loose=v∧h'.le h''):aZ P f args h v:=
 aU hv fun h' nx hh=>(hc h' nx hh).conv fun v' h'' nx' _ _ hq=>⟨h',hq.2,hq.1,rfl⟩
theorem aW.freezeA{P:Program}{f:FuncId}{args:List V}{h:Hp}{nx:Nat}{k:Sh}{G:List V→Prop}
 (c:aW P f args h nx fun v h' _=>∃es,G es∧aIY nx h k es v h'):aW P f args h nx fun v h' _=>∃es,G es∧vQ nx h k es v h':=by
 refine⟨c.1,fun K cargs hl hr hv=>(c.2 K cargs hl hr hv).mono ?_⟩
 rintro e w' ⟨K',v,cv,h',nx',rfl,he,hle,hvr,hrel,hlv,hnx,es,hG,(⟨rfl,rfl,rfl⟩|⟨hne,n,hn,rfl,rfl⟩)⟩
 ·exact⟨K',_,cv,_,nx',rfl,he,hle,hvr,hrel,hlv,hnx,[],hG, .inl ⟨rfl,rfl,rfl⟩⟩
 have hfr:¬K'.live nx':=fun hh=>Nat.lt_irrefl _ (hlv nx' hh).1
 have hset:(h.set n (.arr k es)) n=some (.arr k es):=by simp[Hp.set]
 obtain⟨K'',q1,q2,q3,q4,q5⟩:=aKo hrel hset hfr hvr
 have hdom:h n=none:=by
  cases hd:h n with
  |none=>rfl
  |some b=>exact absurd (hl n (hr.lt n b hd)) (by omega)
 have hh:((h.set n (.arr k es)).del n).set nx' .tip=h.set nx' .tip:=by
  funext x
  unfold Hp.set Hp.del
  by_cases e1:x=nx'
  ·simp[e1]
  by_cases e2:x=n
  ·subst e2;simp[e1,hdom]
  simp[e1,e2]
 rw[hh] at q5
 refine⟨K'',_,cv,_,nx'+1,q1,he,hle.trans q2,q4,q5,fun m hm=>?_,by omega,es,hG, .inr ⟨hne,nx',hnx,rfl,rfl⟩⟩
 rcases q3 m hm with hm|rfl
 ·exact⟨by have:=(hlv m hm).1;omega,(hlv m hm).2⟩
 exact⟨by omega, .inr hnx⟩
def dF{α:Type}(cf:α→α→Int)(l:List α):List α:=l.mergeSort fun x y=> !(ltOf cf y x)
theorem dE{α:Type}(cf:α→α→Int)(l:List α):(dF cf l).Perm l:=List.mergeSort_perm _ _
theorem qH{α:Type}{cf:α→α→Int}(hT:∀x y,ltOf cf x y=false→ltOf cf y x=false→x=y):∀(a b:List α),a.Perm b→iU cf a→iU cf b→a=b:=by
 intro a b hp ha hb
 exact List.Perm.eq_of_pairwise (le:=fun x y=>ltOf cf y x=false) (fun x y _ _ h1 h2=>hT x y h2 h1) ha hb hp
theorem gJ{α:Type}{cf:α→α→Int}(hO:SWO (ltOf cf))(l:List α):iU cf (dF cf l):=by
 have:=List.pairwise_mergeSort (le:=fun x y=> !(ltOf cf y x)) (fun x y z h1 h2=>by
  simp only[Bool.not_eq_true'] at h1 h2⊢
  exact hO.ntrans z y x h2 h1) (fun x y=>by
  cases h1:ltOf cf y x with
  |false=>rfl
  |true=>
   cases h2:ltOf cf x y with
   |false=>rfl
   |true=>have:=hO.trans x y x h2 h1;rw[hO.irrefl] at this;cases this) l
 unfold iU dF
 exact this.imp fun{x y} h=>by simpa using h
theorem aAl{P:Program}{ρ:Ren}(L:SlLaysF0.n6 P ρ)(hen:fR P (ρ.f 6)=true)(k:Sh)(fv:V)(h:Hp)(nx:Nat):aW P (ρ.f 6) [.sl k .nil [],fv] h nx fun v h' nx'=>v= .tup []∧h'=h:=by
 refine⟨hen,fun K cargs hlv hr hv=>?_⟩
 obtain⟨hsz,hv⟩:=hv
 have hsz:cargs.size=2:=by simpa using hsz.symm
 obtain⟨c1,c2,rfl⟩:∃c1 c2,cargs=#[c1,c2]:=⟨cargs[0],cargs[1],by
  apply Array.ext
  ·simp[hsz]
  intro i h1 h2
  have:i=0∨i=1:=by simp at h2;omega
  rcases this with rfl|rfl<;>rfl⟩
 have v1:VR K (.sl k .nil []) c1:=hv 0 (by simp)
 cases v1 with
 |sl _ _ _ b off cap f hb hfit hcell hst hv hcap hnil hfull htok=>exact absurd rfl hnil
 |slnil=>
  refine(AnyF.slices_SortFunc_none L none 0 c2 K.w).mono ?_
  rintro e w' ⟨rfl,rfl⟩
  exact⟨K, .tup [], .tuple #[],h,nx,rfl,rfl, .refl K, .tup [] #[] rfl (fun i hi=>absurd hi (by simp)),hr,fun n hn=>⟨hlv n hn, .inl hn⟩,Nat.le_refl _,rfl,rfl⟩
section
variable{P:Program}{α:Type}(e:α→V)
theorem mJ{ρ:Ren}(L:SlLaysF0.n6 P ρ){n:Nat}(hfit:∀x,(e x).fits (.agg n)=true)(aE:∀w,(isAgg (ρ.t 24)).run P w= .ok true w)(zE:∀w,(Go.sizeOf (ρ.t 24)).run P w= .ok n w)(hen:fR P (ρ.f 6)=true)
 {f f0 f1 f2 bs:Nat} {z:V} (hL:aH P f=some (LB.SortedFunc (.agg n) f0 f1)) (hL0:aH P f0=some (LB.Collect (.agg n) f2)) (hL2:aH P f2=some (LB.AppendSeq (.agg n) z bs)) (hz:z.fits (.agg n)=true) (hbs:bs≤140737) (hf1:f1=ρ.f 6)
 (g:Nat) (caps:List V) (hb:Hp) (xs:List α) (hit:aHr P g caps hb (xs.map fun x=>[e x])) (hl:xs.length≤100000000)
 (cf:α→α→Int) (hO:SWO (ltOf cf)) (gc:Nat) (capc:List V) (hcmp:∀x y,aZ P gc ([e x,e y]++capc) Hp.none (.int .i64 (cf x y))) (h':Hp) (nx:Nat) (hh:hb.has h'):
 aW P f [.fn (.func g) [] caps, .fn (.func gc) [] capc] h' nx fun v h'' _=>∃es,(∃ys:List α,ys.Perm xs∧iU cf ys∧es=ys.map e)∧aIY nx h' (.agg n) es v h'':=by
 refine aD hL fun hd=>?_
 simp only[jL,jM,jA,jB,jN,jO,jP,jQ,V.undef]
 refine wl ?_
 refine aX ((aDK e hfit hL0 hL2 hz hbs g caps hb xs hit hl _ _ hh).mono ?_)
 intro v h'' nx' hnx hv
 unfold cR
 rcases hv with⟨rfl,rfl,rfl⟩|⟨hne,id,hid,rfl,rfl⟩
 ·simp only[go_sem,reduceIte,jA,jB,jC,jD,reduceCtorEq,jE,jF]
  refine wl ?_
  refine aX ?_
  subst hf1
  refine(aAl L hen (.agg n) _ _ _).mono ?_
  rintro v h'' nx'' _ ⟨rfl,rfl⟩
  unfold cR
  simp only[go_sem,reduceIte,jA,jB,jC,jD,reduceCtorEq,jE,jF]
  refine wl ?_
  exact bU (aG h'' (Hp.le_refl _) ⟨[],⟨[],List.Perm.refl _,List.Pairwise.nil,rfl⟩, .inl ⟨rfl,rfl,rfl⟩⟩)
 simp only[go_sem,reduceIte,jA,jB,jC,jD,reduceCtorEq,jE,jF]
 refine wl ?_
 refine aX ?_
 subst hf1
 refine(nB L n aE zE hen e hfit cf hO gc capc hcmp id xs hne _ _ (by simp[Hp.set]) (by omega)).mono ?_
 rintro v h'' nx'' _ ⟨rfl,rfl,ys,hp,hs,rfl⟩
 unfold cR
 simp only[go_sem,reduceIte,jA,jB,jC,jD,reduceCtorEq,jE,jF]
 refine wl ?_
 have hlen:ys.length=xs.length:=hp.length_eq
 refine bU (aG _ (Hp.le_refl _) ⟨ys.map e,⟨ys,hp,hs,rfl⟩, .inr ⟨?_,id,hid,?_,?_⟩⟩)
 ·intro hys
  have:ys=[]:=by simpa using hys
  subst this
  exact hne (List.length_eq_zero_iff.1 (by simpa using hlen.symm))
 ·simp only[jK,hlen,go_sem,reduceIte,jA,jB,jC,jD,reduceCtorEq,jE,jF]
 funext m;simp only[Hp.set_app];split<;>rfl
theorem wM{ρ:Ren}(L:SlLaysF0.n6 P ρ){n:Nat}(hfit:∀x,(e x).fits (.agg n)=true)(hnm:∀x L,(e x).names L)(aE:∀w,(isAgg (ρ.t 24)).run P w= .ok true w)(zE:∀w,(Go.sizeOf (ρ.t 24)).run P w= .ok n w)(hen:fR P (ρ.f 6)=true)
 {f f0 f1 f2 bs:Nat} {z:V} (hL:aH P f=some (LB.SortedFunc (.agg n) f0 f1)) (hL0:aH P f0=some (LB.Collect (.agg n) f2)) (hL2:aH P f2=some (LB.AppendSeq (.agg n) z bs)) (hz:z.fits (.agg n)=true) (hbs:bs≤140737) (hf1:f1=ρ.f 6)
 (g:Nat) (caps:List V) (hb:Hp) (xs:List α) (hit:aHr P g caps hb (xs.map fun x=>[e x])) (hl:xs.length≤100000000)
 (cf:α→α→Int) (hO:SWO (ltOf cf)) (hT:∀x y,ltOf cf x y=false→ltOf cf y x=false→x=y) (gc:Nat) (capc:List V) (hcmp:∀x y,aZ P gc ([e x,e y]++capc) Hp.none (.int .i64 (cf x y))):
 aZ P f [.fn (.func g) [] caps, .fn (.func gc) [] capc] hb (lst (.agg n) ((dF cf xs).map e)):=by
 refine gN (fun L=>eV (fun L=>cF (fun x=>hnm x L) _) L) fun h' nx hh=>?_
 have c:=(mJ e L hfit aE zE hen hL hL0 hL2 hz hbs hf1 g caps hb xs hit hl cf hO gc capc hcmp h' nx hh).freezeA
 refine⟨c.1,fun K cargs hlv hr hv=>((c.mono (R':=fun v' h'' _=>v'.loose=lst (.agg n) ((dF cf xs).map e)∧h'.le h'') ?_).2 K cargs hlv hr hv)⟩
 rintro v h'' nx' hnx ⟨es,⟨ys,hp,hs,rfl⟩,hf⟩
 have hy:ys=dF cf xs:=qH hT _ _ (hp.trans (dE cf xs).symm) hs (gJ hO xs)
 subst hy
 exact⟨hf.loose,hf.le (fun m b hm=>hlv m (hr.lt m b hm))⟩
end
end Go.Proofs.YtecepaehmojpgaaGreat
namespace Go.Proofs.YtecepaehmojpgaaGreat
open Go.RowKit Go.Sort Go.Shelf
section
variable{P:Program}{k:Sh}{α:Type}(e:α→V)(hfit:∀x,(e x).fits k=true)
include hfit
end
section
variable{P:Program}{α:Type}(e:α→V)
end
end Go.Proofs.YtecepaehmojpgaaGreat
