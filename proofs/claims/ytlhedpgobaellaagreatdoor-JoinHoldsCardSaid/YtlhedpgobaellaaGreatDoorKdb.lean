/-
Texts of this proof,one behind the other. No conditions.
-/
import Derived.Test.YtlhedpgobaellaaGreatDoorKd
import Derived.Shelf.SlSortCmp.WholeK
import Derived.Shelf.SlSortCmp.NoneTotal
import Derived.Shelf.GgClosure.StringsIndexFunc
open Go.Proofs.YtlhedpgobaellaaGreatDoor.Hp renaming le_refl→Ka,aAM→Kc
open Bool renaming and_eq_true→Kb,or_eq_true→Ks,not_eq_true'→Ku,false_eq_true→Kz
open List renaming take_succ_eq_append_getElem→Kd,pairwise_cons→Kf,map_cons→Kg,mem_cons→Kh,mem_append→Ki,getD_eq_getElem?_getD→Kj,mem_cons_self→Km,findIdx?_eq_some_iff_getElem→Ko,getElem_mem→Kp,mem_cons_of_mem→Kq,findIdx?_eq_none_iff→Kt,sum_cons→Kx,mem_singleton→Ky,foldl_append→KB,any_eq_true→KC,cons_append→KD,length_cons→KF,nil_append→KG,map_nil→KH
open Nat renaming le_refl→Ke,zero_le→Kk,eq_zero_or_pos→KA,add_zero→KI,lt_or_ge→KJ
open Array renaming getElem?_extract→Kv,getElem?_toList→Kw,toList_inj→KE
open Int renaming le_refl→KK
open Nat renaming reduceAdd→jA,reduceSub→jB,reduceLT→jC,reduceLeDiff→jD,reduceEqDiff→jE
open Int renaming reduceToNat→jF,natCast_add→jH,natCast_one→jI,natCast_zero→jJ
open List renaming length_map→jK,length_cons→jL,length_nil→jM
set_option linter.all false
set_option maxHeartbeats 8000000
namespace Go.Proofs.YtlhedpgobaellaaGreatDoor
open Go.RowKit
namespace LB
abbrev aB2:List aA:=[
 ⟨some 4,none, .val (.move (.const (.int .i64 0)))⟩]
abbrev aB1:List aA:=[
 ⟨some 6,none, .val (.move (.slot 0))⟩,
 ⟨some 7,none, .val (.len (.slot 6))⟩,
 ⟨some 8,none, .val (.move (.const (.int .i64 0)))⟩]
abbrev aB0:List aA:=[
 ⟨some 9,none, .val (.bin .lss (.slot 8) (.slot 7))⟩]
abbrev aBz:List aA:=[
 ⟨some 10,none, .val (.move (.slot 8))⟩,
 ⟨some 5,none, .val (.move (.slot 10))⟩]
abbrev aBy(k:Sh):List aA:=[
 ⟨some 11,none, .val (.move (.slot 1))⟩,
 ⟨some 12,none, .val (.move (.slot 0))⟩,
 ⟨some 13,none, .val (.move (.slot 5))⟩,
 ⟨some 14,none, .val (.idxA k (.slot 12) (.slot 13))⟩,
 ⟨some 15,none, .val (.load k (.slot 14))⟩,
 ⟨some 16,none, .callv (.slot 11) [(.slot 15)]⟩]
abbrev aBx:List aA:=[
 ⟨some 17,none, .val (.move (.slot 5))⟩,
 ⟨some 4,none, .val (.move (.slot 17))⟩]
abbrev aBw:List aA:=[
 ⟨some 18,none, .val (.bin .add (.slot 8) (.const (.int .i64 1)))⟩,
 ⟨some 8,none, .val (.move (.slot 18))⟩]
abbrev aB3(k:Sh):aS:=(.seq (.ops aB0) (.seq (.cond (.slot 9) .skip (.exit 0)) (.seq (.block 1 (.seq (.ops aBz) (.seq (.ops (aBy k)) (.cond (.slot 16) (.seq (.ops aBx) .ret) .skip)))) (.ops aBw))))
abbrev aBv:List aA:=[
 ⟨some 4,none, .val (.move (.const (.int .i64 (-1))))⟩]
def aAU(k:Sh):LFn:=⟨(.seq (.ops aB2) (.seq (.seq (.ops aB1) (.block 0 (.loop (aB3 k)))) (.seq (.ops aBv) .ret))),19,[.slot 4]⟩
abbrev aA8:List aA:=[
 ⟨some 4,none, .val (.move (.const (.bool false)))⟩]
abbrev aA7(f0:Nat):List aA:=[
 ⟨some 5,none, .val (.move (.slot 0))⟩,
 ⟨some 6,none, .val (.move (.slot 1))⟩,
 ⟨some 7,none, .call f0 [(.slot 5),(.slot 6)]⟩,
 ⟨some 8,none, .val (.bin .geq (.slot 7) (.const (.int .i64 0)))⟩,
 ⟨some 4,none, .val (.move (.slot 8))⟩]
def ContainsFunc(k:Sh)(f0:Nat):LFn:=⟨(.seq (.ops aA8) (.seq (.ops (aA7 f0)) .ret)),9,[.slot 4]⟩
abbrev aB8(k:Sh):List aA:=[
 ⟨some 2,none, .box .leaf (.slot 0)⟩,
 ⟨some 4,none, .val (.move (.const (.sl k .nil [])))⟩]
abbrev aB7:List aA:=[
 ⟨some 6,none, .val (.move (.slot 1))⟩]
abbrev aB6(k:Sh)(z:V):List aA:=[
 ⟨some 5,none, .box k (.const z)⟩,
 ⟨none,none, .store k (.slot 5) (.slot 7)⟩]
abbrev aB5(k:Sh)(bs:Nat):List aA:=[
 ⟨some 8,none, .val (.load .leaf (.slot 2))⟩,
 ⟨some 9,none, .val (.load k (.slot 5))⟩,
 ⟨some 10,none, .bslice k [(.slot 9)]⟩,
 ⟨some 11,none, .append k bs (.slot 8) (.slot 10)⟩,
 ⟨none,none, .store .leaf (.slot 2) (.slot 11)⟩]
abbrev aB9(k:Sh)(bs:Nat):aS:=(.block 1 (.ops (aB5 k bs)))
abbrev aB4:List aA:=[
 ⟨some 12,none, .val (.load .leaf (.slot 2))⟩,
 ⟨some 4,none, .val (.move (.slot 12))⟩]
def aBI(k:Sh)(z:V)(bs:Nat):LFn:=⟨(.seq (.ops (aB8 k)) (.seq (.seq (.ops aB7) (.block 0 (.range (.slot 6) [7] (.ops (aB6 k z)) (aB9 k bs)))) (.seq (.ops aB4) .ret))),13,[.slot 4]⟩
abbrev aCj(k:Sh):List aA:=[
 ⟨some 2,none, .val (.move (.const (.sl k .nil [])))⟩]
abbrev aCi(k:Sh)(f0:Nat):List aA:=[
 ⟨some 3,none, .val (.move (.slot 0))⟩,
 ⟨some 4,none, .call f0 [(.const (.sl k .nil [])),(.slot 3)]⟩,
 ⟨some 2,none, .val (.move (.slot 4))⟩]
def Collect(k:Sh)(f0:Nat):LFn:=⟨(.seq (.ops (aCj k)) (.seq (.ops (aCi k f0)) .ret)),5,[.slot 2]⟩
abbrev aEJ(k:Sh):List aA:=[
 ⟨some 2,none, .val (.move (.const (.sl k .nil [])))⟩]
abbrev aEI(k:Sh):List aA:=[
 ⟨some 3,none, .val (.move (.slot 0))⟩,
 ⟨some 4,none, .val (.eq false .slice (.slot 3) (.const (.sl k .nil [])))⟩]
abbrev aEH(k:Sh):List aA:=[
 ⟨some 2,none, .val (.move (.const (.sl k .nil [])))⟩]
abbrev aEG(k:Sh)(bs:Nat):List aA:=[
 ⟨some 5,none, .bslice k []⟩,
 ⟨some 6,none, .val (.move (.slot 0))⟩,
 ⟨some 7,none, .append k bs (.slot 5) (.slot 6)⟩,
 ⟨some 2,none, .val (.move (.slot 7))⟩]
def aEK(k:Sh)(bs:Nat):LFn:=⟨(.seq (.ops (aEJ k)) (.seq (.seq (.ops (aEI k)) (.cond (.slot 4) (.seq (.ops (aEH k)) .ret) .skip)) (.seq (.ops (aEG k bs)) .ret))),8,[.slot 2]⟩
abbrev aDg:List aA:=[
 ⟨some 4,none, .val (.move (.const (.int .i64 0)))⟩]
abbrev aDf(f0:Nat):List aA:=[
 ⟨some 7,none, .val (.move (.slot 0))⟩,
 ⟨some 8,none, .call f0 [(.slot 7)]⟩,
 ⟨some 5,none, .val (.move (.slot 8))⟩]
abbrev aDe(f0:Nat):List aA:=[
 ⟨some 9,none, .val (.move (.slot 1))⟩,
 ⟨some 10,none, .call f0 [(.slot 9)]⟩,
 ⟨some 6,none, .val (.move (.slot 10))⟩]
abbrev aDd:List aA:=[
 ⟨some 11,none, .val (.move (.slot 5))⟩]
abbrev aDc:List aA:=[
 ⟨some 12,none, .val (.move (.slot 6))⟩]
abbrev aDb:List aA:=[
 ⟨some 4,none, .val (.move (.const (.int .i64 0)))⟩]
abbrev aDa:List aA:=[
 ⟨some 4,none, .val (.move (.const (.int .i64 (-1))))⟩]
abbrev aDZ:List aA:=[
 ⟨some 13,none, .val (.move (.slot 6))⟩]
abbrev aDY:List aA:=[
 ⟨some 4,none, .val (.move (.const (.int .i64 1)))⟩]
abbrev aDX:List aA:=[
 ⟨some 14,none, .val (.move (.slot 0))⟩,
 ⟨some 15,none, .val (.move (.slot 1))⟩,
 ⟨some 16,none, .val (.bin .lss (.slot 14) (.slot 15))⟩]
abbrev aCn:List aA:=[
 ⟨some 4,none, .val (.move (.const (.int .i64 (-1))))⟩]
abbrev aCm:List aA:=[
 ⟨some 17,none, .val (.move (.slot 0))⟩,
 ⟨some 18,none, .val (.move (.slot 1))⟩,
 ⟨some 19,none, .val (.bin .gtr (.slot 17) (.slot 18))⟩]
abbrev aCl:List aA:=[
 ⟨some 4,none, .val (.move (.const (.int .i64 1)))⟩]
abbrev aCk:List aA:=[
 ⟨some 4,none, .val (.move (.const (.int .i64 0)))⟩]
def aDh(f0:Nat):LFn:=⟨(.seq (.ops aDg) (.seq (.ops (aDf f0)) (.seq (.ops (aDe f0)) (.seq (.seq (.ops aDd) (.cond (.slot 11) (.seq (.seq (.ops aDc) (.cond (.slot 12) (.seq (.ops aDb) .ret) .skip)) (.seq (.ops aDa) .ret)) .skip)) (.seq (.seq (.ops aDZ) (.cond (.slot 13) (.seq (.ops aDY) .ret) .skip)) (.seq (.seq (.ops aDX) (.cond (.slot 16) (.seq (.ops aCn) .ret) .skip)) (.seq (.seq (.ops aCm) (.cond (.slot 19) (.seq (.ops aCl) .ret) .skip)) (.seq (.ops aCk) .ret)))))))),20,[.slot 4]⟩
abbrev aEE:List aA:=[
 ⟨some 2,none, .val (.move (.const (.int .i64 0)))⟩]
abbrev aED:List aA:=[
 ⟨some 3,none, .val (.move (.const (.int .i64 0)))⟩]
abbrev aEC:List aA:=[
 ⟨some 6,none, .val (.move (.slot 0))⟩,
 ⟨some 7,none, .val (.len (.slot 6))⟩,
 ⟨some 8,none, .val (.move (.const (.int .i64 0)))⟩]
abbrev aEB:List aA:=[
 ⟨some 9,none, .val (.bin .lss (.slot 8) (.slot 7))⟩]
abbrev aEA:List aA:=[
 ⟨some 10,none, .val (.idxA .leaf (.slot 6) (.slot 8))⟩,
 ⟨some 11,none, .val (.load .leaf (.slot 10))⟩,
 ⟨some 5,none, .val (.move (.slot 11))⟩]
abbrev aD9:List aA:=[
 ⟨some 12,none, .val (.move (.slot 5))⟩,
 ⟨some 13,none, .val (.move (.slot 3))⟩,
 ⟨some 14,none, .val (.bin .neq (.slot 12) (.slot 13))⟩]
abbrev aD8:List aA:=[
 ⟨some 15,none, .val (.move (.slot 5))⟩,
 ⟨some 2,none, .val (.move (.slot 15))⟩]
abbrev aD7:List aA:=[
 ⟨some 16,none, .val (.bin .add (.slot 8) (.const (.int .i64 1)))⟩,
 ⟨some 8,none, .val (.move (.slot 16))⟩]
abbrev aEF:aS:=(.seq (.ops aEB) (.seq (.cond (.slot 9) .skip (.exit 0)) (.seq (.block 1 (.seq (.ops aEA) (.seq (.ops aD9) (.cond (.slot 14) (.seq (.ops aD8) .ret) .skip)))) (.ops aD7))))
abbrev aD6:List aA:=[
 ⟨some 17,none, .val (.move (.slot 3))⟩,
 ⟨some 2,none, .val (.move (.slot 17))⟩]
def aOE:LFn:=⟨(.seq (.ops aEE) (.seq (.ops aED) (.seq (.seq (.ops aEC) (.block 0 (.loop aEF))) (.seq (.ops aD6) .ret)))),18,[.slot 2]⟩
abbrev aDK:List aA:=[
 ⟨some 2,none, .val (.move (.const (.bool false)))⟩]
abbrev aDJ:List aA:=[
 ⟨some 3,none, .val (.move (.slot 0))⟩,
 ⟨some 4,none, .val (.move (.slot 0))⟩,
 ⟨some 5,none, .val (.bin .neq (.slot 3) (.slot 4))⟩,
 ⟨some 2,none, .val (.move (.slot 5))⟩]
def aCW:LFn:=⟨(.seq (.ops aDK) (.seq (.ops aDJ) .ret)),6,[.slot 2]⟩
end LB
end Go.Proofs.YtlhedpgobaellaaGreatDoor
namespace Go.Proofs.YtlhedpgobaellaaGreatDoor
open Go.RowKit
theorem aO{α:Type}(f:α→V)(l:List α)(k:Nat)(h:k<l.length):(l.map f).getD k (.tup [])=f l[k]:=by
 rw[Kj,List.getElem?_eq_getElem (by simpa using h)];simp
def bG{α:Type}(p:α→Bool)(l:List α):Int:=match l.findIdx? p with
 |some i=>i
 |none=>-1
theorem mK{α:Type}(p:α→Bool)(l:List α):decide (0≤bG p l)=l.any p:=by
 unfold bG;cases hf:l.findIdx? p with
 |none=>
  rw[Kt] at hf;have:l.any p=false:=by
   rw[List.any_eq_false];intro x hx;simp[hf x hx]
  simp[this]
 |some i=>
  rw[Ko] at hf;obtain⟨h1,h2,_⟩:=hf;have:l.any p=true:=KC.2 ⟨l[i],Kp _,h2⟩;simp[this]
section
variable{P:Program}{k:Sh}{α:Type}(e:α→V)(hfit:∀x,(e x).fits k=true)
include hfit
theorem mX{f:Nat}(hL:aE P f=some (LB.aAU k))(p:α→Bool)(own:Own)(l:List α)(g:Nat)(caps:List V)(h:Hp)(hp:∀x∈l,aL P g ([e x]++caps) h (.bool (p x)))(hl:l.length≤1000000000):
 aL P f [.sl k own (l.map e), .fn (.func g) [] caps] h (.int .i64 (bG p l)):=by
 refine aI (fun L=>trivial) fun h' nx hh=>aB hL fun hd=>?_;refine ZK ?_;refine wle trivial ?_;refine tR (fun i:Nat=>i≤l.length∧∀x∈l.take i,p x=false) (fun i=>⟨aD 19 0 [(0, .sl k own (l.map e)),(1, .fn (.func g) [] caps),(7, .int .i64 l.length),(8, .int .i64 i)],h',nx⟩) (fun i=>l.length-i) 0 ⟨Kk _,Zm⟩ ?_ ?_
 ·refine xj (by simp only[WkL,aD,jH,jI,jJ,go_sem,reduceIte,jA,jB,jC,jD,reduceCtorEq,jE,jF]) ?_ ?_
  ·exact Ka _
  omega
 rintro i ⟨hi,hno⟩;refine Zk ?_;refine wl ?_;refine cU _ rfl (fun hc=>?_) (fun hc=>?_)
 ·have hlt:i<l.length:=by simpa using hc
  have hg:=aO e l i hlt;refine wle (ee2 hg hfit) ?_;refine cM rfl (hp l[i] (Kp _)) (by simp only[go_sem,reduceIte,jA,jB,jC,jD,reduceCtorEq,jE,jF]) hh ?_;refine Zn ?_;refine wl ?_;refine cU _ rfl (fun hc=>?_) (fun hc=>?_)
  ·refine wl ?_;refine dE ?_;repeat (first|with_reducible refine lH ?_|with_reducible refine gR ?_|with_reducible refine iO ?_|with_reducible refine iP ?_)
   refine aC h' (Ka _) ⟨?_,rfl⟩;refine Zn ?_;have:l.findIdx? p=some i:=by
    rw[Ko];refine⟨hlt,hc,fun j hj=>?_⟩;have:=hno l[j] (List.mem_take_iff_getElem.2 ⟨j,or,rfl⟩);simp[this]
   simp only[bG,this]
  refine wl ?_;refine mU (i+1) ⟨or,?_⟩ or ?_
  ·intro x hx;rw[Kd hlt,Ki,Ky] at hx;rcases hx with hx|rfl
   ·exact hno x hx
   exact hc
  rw[fI or or];refine xj (by simp only[WkL,aD,jH,jI,jJ,go_sem,reduceIte,jA,jB,jC,jD,reduceCtorEq,jE,jF]) ?_ ?_
  ·exact Ka _
  omega
 have hge:i=l.length:=by have:¬i<l.length:=by simpa using hc
                         omega
 refine pL ?_;repeat (first|with_reducible refine kZ ?_|with_reducible refine jX ?_|with_reducible refine gT ?_|with_reducible refine cD ZM ?_|with_reducible refine fV ?_|with_reducible refine aY ?_)
 refine wl ?_;refine dE (aC h' (Ka _) ⟨?_,rfl⟩);refine Zn ?_;rw[hge,List.take_length] at hno;have:l.findIdx? p=none:=by
  rw[Kt];exact fun x hx=>hno x hx
 simp only[bG,this]
theorem fX{f f0:Nat}(hL:aE P f=some (LB.ContainsFunc k f0))(hL0:aE P f0=some (LB.aAU k))(p:α→Bool)(own:Own)(l:List α)(g:Nat)(caps:List V)(h:Hp)(hp:∀x∈l,aL P g ([e x]++caps) h (.bool (p x)))(hl:l.length≤1000000000):
 aL P f [.sl k own (l.map e), .fn (.func g) [] caps] h (.bool (l.any p)):=by
 refine aI (fun L=>trivial) fun h' nx hh=>aB hL fun hd=>?_;refine ZK ?_;refine wl ?_;refine aJ (mX e hfit hL0 p own l g caps h hp hl) (by simp only[go_sem,reduceIte,jA,jB,jC,jD,reduceCtorEq,jE,jF]) hh ?_;refine Zn ?_;refine wl ?_;refine dE (aC h' (Ka _) ⟨?_,rfl⟩);refine Zn ?_;rw[←mK]
end
section
variable{P:Program}{k:Sh}{α:Type}(e:α→V)(hfit:∀x,(e x).fits k=true)
include hfit
theorem fw{f bs:Nat}{z:V}(hL:aE P f=some (LB.aBI k z bs))(hz:z.fits k=true)(hbs:bs≤140737)(g:Nat)(caps:List V)(hb:Hp)(xs:List α)(hit:s9 P g caps hb (xs.map fun x=>[e x]))(hl:xs.length≤100000000)
 (h':Hp) (nx:Nat) (hh:hb.has h'):
 aR P f [.sl k .nil [], .fn (.func g) [] caps] h' nx fun v h'' _=>(xs=[]∧v= .sl k .nil []∧h''=h')∨(xs≠ []∧∃id,nx≤id∧v= .rs id k 0 xs.length∧h''=h'.set id (.arr k (xs.map e))):=by
 refine aB hL fun hd=>?_;refine ZK ?_;refine wl ?_;have aAc:∀n,nx≤n→h' n=none:=fun n hn=>aV.none hd hn;obtain⟨I,hI⟩:∃I:Nat→Hp→Nat→Prop,∀i h nx1,I i h nx1↔(h'.le h∧∃acc,h nx=some (.arr .leaf [acc])∧((i=0∧acc= .sl k .nil [])∨(0<i∧∃id,nx≤id∧id≠nx∧id≠nx+1∧acc= .rs id k 0 i∧h id=some (.arr k ((xs.take i).map e))))):=⟨_,fun _ _ _=>Iff.rfl⟩;refine lR hit rfl Zm (aV.set hd Zm Zm _) I (fun _ _ _=>False) ?_ ?_ ?_ (fun _ _ _ _ h=>h.elim) (fun _ _ _ _ h=>h.elim) ?_ ?_ ?_ (fun _ _ _ h=>h.elim)
 ·intro i h nx1 hi;exact nN hh (wF ((hI _ _ _).1 hi).1)
 ·exact fun i h nx1 nx2 hi _=>(hI _ _ _).2 ((hI _ _ _).1 hi)
 ·intro i h nx1 b hi;obtain⟨hle,acc,h1,h2⟩:=(hI _ _ _).1 hi;refine(hI _ _ _).2 ⟨gH hle (aAc _ Zm) b,acc,?_,?_⟩
  ·simp only[Kc];rw[if_neg Zm];exact h1
  rcases h2 with h2|⟨hi,id,h3,h4,h5,h6,h7⟩
  ·exact .inl h2
  refine .inr ⟨hi,id,h3,h4,h5,h6,?_⟩;simp only[Kc];rw[if_neg h5];exact h7
 ·exact(hI _ _ _).2 ⟨gH (Ka _) (aAc _ Zm) _, .sl k .nil [],by simp[Kc], .inl ⟨rfl,rfl⟩⟩
 ·intro i hi h nx1 X hii hnx hX hdm;obtain⟨hle,acc,h1,h2⟩:=(hI _ _ _).1 hii;simp only at hnx hX;have hi':i<xs.length:=by simpa using hi
  have aOI:nx<nx1:=or;have e1:(nx=nx1)=False:=by simp;omega
  have e2:(nx+1=nx1)=False:=by simp;omega
  have e4:(nx1=nx+1)=False:=by simp;omega
  have e6:(nx1=nx)=False:=by simp;omega
  have e7:(nx=nx1+2)=False:=by simp;omega
  have e8:(nx+1=nx1+2)=False:=by simp;omega
  have e9:(nx=nx1+3)=False:=by simp;omega
  have e10:(nx+1=nx1+3)=False:=by simp;omega
  have hx:(xs.map fun x=>[e x])[i]=[e xs[i]]:=Zm;simp only[aAQ,hx,List.set_cons_succ,List.set_cons_zero];refine wle (ee5 hz hfit e1 e2 e4) ?_;refine kH (by simp only[e1,e2,e4,go_sem,reduceIte,jA,jB,jC,jD,reduceCtorEq,jE,jF];exact hX) fun X'=>?_;refine Zn ?_;refine bF (bS ?_);have hone:∀(h'':Hp) (nx2 id:Nat),h'.le h''→nx1≤id→h'' nx=some (.arr .leaf [.rs id k 0 (i+1)])→h'' (nx+1)=some X'→h'' id=some (.arr k ((xs.take (i+1)).map e))→∀sl,eW 1 (lK (nx+1) X' (I (i+1)) (fun _ _ _=>False)) .normal ⟨sl,h'',nx2⟩:=by
   intro h'' nx2 id q1 q2 q3 q4 q5 sl;exact aT (fD q4 ((hI _ _ _).2 ⟨q1,_,q3, .inr ⟨or,id,or,or,or,rfl,q5⟩⟩))
  generalize hQ:eW 1 (lK (nx+1) X' (I (i+1)) (fun _ _ _=>False)) .normal=Qn at hone⊢;have aAV:∀n b,nx1≤n→∀{h2:Hp},h'.le h2→h'.le (h2.set n b):=fun n b hn h2 q=>gH q (aAc n or) b;have aCq:∀n,nx≤n→∀{h2:Hp},h'.le h2→∀b,h'.le (h2.set n b):=fun n hn h2 q b=>gH q (aAc n hn) b;rcases h2 with⟨rfl,rfl⟩|⟨aAg,id,h3,h4,h5,rfl,h7⟩
  ·refine qO 3 rfl (by simp only[h1,hfit,hz,e1,e2,e4,e6,go_sem,reduceIte,jA,jB,jC,jD,reduceCtorEq,jE,jF]) ?_;simp only[h1,hfit,hz,e1,e2,e4,e6,go_sem,reduceIte,jA,jB,jC,jD,reduceCtorEq,jE,jF];refine eY rfl rfl Zm (by simp only[jL,jM];omega) ?_;refine bZ rfl (by simp only[h1,hfit,hz,e1,e2,e4,e6,e7,e8,e9,e10,go_sem,reduceIte,jA,jB,jC,jD,reduceCtorEq,jE,jF];try omega) ?_;simp only[h1,hfit,hz,e1,e2,e4,e6,e7,e8,e9,e10,go_sem,reduceIte,jA,jB,jC,jD,reduceCtorEq,jE,jF];refine hone _ _ (nx1+3) ?_ or ?_ ?_ ?_ _
   ·repeat (first|exact hle|refine aCq _ or ?_ _)
   ·simp only[h1,e1,e2,e4,e6,e7,e8,e9,e10,go_sem,reduceIte,jA,jB,jC,jD,reduceCtorEq,jE,jF]
   ·simp only[h1,e1,e2,e4,e6,e7,e8,e9,e10,go_sem,reduceIte,jA,jB,jC,jD,reduceCtorEq,jE,jF]
   have:xs.take (0+1)=[xs[0]]:=by
    cases xs with
    |nil=>simp at hi'
    |cons x l=>simp
   rw[this];simp only[Kg,KH,go_sem,reduceIte,jA,jB,jC,jD,reduceCtorEq,jE,jF];have:(nx1+3=nx)=False:=by simp;omega
   simp only[this,go_sem,reduceIte,jA,jB,jC,jD,reduceCtorEq,jE,jF]
  have hid:id<nx1:=hdm _ _ h7;have f1:(id=nx1)=False:=by simp;omega
  have f2:(id=nx1+2)=False:=by simp;omega
  have f3:(id=nx)=False:=by simp;omega
  have f4:(id=nx+1)=False:=by simp;omega
  have f5:(id=nx1+3)=False:=by simp;omega
  have f6:(nx=id)=False:=by simp;omega
  have f7:(nx+1=id)=False:=by simp;omega
  have f8:(nx1+3=id)=False:=by simp;omega
  have hlen:((xs.take i).map e).length=i:=by simp;omega
  have hb1:(i+1)*bs≤140737488355328:=qY or hbs;refine bZ rfl (by simp only[h1,h7,hlen,hb1,hfit,hz,e1,e2,e4,e6,e7,e8,e9,e10,f1,f2,f3,f4,f5,f6,f7,f8,go_sem,reduceIte,jA,jB,jC,jD,reduceCtorEq,jE,jF];try omega) ?_;simp only[h1,h7,hlen,hb1,hfit,hz,e1,e2,e4,e6,e7,e8,e9,e10,f1,f2,f3,f4,f5,f6,f7,f8,go_sem,reduceIte,jA,jB,jC,jD,reduceCtorEq,jE,jF];refine hone _ _ (nx1+3) ?_ or ?_ ?_ ?_ _
  ·repeat (first|exact hle|refine aCq _ or ?_ _|refine kK ?_ (aAc _ h3))
  ·simp only[h1,e1,e2,e4,e6,e7,e8,e9,e10,go_sem,reduceIte,jA,jB,jC,jD,reduceCtorEq,jE,jF]
  ·simp only[h1,e1,e2,e4,e6,e7,e8,e9,e10,f6,f7,go_sem,reduceIte,jA,jB,jC,jD,reduceCtorEq,jE,jF]
  have:(nx1+3=nx)=False:=by simp;omega
  rw[Kd hi',List.map_append];simp only[this,Kg,KH,go_sem,reduceIte,jA,jB,jC,jD,reduceCtorEq,jE,jF]
 intro h nx1 hii hnx hdm;obtain⟨hle,acc,h1,h2⟩:=(hI _ _ _).1 hii;simp only at hnx;have e1:(nx=nx+1)=False:=Zm;refine wle (ee2 h1 e1) ?_;rcases h2 with⟨h2,rfl⟩|⟨aAg,id,h3,h4,h5,rfl,h7⟩
 ·refine dE (aC h' ?_ (.inl ⟨?_,?_,rfl⟩))
  ·exact kK hle (aAc _ Zm)
  ·cases xs with
   |nil=>rfl
   |cons x l=>simp at h2
  simp only[go_sem,reduceIte,jA,jB,jC,jD,reduceCtorEq,jE,jF]
 have hne:xs≠ []:=by rintro rfl;simp at aAg
 refine dE (aC (h'.set id (.arr k (xs.map e))) ?_ (.inr ⟨hne,id,h3,?_,rfl⟩))
 ·refine vW (kK hle (aAc _ Zm)) ?_;simp only[Hp.aAp];rw[if_neg h5,h7];simp
 simp only[jK,go_sem,reduceIte,jA,jB,jC,jD,reduceCtorEq,jE,jF]
theorem r9{f f0 bs:Nat}{z:V}(hL:aE P f=some (LB.Collect k f0))(hL0:aE P f0=some (LB.aBI k z bs))(hz:z.fits k=true)(hbs:bs≤140737)(g:Nat)(caps:List V)(hb:Hp)(xs:List α)(hit:s9 P g caps hb (xs.map fun x=>[e x]))(hl:xs.length≤100000000)
 (h':Hp) (nx:Nat) (hh:hb.has h'):
 aR P f [.fn (.func g) [] caps] h' nx fun v h'' _=>(xs=[]∧v= .sl k .nil []∧h''=h')∨(xs≠ []∧∃id,nx≤id∧v= .rs id k 0 xs.length∧h''=h'.set id (.arr k (xs.map e))):=by
 refine aB hL fun hd=>?_;refine ZK ?_;refine wl ?_;refine aU ((fw e hfit hL0 hz hbs g caps hb xs hit hl _ _ hh).mono ?_);intro v h'' nx' hnx hv;unfold bT;refine Zn ?_;refine wl ?_;exact dE (aC h'' (Ka _) hv)
end
end Go.Proofs.YtlhedpgobaellaaGreatDoor
namespace Go.Proofs.YtlhedpgobaellaaGreatDoor
open Go.RowKit Go.Sort Go.Shelf Go.Lib
theorem VR.refro{K:Ker}{F:Nat→Prop}(hF:∀b,K.fro b→F b){v:V}{cv:Value}(r:VR K v cv):VR {K with fro:=F} v cv:=by
 have st:∀b o,K.still b o→Ker.still {K with fro:=F} b o:=fun b o h=>h.elim (fun h=> .inl (hF b h)) .inr;induction r with
 |bool b=>exact .bool b
 |int k n=>exact .int k n
 |str s=>exact .str s
 |nilPtr=>exact .nilPtr
 |ptr n k i o hn=>exact .ptr (K:={K with fro:=F}) n k i o hn
 |ept k es i o b off f hb hfit hcell hst hv ih=>exact .ept (K:={K with fro:=F}) k es i o b off f hb hfit hcell (fun j hj=>st _ _ (hst j hj)) ih
 |slnil k=>exact .slnil k
 |slz k a=>exact .slz k a
 |sl k own es b off cap f hb hfit hcell hst hv hcap hnil hfull htok ih=>exact .sl (K:={K with fro:=F}) k own es b off cap f hb hfit hcell (fun j hj=>st _ _ (hst j hj)) ih hcap hnil hfull htok
 |rs n k off len cap hn hcap hm=>exact .rs (K:={K with fro:=F}) n k off len cap hn hcap hm
 |aAH=>exact .aAH
 |map n hn=>exact .map (K:={K with fro:=F}) n hn
 |aAL=>exact .aAL
 |chan n hn=>exact .chan (K:={K with fro:=F}) n hn
 |fn f first cap cfirst ccap h1 h2 _ _ v1 v2=>exact .fn f first cap cfirst ccap h1 h2 v1 v2
 |aAT=>exact .aAT
 |yld n hn=>exact .yld (K:={K with fro:=F}) n hn
 |iface t v cv _ ih=>exact .iface t v cv ih
 |nilIface=>exact .nilIface
 |agg cs ccs hl _ ih=>exact .agg cs ccs hl ih
 |tup cs ccs hl _ ih=>exact .tup cs ccs hl ih
 |top cv=>exact .top cv
theorem AG{w w':World}(h:nQ (fun b=>b<w.heap.size) w w'):∃q os',w'=grow (w.drewN q) os':=by
 refine⟨w'.drawn-w.drawn,w'.heap.extract w.heap.size w'.heap.size,?_⟩;obtain⟨h1,h2,h3,h4,h5,h6⟩:=h;obtain⟨heap,tape,drawn,os,output⟩:=w;obtain⟨aO5,aVq,aVn,os',aOW⟩:=w';simp only at h1 h2 h3 h4 h5 h6;subst h1 h2 h3;unfold grow World.drewN;simp only[World.mk.injEq,and_true,true_and];refine⟨?_,or⟩;apply Array.ext_getElem?;intro i;by_cases hi:i<heap.size
 ·rw[h6 i hi (.inl hi),Array.getElem?_append_left hi]
 rw[Array.getElem?_append_right or,Kv];by_cases hi2:i<aO5.size
 ·rw[if_pos or];congr 1;omega
 rw[if_neg or,Array.getElem?_eq_none or]
theorem oi{α β:Type}(f:α→β){cf:β→β→Int}(h:SWO (ltOf cf)):SWO (ltOf fun x y:α=>cf (f x) (f y)):=
 ⟨fun x=>h.irrefl (f x),fun x y z=>h.trans (f x) (f y) (f z),fun x y z=>h.ntrans (f x) (f y) (f z)⟩
def d9{δ:Type}(cf:δ→δ→Int)(l:List δ):Prop:=l.Pairwise fun x y=>ltOf cf y x=false
end Go.Proofs.YtlhedpgobaellaaGreatDoor
namespace Go.Proofs.YtlhedpgobaellaaGreatDoor
open Go.RowKit Go.Sort Go.Shelf Go.Lib
def lst(k:Sh)(es:List V):V:=if es.isEmpty=true then .sl k .nil [] else .sl k .free es
theorem B5(k:Sh)(e:V)(es:List V):lst k (e::es)= .sl k .free (e::es):=rfl
theorem lA{k:Sh}{es:List V}(h:∀L,bQ L es)(L:Nat→Prop):(lst k es).names L:=by
 unfold lst;split<;>simp[V.names,h L,bQ]
theorem fH(k:Sh)(es:List V):∃own,lst k es= .sl k own es:=by
 cases es with
 |nil=>exact⟨.nil,rfl⟩
 |cons e es=>exact⟨.free,rfl⟩
def ed(nx:Nat)(h:Hp)(k:Sh)(es:List V)(v:V)(h':Hp):Prop:=
 (es=[]∧v= .sl k .nil []∧h'=h)∨(es≠ []∧∃id,nx≤id∧v= .sl k (.tok id) es∧h'=h.set id .tip)
def nf(nx:Nat)(h:Hp)(k:Sh)(es:List V)(v:V)(h':Hp):Prop:=
 (es=[]∧v= .sl k .nil []∧h'=h)∨(es≠ []∧∃id,nx≤id∧v= .rs id k 0 es.length∧h'=h.set id (.arr k es))
theorem ed.loose{nx:Nat}{h:Hp}{k:Sh}{es:List V}{v:V}{h':Hp}(f:ed nx h k es v h'):v.loose=lst k es:=by
 rcases f with⟨rfl,rfl,_⟩|⟨hne,id,_,rfl,_⟩
 ·rfl
 cases es with
 |nil=>exact absurd rfl hne
 |cons=>rfl
theorem ed.le{nx:Nat}{h:Hp}{k:Sh}{es:List V}{v:V}{h':Hp}(f:ed nx h k es v h')(hd:aV h nx):h.le h':=by
 rcases f with⟨_,_,rfl⟩|⟨_,id,hid,_,rfl⟩
 ·exact Ka _
 exact gH (Ka _) (hd.none hid) _
theorem aR.conv{P:Program}{f:FuncId}{args:List V}{h:Hp}{nx:Nat}{R R':V→Hp→Nat→Prop}(c:aR P f args h nx R)(hc:∀v h' nx',nx≤nx'→aV h' nx'→R v h' nx'→∃h2,h2.le h'∧R' v.loose h2 nx'):aR P f args h nx R':=by
 refine⟨c.1,fun K cargs hl hr hv=>(c.2 K cargs hl hr hv).mono ?_⟩;rintro e w' ⟨K',v,cv,h',nx',rfl,he,hle,hvr,hrel,hlv,hnx,hR⟩;obtain⟨h2,q1,q2⟩:=hc v h' nx' hnx (fun m b hm=>(hlv m (hrel.lt m b hm)).1) hR;exact⟨K',v.loose,cv,h2,nx',rfl,he,hle,hvr.loose,hrel.weaken q1,hlv,hnx,q2⟩
theorem fE{P:Program}{f:FuncId}{args:List V}{h:Hp}{v:V}(hv:∀L,v.names L)(hc:∀h' nx,h.has h'→aR P f args h' nx fun v' h'' _=>v'.loose=v∧h'.le h''):aL P f args h v:=
 aI hv fun h' nx hh=>(hc h' nx hh).conv fun v' h'' nx' _ _ hq=>⟨h',hq.2,hq.1,rfl⟩
theorem aR.aF9{P:Program}{f:FuncId}{args:List V}{h:Hp}{nx:Nat}{k:Sh}{G:List V→Prop}
 (c:aR P f args h nx fun v h' _=>∃es,G es∧nf nx h k es v h'):aR P f args h nx fun v h' _=>∃es,G es∧ed nx h k es v h':=by
 refine⟨c.1,fun K cargs hl hr hv=>(c.2 K cargs hl hr hv).mono ?_⟩;rintro e w' ⟨K',v,cv,h',nx',rfl,he,hle,hvr,hrel,hlv,hnx,es,hG,(⟨rfl,rfl,rfl⟩|⟨hne,n,hn,rfl,rfl⟩)⟩
 ·exact⟨K',_,cv,_,nx',rfl,he,hle,hvr,hrel,hlv,hnx,[],hG, .inl ⟨rfl,rfl,rfl⟩⟩
 have hfr:¬K'.live nx':=fun hh=>Nat.lt_irrefl _ (hlv nx' hh).1;have aAP:(h.set n (.arr k es)) n=some (.arr k es):=by simp[Hp.set]
 obtain⟨K'',q1,q2,q3,q4,q5⟩:=freeze hrel aAP hfr hvr;have aBJ:h n=none:=by
  cases hd:h n with
  |none=>rfl
  |some b=>exact absurd (hl n (hr.lt n b hd)) or
 have hh:((h.set n (.arr k es)).del n).set nx' .tip=h.set nx' .tip:=by
  funext x;unfold Hp.set Hp.del;by_cases e1:x=nx'
  ·simp[e1]
  by_cases e2:x=n
  ·subst e2;simp[e1,aBJ]
  simp[e1,e2]
 rw[hh] at q5;refine⟨K'',_,cv,_,nx'+1,q1,he,hle.trans q2,q4,q5,fun m hm=>?_,or,es,hG, .inr ⟨hne,nx',hnx,rfl,rfl⟩⟩;rcases q3 m hm with hm|rfl
 ·exact⟨by have:=(hlv m hm).1;omega,(hlv m hm).2⟩
 exact⟨or, .inr hnx⟩
theorem fa{P:Program}{ρ:Ren}(L:SlLaysF0.n6 P ρ)(hen:iY P (ρ.f 6)=true)(k:Sh)(fv:V)(h:Hp)(nx:Nat):aR P (ρ.f 6) [.sl k .nil [],fv] h nx fun v h' nx'=>v= .tup []∧h'=h:=by
 refine⟨hen,fun K cargs hlv hr hv=>?_⟩;obtain⟨hsz,hv⟩:=hv;have hsz:cargs.size=2:=by simpa using hsz.symm
 obtain⟨c1,c2,rfl⟩:∃c1 c2,cargs=#[c1,c2]:=⟨cargs[0],cargs[1],by
  apply Array.ext
  ·simp[hsz]
  intro i h1 h2;have:i=0∨i=1:=by simp at h2;omega
  rcases this with rfl|rfl<;>rfl⟩
 have v1:VR K (.sl k .nil []) c1:=hv 0 Zm;cases v1 with
 |sl _ _ _ b off cap f hb hfit hcell hst hv hcap hnil hfull htok=>exact absurd rfl hnil
 |slnil=>
  refine(AnyF.slices_SortFunc_none L none 0 c2 K.w).mono ?_;rintro e w' ⟨rfl,rfl⟩;exact⟨K, .tup [], .tuple #[],h,nx,rfl,rfl, .refl K, .tup [] #[] rfl (fun i hi=>absurd hi Zm),hr,fun n hn=>⟨hlv n hn, .inl hn⟩,Ke _,rfl,rfl⟩
section
variable{P:Program}{α:Type}(e:α→V)
end
end Go.Proofs.YtlhedpgobaellaaGreatDoor
namespace Go.Proofs.YtlhedpgobaellaaGreatDoor
open Go.RowKit
def rC(a b:Int):Int:=if a<b then-1 else if b<a then 1 else 0
theorem jk{P:Program}{f:Nat}(hL:aE P f=some LB.aCW)(a:Int)(h:Hp):aL P f [.int .i64 a] h (.bool false):=by
 refine aI (fun L=>trivial) fun h' nx hh=>aB hL fun hd=>?_;refine ZK ?_;refine wl ?_;refine dE (aC h' (Ka _) ⟨?_,rfl⟩);simp[bne]
theorem df{P:Program}{f f0:Nat}(hL:aE P f=some (LB.aDh f0))(hL0:aE P f0=some LB.aCW)(a b:Int)(h:Hp):aL P f [.int .i64 a, .int .i64 b] h (.int .i64 (rC a b)):=by
 refine aI (fun L=>trivial) fun h' nx hh=>aB hL fun hd=>?_;refine ZK ?_;refine wl ?_;refine aJ (jk hL0 a _) rfl (aH _) ?_;refine Zn ?_;refine wl ?_;refine aJ (jk hL0 b _) rfl (aH _) ?_;refine Zn ?_;refine wl ?_;refine cU _ rfl (fun hc=>?_) (fun hc=>?_)
 ·cases hc
 refine wl ?_;refine cU _ rfl (fun hc=>?_) (fun hc=>?_)
 ·cases hc
 refine wl ?_;refine cU _ rfl (fun hc=>?_) (fun hc=>?_)
 ·refine wl ?_;refine dE ?_;repeat (first|with_reducible refine lH ?_|with_reducible refine gR ?_|with_reducible refine iO ?_|with_reducible refine iP ?_)
  refine aC h' (Ka _) ⟨?_,rfl⟩;have:a<b:=by simpa using hc
  simp only[rC,if_pos this,go_sem,reduceIte,jA,jB,jC,jD,reduceCtorEq,jE,jF]
 refine wl ?_;have h1:¬a<b:=by simpa using hc
 refine cU _ rfl (fun hc2=>?_) (fun hc2=>?_)
 ·refine wl ?_;refine dE ?_;repeat (first|with_reducible refine lH ?_|with_reducible refine gR ?_|with_reducible refine iO ?_|with_reducible refine iP ?_)
  refine aC h' (Ka _) ⟨?_,rfl⟩;have:b<a:=by simpa using hc2
  simp only[rC,if_neg h1,if_pos this,go_sem,reduceIte,jA,jB,jC,jD,reduceCtorEq,jE,jF]
 refine wl ?_;have h2:¬b<a:=by simpa using hc2
 refine dE (aC h' (Ka _) ⟨?_,rfl⟩);simp only[rC,if_neg h1,if_neg h2,go_sem,reduceIte,jA,jB,jC,jD,reduceCtorEq,jE,jF]
def orI:List Int→Int
 | []=>0
 |x::l=>if x=0 then orI l else x
theorem Ao{P:Program}{f:Nat}(hL:aE P f=some LB.aOE)(own:Own)(l:List Int)(hl:l.length≤1000000000)(h:Hp):aL P f [.sl .leaf own (l.map (V.int .i64))] h (.int .i64 (orI l)):=by
 refine aI (fun L=>trivial) fun h' nx hh=>aB hL fun hd=>?_;refine ZK ?_;refine wle trivial ?_;refine tR (fun i:Nat=>i≤l.length∧orI l=orI (l.drop i)) (fun i=>⟨aD 18 0 [(0, .sl .leaf own (l.map (V.int .i64))),(3, .int .i64 0),(6, .sl .leaf own (l.map (V.int .i64))),(7, .int .i64 l.length),(8, .int .i64 i)],h',nx⟩) (fun i=>l.length-i) 0 ⟨Kk _,Zm⟩ ?_ ?_
 ·refine xj (by simp only[WkL,aD,jH,jI,jJ,go_sem,reduceIte,jA,jB,jC,jD,reduceCtorEq,jE,jF]) ?_ ?_
  ·exact Ka _
  omega
 rintro i ⟨hi,hno⟩;refine Zk ?_;refine wl ?_;refine cU _ rfl (fun hc=>?_) (fun hc=>?_)
 ·have hlt:i<l.length:=by simpa using hc
  have hg:=aO (V.int .i64) l i hlt;refine wle hg ?_;rw[List.drop_eq_getElem_cons hlt] at hno;refine cU _ rfl (fun hc=>?_) (fun hc=>?_)
  ·refine wl ?_;refine dE ?_;repeat (first|with_reducible refine lH ?_|with_reducible refine gR ?_|with_reducible refine iO ?_|with_reducible refine iP ?_)
   refine aC h' (Ka _) ⟨?_,rfl⟩;have:l[i]≠0:=by simpa using hc
   simp only[hno,orI,if_neg this,go_sem,reduceIte,jA,jB,jC,jD,reduceCtorEq,jE,jF]
  refine wl ?_;have:l[i]=0:=by simpa using hc
  refine mU (i+1) ⟨or,by rw[hno];simp[orI,this]⟩ or ?_;rw[fI or or];refine xj (by simp only[WkL,aD,jH,jI,jJ,go_sem,reduceIte,jA,jB,jC,jD,reduceCtorEq,jE,jF]) ?_ ?_
  ·exact Ka _
  omega
 have hge:i=l.length:=by have:¬i<l.length:=by simpa using hc
                         omega
 refine pL ?_;repeat (first|with_reducible refine kZ ?_|with_reducible refine jX ?_|with_reducible refine gT ?_|with_reducible refine cD ZM ?_|with_reducible refine fV ?_|with_reducible refine aY ?_)
 refine wl ?_;refine dE (aC h' (Ka _) ⟨?_,rfl⟩);refine Zn ?_;rw[hno,hge,List.drop_length];rfl
section
variable{P:Program}{k:Sh}{α:Type}(e:α→V)(hfit:∀x,(e x).fits k=true)
include hfit
end
def FB(k:Sh)(own:Own)(es:List V)(nx:Nat)(h:Hp)(v:V)(h':Hp):Prop:=(own= .nil∧v= .sl k .nil []∧h'=h)∨(own≠ .nil∧∃id,nx≤id∧v= .sl k (.tok id) es∧h'=h.set id .tip)
theorem sb{P:Program}{k:Sh}{f bs:Nat}(hL:aE P f=some (LB.aEK k bs))(hbs:bs≤140737)(own:Own)(es:List V)(hl:es.length≤1000000000)(hn:own= .nil→es=[])(h:Hp)(nx:Nat):
 aR P f [.sl k own es] h nx fun v h' _=>FB k own es nx h v h':=by
 refine aB hL fun hd=>?_;refine ZK ?_;refine wl ?_;by_cases ho:own= .nil
 ·subst ho;refine cU _ rfl (fun hc=>?_) (fun hc=>?_)
  ·refine wl ?_;refine dE ?_;repeat (first|with_reducible refine lH ?_|with_reducible refine gR ?_|with_reducible refine iO ?_|with_reducible refine iP ?_)
   refine aC h (Ka _) (.inl ⟨rfl,?_,rfl⟩);simp only[go_sem,reduceIte,jA,jB,jC,jD,reduceCtorEq,jE,jF]
  cases hc
 refine cU _ rfl (fun hc=>?_) (fun hc=>?_)
 ·exact absurd (by simpa using hc) ho
 have hb1:es.length*bs≤140737488355328:=qY hl hbs;repeat (first|with_reducible refine bK ?_|with_reducible refine bF ?_|with_reducible refine bY ?_|with_reducible refine aY ?_|with_reducible refine aT ?_|with_reducible refine bS ?_|(refine bZ rfl (by simp only[dB,hb1,go_sem,reduceIte,jA,jB,jC,jD,reduceCtorEq,jE,jF];try omega) ?_;simp only[dB,hb1,go_sem,reduceIte,jA,jB,jC,jD,reduceCtorEq,jE,jF])|(with_reducible refine bM ?_))
 refine dE (aC (h.set (nx+1) .tip) ?_ (.inr ⟨ho,nx+1,or,?_,rfl⟩))
 ·intro m b e;have hm:∀b,h m=some b→m<nx:=fun b hb=>hd m b hb;simp only[Kc,Hp.aAp] at e⊢;split at e
  ·rename_i e1;rw[if_pos e1];exact e
  rename_i e1;have:=hm _ e;rw[if_neg e1,if_neg or,if_neg or];exact e
 simp only[go_sem,reduceIte,jA,jB,jC,jD,reduceCtorEq,jE,jF]
theorem dg{P:Program}{k:Sh}{f bs:Nat}(hL:aE P f=some (LB.aEK k bs))(hbs:bs≤140737)(own:Own)(es:List V)(hl:es.length≤1000000000)(hn:own= .nil→es=[])(hnm:∀L,bQ L es)(h:Hp):
 aL P f [.sl k own es] h (V.sl k own es).loose:=by
 refine fE (fun L=>by cases own<;>simp[V.loose,V.names,hnm L,bQ]) fun h' nx hh=>?_;have c:=sb hL hbs own es hl hn h' nx;refine⟨c.1,fun K cargs hlv hr hv=>((c.mono (R':=fun v' h'' _=>v'.loose=(V.sl k own es).loose∧h'.le h'') ?_).2 K cargs hlv hr hv)⟩;rintro v h'' nx' hnx (⟨rfl,rfl,rfl⟩|⟨ho,id,hid,rfl,rfl⟩)
 ·have he:=hn rfl;subst he;exact⟨rfl,Ka _⟩
 refine⟨(by cases own<;>first|exact absurd rfl ho|rfl),gH (Ka _) (aV.none (fun m b hm=>hlv m (hr.lt m b hm)) hid) _⟩
end Go.Proofs.YtlhedpgobaellaaGreatDoor
namespace Go.Proofs.YtlhedpgobaellaaGreatDoor
open Go.RowKit Go.Sort
structure C3{α:Type}(c:α→α→Int):Prop where
 eq:∀x y,c x y=0↔x=y
 aCB:∀x y,c x y<0↔0<c y x
 trans:∀x y z,c x y<0→c y z<0→c x z<0
section
variable{α β:Type}
def orC(a b:Int):Int:=if a=0 then b else a
theorem C3.self{c:α→α→Int}(h:C3 c)(x:α):c x x=0:=(h.eq x x).2 rfl
theorem C3.pos{c:α→α→Int}(h:C3 c){x y:α}(k:c x y≠0)(k2:¬c x y<0):c y x<0:=(h.aCB y x).2 or
theorem C3.lex{c:α→α→Int}{d:β→β→Int}(hc:C3 c)(hd:C3 d):C3 fun x y:α×β=>orC (c x.1 y.1) (d x.2 y.2) where
 eq x y:=by
  unfold orC;split
  ·rename_i h;rw[hd.eq,Prod.ext_iff,(hc.eq _ _).1 h];simp
  rename_i h;refine⟨fun e=>absurd e h,fun e=>absurd ((hc.eq _ _).2 (by rw[e])) h⟩
 aCB x y:=by
  unfold orC;by_cases h:c x.1 y.1=0
  ·have e:=(hc.eq _ _).1 h;rw[if_pos h,if_pos (by rw[e];exact hc.self _)];exact hd.aCB _ _
  have e:c y.1 x.1≠0:=fun e=>h ((hc.eq _ _).2 ((hc.eq _ _).1 e).symm);rw[if_neg h,if_neg e];exact hc.aCB _ _
 trans x y z:=by
  unfold orC;by_cases h:c x.1 y.1=0
  ·rw[if_pos h,(hc.eq _ _).1 h];by_cases h2:c y.1 z.1=0
   ·rw[if_pos h2,if_pos h2];exact hd.trans _ _ _
   rw[if_neg h2,if_neg h2];exact fun _ h=>h
  rw[if_neg h];intro h1;by_cases h2:c y.1 z.1=0
  ·rw[if_pos h2];intro _;have e:=(hc.eq _ _).1 h2;rw[←e,if_neg h];exact h1
  rw[if_neg h2];intro h3;have:=hc.trans _ _ _ h1 h3;rw[if_neg or];exact this
theorem C3.on{c:β→β→Int}(hc:C3 c){f:α→β}(hf:∀x y,f x=f y→x=y):C3 fun x y=>c (f x) (f y):=
 ⟨fun x y=>(hc.eq _ _).trans ⟨hf x y,fun e=>by rw[e]⟩,fun x y=>hc.aCB _ _,fun x y z=>hc.trans _ _ _⟩
def dZ(c:α→α→Int):List α→List α→Int
 | [],[]=>0
 | [],_::_=>-1
 |_::_,[]=>1
 |a::x,b::y=>orC (c a b) (dZ c x y)
theorem zc{c:α→α→Int}(h:C3 c):∀x y,dZ c x y=0↔x=y
 | [],[]=>by simp[dZ]
 | [],_::_=>by simp[dZ]
 |_::_,[]=>by simp[dZ]
 |a::x,b::y=>by
  unfold dZ orC;split
  ·rename_i e;rw[zc h x y,(h.eq _ _).1 e];simp
  rename_i e;refine⟨fun k=>absurd k e,fun k=>absurd ((h.eq _ _).2 (by injection k)) e⟩
theorem jx{c:α→α→Int}(h:C3 c):∀x y,dZ c x y<0↔0<dZ c y x
 | [],[]=>by simp[dZ]
 | [],_::_=>by simp[dZ]
 |_::_,[]=>by simp[dZ]
 |a::x,b::y=>by
  unfold dZ orC;by_cases k:c a b=0
  ·have e:=(h.eq _ _).1 k;rw[if_pos k,if_pos (by rw[e];exact h.self _)];exact jx h x y
  rw[if_neg k,if_neg fun e=>k ((h.eq _ _).2 ((h.eq _ _).1 e).symm)];exact h.aCB _ _
theorem de{c:α→α→Int}(h:C3 c):∀x y z,dZ c x y<0→dZ c y z<0→dZ c x z<0
 | [],[],_=>by simp[dZ]
 |_::_,[],_=>by simp[dZ]
 | [],_::_,[]=>by simp[dZ]
 | [],_::_,_::_=>by simp[dZ]
 |_::_,_::_,[]=>by simp[dZ]
 |a::x,b::y,d::z=>by
  unfold dZ orC;by_cases k:c a b=0
  ·rw[if_pos k,(h.eq _ _).1 k];by_cases k2:c b d=0
   ·rw[if_pos k2,if_pos k2];exact de h x y z
   rw[if_neg k2,if_neg k2];exact fun _ h=>h
  rw[if_neg k];intro h1;by_cases h2:c b d=0
  ·rw[if_pos h2];intro _;rw[←(h.eq _ _).1 h2,if_neg k];exact h1
  rw[if_neg h2];intro h3;have:=h.trans _ _ _ h1 h3;rw[if_neg or];exact this
theorem C3.list{c:α→α→Int}(h:C3 c):C3 (dZ c):=⟨zc h,jx h,de h⟩
theorem C3.swo{c:α→α→Int}(h:C3 c):SWO (ltOf c) where
 irrefl x:=by simp[ltOf,h.self]
 trans x y z:=by simp only[ltOf,decide_eq_true_eq];exact h.trans x y z
 ntrans x y z:=by
  simp only[ltOf,decide_eq_false_iff_not];intro h1 h2 h3;by_cases e1:c x y=0
  ·rw[(h.eq _ _).1 e1] at h3;exact h2 h3
  by_cases e2:c y z=0
  ·rw[←(h.eq _ _).1 e2] at h3;exact h1 h3
  have:=h.trans _ _ _ h3 (h.pos e2 h2);have h4:=(h.aCB _ _).1 this;exact h1 ((h.aCB _ _).2 (by have:=(h.aCB y x).1 (h.pos e1 h1);have:=(h.aCB _ _).1 (h.trans _ _ _ h3 (h.pos e2 h2));have:=(h.aCB _ _).1 (h.pos e1 h1);omega))
def Str(c:α→α→Int)(l:List α):Prop:=l.Pairwise fun x y=>c x y<0
theorem xu{c:α→α→Int}(h:C3 c){a b:List α}(ha:Str c a)(hb:Str c b)(hm:∀x,x∈a↔x∈b):a=b:=by
 have na:a.Nodup:=ha.imp fun{x y} k e=>by rw[e,h.self] at k;omega
 have nb:b.Nodup:=hb.imp fun{x y} k e=>by rw[e,h.self] at k;omega
 refine List.Perm.eq_of_pairwise (le:=fun x y=>c x y<0) (fun x y _ _ h1 h2=>?_) ha hb ((List.perm_ext_iff_of_nodup na nb).2 hm);have:=(h.aCB _ _).1 h1;omega
def kT(c:α→α→Int)(x:α):List α→List α
 | []=>[x]
 |y::l=>if c x y<0 then x::y::l else if c x y=0 then y::l else y::kT c x l
theorem uT{c:α→α→Int}(h:C3 c)(x z:α):∀l,z∈kT c x l↔z=x∨z∈l
 | []=>by simp[kT]
 |y::l=>by
  unfold kT;split
  ·simp
  split
  ·rename_i e;rw[(h.eq _ _).1 e];simp
  simp only[Kh,uT h x z l];constructor
  ·rintro(a|a|a)<;>simp[a]
  rintro(a|a|a)<;>simp[a]
theorem tZ{c:α→α→Int}(h:C3 c)(x:α):∀l,Str c l→Str c (kT c x l)
 | [],_=>by simp[kT,Str]
 |y::l,hs=>by
  have⟨h1,h2⟩:=Kf.1 hs;unfold kT;split
  ·rename_i k;exact Kf.2 ⟨fun z hz=>by
    rcases Kh.1 hz with rfl|hz
    ·exact k
    exact h.trans _ _ _ k (h1 z hz),hs⟩
  split
  ·exact hs
  rename_i k1 k2;refine Kf.2 ⟨fun z hz=>?_,tZ h x l h2⟩;rcases(uT h x z l).1 hz with rfl|hz
  ·exact h.pos k2 k1
  exact h1 z hz
def mS(c:α→α→Int)(l:List α):List α:=l.foldl (fun a x=>kT c x a) []
theorem ia(c:α→α→Int)(l:List α)(x:α):mS c (l++[x])=kT c x (mS c l):=by simp[mS]
theorem iN{c:α→α→Int}(h:C3 c)(l:List α):Str c (mS c l)∧∀z,z∈mS c l↔z∈l:=by
 suffices∀(l a:List α),Str c a→Str c (l.foldl (fun a x=>kT c x a) a)∧∀z,z∈l.foldl (fun a x=>kT c x a) a↔z∈l∨z∈a by
  have:=this l [] List.Pairwise.nil;exact⟨this.1,fun z=>by rw[mS,this.2 z];simp⟩
 intro l;induction l with
 |nil=>exact fun a ha=>⟨ha,fun z=>Zm⟩
 |cons x l ih=>
  intro a ha;obtain⟨h1,h2⟩:=ih _ (tZ h x a ha);refine⟨h1,fun z=>?_⟩;rw[List.foldl_cons,h2,uT h];simp only[Kh];constructor
  ·rintro(a|a|a)<;>simp[a]
  rintro((a|a)|a)<;>simp[a]
theorem x5{c:α→α→Int}(h:C3 c){a l:List α}(ha:Str c a)(hm:∀z,z∈a↔z∈l):a=mS c l:=
 xu h ha (iN h l).1 fun z=>by rw[hm,(iN h l).2]
theorem BC{c:α→α→Int}(h:C3 c){a b:List α}(hm:∀z,z∈a↔z∈b):mS c a=mS c b:=
 x5 h (iN h a).1 fun z=>by rw[(iN h a).2,hm]
theorem BB{c:α→α→Int}(h:C3 c)(l:List α):mS c l=[]↔l=[]:=by
 constructor
 ·intro e;cases l with
  |nil=>rfl
  |cons x l=>
   have:=((iN h (x::l)).2 x).2 Zm;rw[e] at this;cases this
 rintro rfl;rfl
def cw(p:α→α→Bool)(a:α):List α→List α
 | []=>[]
 |y::l=>if p y a=true then cw p y l else y::cw p y l
def cpt(p:α→α→Bool):List α→List α
 | []=>[]
 |x::l=>x::cw p x l
theorem rz(p:α→α→Bool)(x y:α):∀l:List α,cpt p (l++[x,y])=cpt p (l++[x])++if p y x=true then [] else [y]
 | []=>by simp only[KG,cpt,cw];split<;>rfl
 |a::l=>by
  simp only[KD,cpt,List.cons.injEq,true_and];induction l generalizing a with
  |nil=>simp only[KG,cw];split<;>split<;>rfl
  |cons b l ih=>simp only[KD,cw];split<;>simp[ih]
theorem jw{c:β→β→Int}(h:C3 c)(f:α→β):∀(l:List α) (a:α),((a::l).Pairwise fun x y=>¬c (f y) (f x)<0)→
 Str c ((cw (fun x y=>decide (c (f x) (f y)=0)) a l).map f)∧(∀z∈(cw (fun x y=>decide (c (f x) (f y)=0)) a l).map f,c (f a) z<0)∧∀z,z=f a∨z∈(cw (fun x y=>decide (c (f x) (f y)=0)) a l).map f↔z∈(a::l).map f
 | [],a,_=>by simp[cw,Str]
 |y::l,a,hs=>by
  have⟨h1,h2⟩:=Kf.1 hs;obtain⟨i1,i2,i3⟩:=jw h f l y h2;unfold cw;by_cases e:c (f y) (f a)=0
  ·have e':=(h.eq _ _).1 e;rw[if_pos (by simpa using e)];rw[e'] at i2 i3;refine⟨i1,i2,fun z=>?_⟩;rw[i3];simp[e']
  rw[if_neg (by simpa using e)];have k:=h.pos e (h1 y Zm);refine⟨?_,?_,fun z=>?_⟩
  ·rw[Kg];exact Kf.2 ⟨i2,i1⟩
  ·intro z hz;rw[Kg] at hz;rcases Kh.1 hz with rfl|hz
   ·exact k
   exact h.trans _ _ _ k (i2 z hz)
  have:=i3 z;simp only[Kg,Kh] at this⊢;rw[this]
theorem Em{c:β→β→Int}(h:C3 c)(f:α→β)(l:List α)(hs:l.Pairwise fun x y=>¬c (f y) (f x)<0):(cpt (fun x y=>decide (c (f x) (f y)=0)) l).map f=mS c (l.map f):=by
 cases l with
 |nil=>rfl
 |cons x l=>
  obtain⟨i1,i2,i3⟩:=jw h f l x hs;refine x5 h ?_ fun z=>?_
  ·rw[cpt,Kg];exact Kf.2 ⟨i2,i1⟩
  rw[←i3,cpt,Kg,Kh]
end
structure Vl where
 k:Int
 n:Int
 s:ByteArray
 deriving DecidableEq
instance:Inhabited Vl:=⟨0,0,⟨#[]⟩⟩
def Vl.v(x:Vl):V:= .agg [.int .i64 x.k, .int .i64 x.n, .str x.s]
theorem Vl.aAN(L:Nat→Prop)(x:Vl):x.v.names L:=by simp[Vl.v,V.names,bQ]
theorem Vl.aAD(x:Vl):x.v.fits (.agg 3)=true:=rfl
def db(a b:UInt8):Int:=rC a.toNat b.toNat
def wy(a b:ByteArray):Int:=dZ db a.toList b.toList
def pZ(a b:Vl):Int:=orC (rC a.k b.k) (orC (rC a.n b.n) (wy a.s b.s))
abbrev cP:List Vl→List Vl→Int:=dZ pZ
theorem c3I:C3 rC:=by
 refine⟨fun x y=>?_,fun x y=>?_,fun x y z=>?_⟩;all_goals unfold rC;repeat' split
 all_goals omega
theorem j0{a b:ByteArray}(h:a.toList=b.toList):a=b:=by
 rw[ByteArray.toList_eq,ByteArray.toList_eq] at h;cases a;cases b;congr 1;exact KE.1 h
theorem c3S:C3 wy:=((c3I.on (f:=fun u:UInt8=>(u.toNat:Int)) fun x y e=>UInt8.toNat_inj.1 (by exact_mod_cast e)).list).on fun x y=>j0
theorem c3V:C3 pZ:=(c3I.lex (c3I.lex c3S)).on (f:=fun x:Vl=>(x.k,x.n,x.s)) fun x y e=>by
 cases x;cases y;simpa using e
theorem c3T:C3 cP:=c3V.list
theorem dm:∀x y:List UInt8,Op.bytesLess x y=decide (dZ db x y<0)
 | [],[]=>by simp[Op.bytesLess,dZ]
 |_::_,[]=>by simp[Op.bytesLess,dZ]
 | [],_::_=>by simp[Op.bytesLess,dZ]
 |a::x,b::y=>by
  have e:(a<b)=(a.toNat<b.toNat):=rfl;simp only[Op.bytesLess,dm x y,dZ,orC,db,rC,e];by_cases h1:a.toNat<b.toNat
  ·have:(a.toNat:Int)<b.toNat:=or;simp[h1,this]
  by_cases h2:b.toNat<a.toNat
  ·have h3:(b.toNat:Int)<a.toNat:=or;have h4:a≠b:=fun e=>by rw[e] at h2;omega
   have h5:¬(a.toNat:Int)<b.toNat:=or;simp[h1,h3,h4,h5]
  have h3:a=b:=UInt8.toNat_inj.1 or;subst h3;simp
theorem dS(a b:ByteArray):(a.toList==b.toList)=decide (a=b):=by
 by_cases h:a=b
 ·subst h;simp
 have:a.toList≠b.toList:=fun e=>h (j0 e);simp[h,this]
def y0(a b:Vl):Bool:=decide (pZ a b<0)
def oM(a b:List Vl):Bool:=decide (cP a b<0)
def byt(s:ByteArray)(i:Nat):Nat:=(s.data.toList.getD i 0).toNat
theorem zd(s:ByteArray)(i:Nat):(s.get! i).toNat=byt s i:=by
 cases s with
 |mk d=>
 show(d[i]!).toNat=(d.toList.getD i 0).toNat
 rw[Kj,Kw,getElem!_def];cases d[i]?<;>rfl
theorem mq(s:ByteArray)(i:Nat)(h:byt s i<128):Utf8.decode s i=(byt s i,1):=by
 unfold Utf8.decode;simp only[KI,zd];rw[if_pos h]
theorem wq(s:ByteArray)(i:Nat)(h:128≤byt s i):128≤(Utf8.decode s i).1:=by
 unfold Utf8.decode;simp only[KI,zd];rw[if_neg or];repeat' split
 all_goals simp only[Utf8.runeError]
 all_goals (try simp only[ge_iff_le,Kb,decide_eq_true_eq] at*)
 all_goals omega
theorem y7(p:Nat→Bool)(hp:∀x,128≤x→p x=true)(s:ByteArray):∀f pos,s.size≤pos+f→(0≤Lib.idxFuncFrom p true s f pos↔∃i,pos≤i∧i<s.size∧p (byt s i)=true)
 |0,pos,h=>by
  simp only[Lib.idxFuncFrom];refine⟨fun k=>absurd k or,fun⟨i,h1,h2,_⟩=>or⟩
 |f+1,pos,h=>by
  simp only[Lib.idxFuncFrom];by_cases hps:pos<s.size
  ·rw[if_pos hps];by_cases hb:byt s pos<128
   ·rw[mq s pos hb];by_cases hq:p (byt s pos)=true
    ·rw[if_pos hq];exact⟨fun _=>⟨pos,Ke _,hps,hq⟩,fun _=>or⟩
    rw[if_neg hq,y7 p hp s f (pos+1) or];constructor
    ·rintro⟨i,h1,h2⟩;exact⟨i,or,h2⟩
    rintro⟨i,h1,h2,h3⟩;refine⟨i,?_,h2,h3⟩;by_cases e:i=pos
    ·subst e;exact absurd h3 hq
    omega
   have h1:=hp _ (wq s pos or);rw[if_pos h1];exact⟨fun _=>⟨pos,Ke _,hps,hp _ or⟩,fun _=>or⟩
  rw[if_neg hps];refine⟨fun k=>absurd k or,fun⟨i,h1,h2,_⟩=>or⟩
def dM(c:Nat):Bool:=decide (97≤c∧c≤122)
def kC(c:Nat):Bool:=decide ((97≤c∧c≤122)∨(48≤c∧c≤57)∨c=95)
def kQ(c:Nat):Bool:= !kC c
theorem oq(x:Nat)(h:128≤x):kQ x=true:=by
 simp only[kQ,kC,Ku,decide_eq_false_iff_not];omega
def iJ(s:ByteArray):Bool:=decide (1≤s.size∧s.size≤32∧dM (byt s 0)=true∧∀i,i<s.size→kC (byt s i)=true)
theorem ot(s:ByteArray):decide (0≤Lib.idxFunc kQ true s)= !decide (∀i,i<s.size→kC (byt s i)=true):=by
 have:=y7 kQ oq s s.size 0 or;unfold Lib.idxFunc;by_cases h:∀i,i<s.size→kC (byt s i)=true
 ·rw[decide_eq_true h];simp only[Bool.not_true,decide_eq_false_iff_not,this];rintro⟨i,_,h2,h3⟩;simp[kQ,h i h2] at h3
 rw[decide_eq_false h];simp only[Bool.not_false,decide_eq_true_eq,this]
 false_or_by_contra
 rename_i k;refine h fun i hi=>?_;by_cases e:kC (byt s i)=true
 ·exact e
 exact absurd ⟨i,Kk _,hi,by simp[kQ,e]⟩ k
def sK(n:Int):Bool:=decide (-2147483647≤n∧n≤2147483647)
def bO(x:Vl):Bool:=(decide (x.k=1)&&(decide (x.s.size=0)&&sK x.n))||(decide (x.k=2)&&(decide (x.n=0)&&iJ x.s))
theorem kv{x:Vl}(h:bO x=true):-2147483647≤x.n∧x.n≤2147483647:=by
 simp only[bO,sK,Ks,Kb,decide_eq_true_eq] at h;omega
theorem BM{a b:List Int}(h:a.Perm b):a.sum=b.sum:=by
 induction h with
 |nil=>rfl
 |cons x _ ih=>simp only[Kx,ih]
 |swap x y l=>simp only[Kx];omega
 |trans _ _ i1 i2=>exact i1.trans i2
section
variable{α:Type}{c:α→α→Int}
theorem l8(h:C3 c){x:α}{l:List α}(hs:Str c l)(hx:x∈l):kT c x l=l:=
 xu h (tZ h x l hs) hs fun z=>by
  rw[uT h];exact⟨fun k=>k.elim (fun e=>e▸hx) id, .inr⟩
theorem bm(h:C3 c){x:α}:∀{l:List α},x∉l→(kT c x l).Perm (x::l)
 | [],_=> .refl _
 |y::l,hx=>by
  unfold kT;split
  ·exact .refl _
  split
  ·rename_i e;exact absurd ((h.eq _ _).1 e) (fun e=>hx (by simp[e]))
  exact((bm h (fun k=>hx (by simp[k]))).cons y).trans (.swap x y l)
theorem z7 [DecidableEq α](h:C3 c)(l:List α)(x:α):(mS c (l++[x])).length=(mS c l).length+if x∈l then 0 else 1:=by
 obtain⟨h1,h2⟩:=iN h l;rw[ia];split
 ·rename_i k;rw[l8 h h1 ((h2 x).2 k)];rfl
 rename_i k;rw[(bm h (fun e=>k ((h2 x).1 e))).length_eq];rfl
theorem BA [DecidableEq α](h:C3 c)(f:α→Int)(l:List α)(x:α):((mS c (l++[x])).map f).sum=((mS c l).map f).sum+if x∈l then 0 else f x:=by
 obtain⟨h1,h2⟩:=iN h l;rw[ia];split
 ·rename_i k;rw[l8 h h1 ((h2 x).2 k)];simp
 rename_i k;rw[BM ((bm h (fun e=>k ((h2 x).1 e))).map f),Kg,Kx];omega
end
theorem B6{α:Type}{c:α→α→Int}(h:C3 c){l:List α}{i:Nat}{m:α}(hi:i<l.length)(hm:m∈l)(hz:∀z∈l.take i,¬c z m<0):
 (if decide (c l[i] m<0)=true then l[i] else m)∈l∧∀z∈l.take (i+1),¬c z (if decide (c l[i] m<0)=true then l[i] else m)<0:=by
 rw[Kd hi];by_cases k:c l[i] m<0
 ·simp only[k,decide_true,if_true];refine⟨Kp _,fun z hz2=>?_⟩;rcases Ki.1 hz2 with q|q
  ·exact fun e=>hz z q (h.trans _ _ _ e k)
  have:z=l[i]:=by simpa using q
  rw[this,h.self];omega
 simp only[k,decide_false,Kz,if_false];refine⟨hm,fun z hz2=>?_⟩;rcases Ki.1 hz2 with q|q
 ·exact hz z q
 have:z=l[i]:=by simpa using q
 rw[this];exact k
theorem AQ{α:Type}{c:α→α→Int}(h:C3 c){l:List α}{i:Nat}{m:α}(hi:i<l.length)(hm:m∈l)(hz:∀z∈l.take i,¬c m z<0):
 (if decide (c m l[i]<0)=true then l[i] else m)∈l∧∀z∈l.take (i+1),¬c (if decide (c m l[i]<0)=true then l[i] else m) z<0:=by
 rw[Kd hi];by_cases k:c m l[i]<0
 ·simp only[k,decide_true,if_true];refine⟨Kp _,fun z hz2=>?_⟩;rcases Ki.1 hz2 with q|q
  ·exact fun e=>hz z q (h.trans _ _ _ k e)
  have:z=l[i]:=by simpa using q
  rw[this,h.self];omega
 simp only[k,decide_false,Kz,if_false];refine⟨hm,fun z hz2=>?_⟩;rcases Ki.1 hz2 with q|q
 ·exact hz z q
 have:z=l[i]:=by simpa using q
 rw[this];exact k
def wV:Vl:=⟨0,0,⟨#[]⟩⟩
def ofV(n:Int):Vl×Int:=if sK n=true then (⟨1,n,⟨#[]⟩⟩,0) else (wV,10)
def EV(l:List Vl):Int:=(l.map Vl.n).sum
theorem zu(l:List Vl)(x:Vl):EV (mS pZ (l++[x]))=EV (mS pZ l)+if x∈l then 0 else x.n:=BA c3V Vl.n l x
def gP(c:Nat):Bool:=decide (65≤c∧c≤90)
def wa(c:Nat):Bool:=decide (48≤c∧c≤57)
def kN(c:Nat):Bool:=dM c||gP c||wa c||decide (c=95)
def qB(c:Nat):Bool:=decide (c=9∨c=10∨c=13∨c=32)
def mR(p:Nat→Bool)(s:ByteArray):Nat→Nat→Nat
 |0,i=>i
 |f+1,i=>if i<s.size∧p (byt s i)=true then mR p s f (i+1) else i
def kP(p:Nat→Bool)(s:ByteArray)(i:Nat):Nat:=mR p s (s.size-i) i
theorem nz(p:Nat→Bool)(s:ByteArray):∀(f i j:Nat),i≤j→j≤s.size→s.size≤i+f→(∀k,i≤k→k<j→p (byt s k)=true)→(j=s.size∨p (byt s j)=false)→mR p s f i=j
 |0,i,j,h1,h2,h3,_,_=>by show i=j;omega
 |f+1,i,j,h1,h2,h3,h4,h5=>by
  unfold mR;by_cases e:i=j
  ·subst e;rw[if_neg];rintro⟨q1,q2⟩;rcases h5 with h5|h5
   ·omega
   rw[q2] at h5;cases h5
  rw[if_pos ⟨or,h4 i (Ke _) or⟩];exact nz p s f (i+1) j or h2 or (fun k hk=>h4 k or) h5
theorem sV{p:Nat→Bool}{s:ByteArray}{i j:Nat}(h1:i≤j)(h2:j≤s.size)(h4:∀k,i≤k→k<j→p (byt s k)=true)(h5:j=s.size∨p (byt s j)=false):kP p s i=j:=
 nz p s _ i j h1 h2 or h4 h5
theorem yW(p:Nat→Bool)(s:ByteArray):∀(f i:Nat),i≤s.size→s.size≤i+f→i≤mR p s f i∧mR p s f i≤s.size∧(∀k,i≤k→k<mR p s f i→p (byt s k)=true)∧(mR p s f i=s.size∨p (byt s (mR p s f i))=false)
 |0,i,h1,h2=>⟨Ke _,h1,fun k a b=>absurd b (by show¬k<i;omega), .inl (by show i=_;omega)⟩
 |f+1,i,h1,h2=>by
  unfold mR;split
  ·rename_i h;obtain⟨a,b,c,d⟩:=yW p s f (i+1) or or;exact⟨or,b,fun k h3 h4=>by
    by_cases e:k=i
    ·subst e;exact h.2
    exact c k or h4,d⟩
  rename_i h;refine⟨Ke _,h1,fun k a b=>absurd b or,?_⟩;by_cases e:i<s.size
  ·right;cases hp:p (byt s i) with
   |false=>rfl
   |true=>exact absurd ⟨e,hp⟩ h
  left;omega
theorem nE(p:Nat→Bool)(s:ByteArray)(i:Nat)(h:i≤s.size):i≤kP p s i∧kP p s i≤s.size∧(∀k,i≤k→k<kP p s i→p (byt s k)=true)∧(kP p s i=s.size∨p (byt s (kP p s i))=false):=
 yW p s _ i h or
def lG(s:ByteArray):Nat→Nat→Nat
 |0,i=>i
 |f+1,i=>if i<s.size then if qB (byt s i)=true then lG s f (i+1) else if byt s i=37 then lG s f (kP (fun c=>decide (c≠10)) s i) else i else i
def cG(s:ByteArray)(i:Nat):Nat:=lG s (s.size-i) i
theorem yH{s:ByteArray}{i:Nat}(h:i<s.size)(hp:byt s i=37):i<kP (fun c=>decide (c≠10)) s i∧kP (fun c=>decide (c≠10)) s i≤s.size:=by
 obtain⟨a,b,c,d⟩:=nE (fun c=>decide (c≠10)) s i or;refine⟨?_,b⟩;rcases KJ i (kP (fun c=>decide (c≠10)) s i) with k|k
 ·exact k
 have e:kP (fun c=>decide (c≠10)) s i=i:=or;rw[e] at d;rcases d with d|d
 ·omega
 rw[hp] at d;cases d
theorem nT(s:ByteArray):∀(f g i:Nat),s.size≤i+f→s.size≤i+g→lG s f i=lG s g i
 |0,0,_,_,_=>rfl
 |0,g+1,i,h,_=>by unfold lG;rw[if_neg or]
 |f+1,0,i,_,h=>by unfold lG;rw[if_neg or]
 |f+1,g+1,i,h1,h2=>by
  unfold lG;by_cases h:i<s.size
  ·rw[if_pos h,if_pos h];split
   ·exact nT s f g _ or or
   split
   ·rename_i hp;have:=yH h hp;exact nT s f g _ or or
   rfl
  rw[if_neg h,if_neg h]
theorem qG{s:ByteArray}{i:Nat}(h:s.size≤i):cG s i=i:=by
 unfold cG;cases s.size-i with
 |zero=>rfl
 |succ n=>unfold lG;rw[if_neg or]
theorem o8{s:ByteArray}{i:Nat}(h:i<s.size)(hb:qB (byt s i)=true):cG s i=cG s (i+1):=by
 unfold cG;obtain⟨n,hn⟩:∃n,s.size-i=n+1:=⟨s.size-i-1,or⟩;rw[hn,lG,if_pos h,if_pos hb];exact nT s _ _ _ or or
theorem uc{s:ByteArray}{i:Nat}(h:i<s.size)(hb:qB (byt s i)=false)(hp:byt s i=37):cG s i=cG s (kP (fun c=>decide (c≠10)) s i):=by
 unfold cG;obtain⟨n,hn⟩:∃n,s.size-i=n+1:=⟨s.size-i-1,or⟩;rw[hn,lG,if_pos h,hb,if_neg Zm,if_pos hp];have:=yH h hp;exact nT s _ _ _ or or
theorem zG{s:ByteArray}{i:Nat}(h:i<s.size)(hb:qB (byt s i)=false)(hp:byt s i≠37):cG s i=i:=by
 unfold cG;obtain⟨n,hn⟩:∃n,s.size-i=n+1:=⟨s.size-i-1,or⟩;rw[hn,lG,if_pos h,hb,if_neg Zm,if_neg hp]
theorem tB(s:ByteArray):∀(f i:Nat),i≤lG s f i∧(i≤s.size→lG s f i≤s.size)
 |0,i=>⟨Ke _,id⟩
 |f+1,i=>by
  unfold lG;split
  ·rename_i h;split
   ·have:=tB s f (i+1);exact⟨or,fun _=>this.2 or⟩
   split
   ·rename_i hp;have h1:=yH h hp;have:=tB s f (kP (fun c=>decide (c≠10)) s i);exact⟨or,fun _=>this.2 h1.2⟩
   exact⟨Ke _,id⟩
  exact⟨Ke _,id⟩
theorem tC(s:ByteArray)(i:Nat):i≤cG s i:=(tB s _ i).1
theorem o7{s:ByteArray}{i:Nat}(h:i≤s.size):cG s i≤s.size:=(tB s _ i).2 h
structure Tk where
 k:Int
 t:ByteArray
 a:Nat
 deriving Inhabited
def qo:List ByteArray:=[⟨[114,101,108].toArray⟩,⟨[105,110,116].toArray⟩,⟨[115,121,109].toArray⟩,⟨[110,111,116].toArray⟩,⟨[99,111,117,110,116].toArray⟩,⟨[115,117,109].toArray⟩,⟨[109,105,110].toArray⟩,⟨[109,97,120].toArray⟩]
def eP:List ByteArray:=[⟨[58,45].toArray⟩,⟨[33,61].toArray⟩,⟨[60,61].toArray⟩,⟨[62,61].toArray⟩,⟨[40].toArray⟩,⟨[41].toArray⟩,⟨[44].toArray⟩,⟨[46].toArray⟩,⟨[61].toArray⟩,⟨[60].toArray⟩,⟨[62].toArray⟩,⟨[43].toArray⟩,⟨[45].toArray⟩,⟨[42].toArray⟩]
def vn(w:ByteArray):Bool:=qo.any fun t=>t.data.toList==w.data.toList
theorem qp(w:ByteArray):vn w=true↔w∈qo:=by
 simp only[vn,KC,beq_iff_eq];constructor
 ·rintro⟨t,h1,h2⟩;have:t=w:=by
   cases t;cases w;simp only[KE] at h2;rw[h2]
  exact this▸h1
 exact fun h=>⟨w,h,rfl⟩
def iA(κ:ByteArray→Int)(w:ByteArray):Int:=
 if vn w=true then 1 else if iJ w=true then 2 else if gP (byt w 0)=true∧w.size≤32 then 3 else κ w
def sD(s t:ByteArray):Bool:=t.data.toList.isPrefixOf s.data.toList
def nX(s:ByteArray):Nat:=kP kN s 0
def tD(r:ByteArray):Int×ByteArray:=match eP.find? (sD r) with
 |some t=>(5,t)
 |none=>(0,⟨#[]⟩)
def fP(κ:ByteArray→Int)(r:ByteArray):Int×ByteArray:=
 if 0<nX r∧byt r 0≠95 then (iA κ (r.extract 0 (nX r)),r.extract 0 (nX r)) else tD r
def ba(κ:ByteArray→Int)(s:ByteArray):Nat→Nat→List Tk×Option Nat
 |0,_=>([],none)
 |f+1,i=>if i<s.size then
  if (fP κ (s.extract i s.size)).1=0 then ([],some i)
  else (⟨(fP κ (s.extract i s.size)).1,(fP κ (s.extract i s.size)).2,i⟩::(ba κ s f (cG s (i+(fP κ (s.extract i s.size)).2.size))).1,(ba κ s f (cG s (i+(fP κ (s.extract i s.size)).2.size))).2)
  else ([],none)
def iX(κ:ByteArray→Int)(s:ByteArray)(i:Nat):List Tk×Option Nat:=ba κ s (s.size-i) i
def zp(s:ByteArray):Bool:=decide (1≤s.size∧s.size≤32∧gP (byt s 0)=true∧∀i,i<s.size→kN (byt s i)=true)
def BJ(s:ByteArray):Bool:=decide (iJ s=true∧vn s=false)
theorem eZ(s:ByteArray)(i j:Nat):(s.extract i j).size=min j s.size-i:=by
 rw[←ByteArray.size_data,ByteArray.data_extract,Array.size_extract,ByteArray.size_data]
theorem vB(s:ByteArray):s.extract 0 s.size=s:=by
 apply ByteArray.ext;rw[ByteArray.data_extract,←ByteArray.size_data];exact Array.extract_size
theorem ze{s:ByteArray}{i j k:Nat}(h:i+k<j)(h2:j≤s.size):byt (s.extract i j) k=byt s (i+k):=by
 unfold byt;rw[ByteArray.data_extract];have h2:j≤s.data.size:=h2;congr 1;simp only[Kj,Kw];rw[Kv,if_pos or]
theorem kq(s:ByteArray):nX s≤s.size:=(nE kN s 0 (Kk _)).2.1
theorem zH(r:ByteArray):tD r=(0,⟨#[]⟩)∨∃t,tD r=(5,t)∧t∈eP∧sD r t=true:=by
 unfold tD;cases h:eP.find? (sD r) with
 |none=>exact .inl rfl
 |some t=>exact .inr ⟨t,rfl,List.mem_of_find?_eq_some h,List.find?_some h⟩
theorem ud:∀t∈eP,0<t.size:=by decide+kernel
theorem Ak{r t:ByteArray}(h:sD r t=true):t.size≤r.size:=by
 have:=(List.isPrefixOf_iff_prefix.1 h).length_le;simpa only[Array.length_toList,ByteArray.size_data] using this
theorem lN{κ:ByteArray→Int}{r:ByteArray}(h:(fP κ r).1≠0):0<(fP κ r).2.size∧(fP κ r).2.size≤r.size:=by
 unfold fP at h⊢;split
 ·rename_i c;have:=kq r;show 0<(r.extract 0 (nX r)).size∧(r.extract 0 (nX r)).size≤r.size;rw[eZ];omega
 rename_i c;rw[if_neg c] at h;rcases zH r with e|⟨t,e,h1,h2⟩
 ·rw[e] at h;exact absurd rfl h
 rw[e];exact⟨ud t h1,Ak h2⟩
theorem jc(κ:ByteArray→Int)(s:ByteArray):∀(f g i:Nat),s.size≤i+f→s.size≤i+g→ba κ s f i=ba κ s g i
 |0,0,_,_,_=>rfl
 |0,g+1,i,h,_=>by unfold ba;rw[if_neg or]
 |f+1,0,i,_,h=>by unfold ba;rw[if_neg or]
 |f+1,g+1,i,h1,h2=>by
  unfold ba;by_cases h:i<s.size
  ·rw[if_pos h,if_pos h];split
   ·rfl
   rename_i h0;have h3:=(lN h0).1;have h4:=tC s (i+(fP κ (s.extract i s.size)).2.size);rw[jc κ s f g _ or or]
  rw[if_neg h,if_neg h]
theorem lX{κ:ByteArray→Int}{s:ByteArray}{i:Nat}(h:s.size≤i):iX κ s i=([],none):=by
 unfold iX;cases s.size-i with
 |zero=>rfl
 |succ n=>unfold ba;rw[if_neg or]
theorem bc{κ:ByteArray→Int}{s:ByteArray}{i:Nat}(h:i<s.size)(h0:(fP κ (s.extract i s.size)).1=0):iX κ s i=([],some i):=by
 unfold iX;obtain⟨n,hn⟩:∃n,s.size-i=n+1:=⟨s.size-i-1,or⟩;rw[hn,ba,if_pos h,if_pos h0]
theorem qQ{κ:ByteArray→Int}{s:ByteArray}{i:Nat}{k:Int}{t:ByteArray}(h:i<s.size)(hn:fP κ (s.extract i s.size)=(k,t))(h0:k≠0):
 iX κ s i=(⟨k,t,i⟩::(iX κ s (cG s (i+t.size))).1,(iX κ s (cG s (i+t.size))).2):=by
 have h1:=lN (κ:=κ) (r:=s.extract i s.size) (by rw[hn];exact h0);rw[hn] at h1;dsimp only at h1;have h4:=tC s (i+t.size);unfold iX;obtain⟨n,hn'⟩:∃n,s.size-i=n+1:=⟨s.size-i-1,or⟩;rw[hn',ba,if_pos h,hn,if_neg h0];dsimp only;rw[jc κ s n (s.size-cG s (i+t.size)) _ or or]
theorem vm:∀t∈qo,dM (byt t 0)=true:=by decide+kernel
theorem xJ{c:Nat}(h:gP c=true):dM c=false:=by
 simp only[gP,dM,decide_eq_true_eq,decide_eq_false_iff_not] at*;omega
theorem AR{c:Nat}(h:kC c=true):kN c=true:=by
 simp only[kC,kN,dM,gP,wa,decide_eq_true_eq,Ks] at*;omega
theorem Br{κ:ByteArray→Int}{s:ByteArray}(h:zp s=true):iA κ s=3:=by
 obtain⟨h1,h2,h3,h4⟩:=of_decide_eq_true h;unfold iA;rw[if_neg (fun k=>by have:=vm s ((qp s).1 k);rw[xJ h3] at this;cases this),if_neg (fun k=>by have:=(of_decide_eq_true k).2.2.1;rw[xJ h3] at this;cases this),if_pos ⟨h3,h2⟩]
theorem BH{κ:ByteArray→Int}{s:ByteArray}(h:BJ s=true):iA κ s=2:=by
 obtain⟨h1,h2⟩:=of_decide_eq_true h;unfold iA;rw[if_neg (by rw[h2];simp),if_pos h1]
theorem yy{κ:ByteArray→Int}{s:ByteArray}(h1:1≤s.size)(h2:∀i,i<s.size→kN (byt s i)=true)(h3:byt s 0≠95)(h0:iA κ s≠0):iX κ s (cG s 0)=([⟨iA κ s,s,0⟩],none):=by
 have hw:=h2 0 or;have hb:qB (byt s 0)=false:=by
  simp only[kN,dM,gP,wa,qB,Ks,decide_eq_true_eq,decide_eq_false_iff_not] at*;omega
 have hp:byt s 0≠37:=by
  simp only[kN,dM,gP,wa,Ks,decide_eq_true_eq] at hw;omega
 rw[zG or hb hp];have hr:nX s=s.size:=sV (Kk _) (Ke _) (fun k _ hk=>h2 k hk) (.inl rfl);have hn:fP κ (s.extract 0 s.size)=(iA κ s,s):=by
  rw[vB];unfold fP;rw[hr,if_pos ⟨or,h3⟩,vB]
 rw[qQ or hn h0,qG or,lX or]
theorem qh{κ:ByteArray→Int}{s:ByteArray}{k:Int}{l:List Tk}{b:Option Nat}{t:Tk}(h:iX κ s (cG s 0)=(t::l,b))(hk:t.k=k)(h5:k≠5)(ht:t.t=s)(hs:0<s.size):
 t.a=0∧iA κ s=k∧byt s 0≠95∧∀i,i<s.size→kN (byt s i)=true:=by
 rcases KJ (cG s 0) s.size with hi|hi
 ·obtain⟨k',t',hn⟩:∃k' t',fP κ (s.extract (cG s 0) s.size)=(k',t'):=⟨_,_,rfl⟩;by_cases h0:k'=0
  ·rw[bc hi (by rw[hn];exact h0)] at h;cases h
  have hz:=lN (κ:=κ) (r:=s.extract (cG s 0) s.size) (by rw[hn];exact h0);rw[qQ hi hn h0] at h;injection h with h _;injection h with h _;subst h;simp only at ht hk;subst ht hk;rw[hn,eZ] at hz;have h00:cG t' 0=0:=by simp only at hz;omega
  rw[h00,vB] at hn;unfold fP at hn;split at hn
  ·rename_i c;injection hn with e1 e2;have hr:nX t'=t'.size:=by
    have:=kq t';have:=congrArg ByteArray.size e2;rw[eZ] at this;omega
   rw[hr,vB] at e1;obtain⟨_,_,q,_⟩:=nE kN t' 0 (Kk _);exact⟨h00,e1,c.2,fun i hi=>q i (Kk _) (by show i<nX t';omega)⟩
  rcases zH t' with e|⟨t2,e,_⟩
  ·rw[e] at hn;injection hn with e1;exact absurd e1.symm h0
  rw[e] at hn;injection hn with e1;exact absurd e1.symm h5
 rw[lX hi] at h;cases h
theorem DH{κ:ByteArray→Int}(hκ:∀w,κ w=0∨κ w=4)(s:ByteArray):iX κ s (cG s 0)=([⟨3,s,0⟩],none)↔zp s=true:=by
 constructor
 ·intro h;have hs:0<s.size:=by
   rcases KA s.size with e|e
   ·rw[qG or,lX or] at h;cases h
   exact e
  obtain⟨_,hw,_,aAZ⟩:=qh h rfl Zm rfl hs;dsimp only at hw;refine decide_eq_true ?_;unfold iA at hw;split at hw
  ·cases hw
  split at hw
  ·cases hw
  split at hw
  ·rename_i c;exact⟨or,c.2,c.1,aAZ⟩
  have:=hκ s;omega
 intro h;have hv:=Br (κ:=κ) h;obtain⟨h1,h2,h3,h4⟩:=of_decide_eq_true h;have:=yy (κ:=κ) h1 h4 (by simp only[gP,decide_eq_true_eq] at h3;omega) (by rw[hv];decide);rw[hv] at this;exact this
theorem DI{κ:ByteArray→Int}(hκ:∀w,κ w=0∨κ w=4)(s:ByteArray):iX κ s (cG s 0)=([⟨2,s,0⟩],none)↔BJ s=true:=by
 constructor
 ·intro h;have hs:0<s.size:=by
   rcases KA s.size with e|e
   ·rw[qG or,lX or] at h;cases h
   exact e
  obtain⟨_,hw,_,aAZ⟩:=qh h rfl Zm rfl hs;dsimp only at hw;refine decide_eq_true ?_;unfold iA at hw;split at hw
  ·cases hw
  split at hw
  ·rename_i c1 c2;exact⟨c2,by simpa using c1⟩
  split at hw
  ·cases hw
  have:=hκ s;omega
 intro h;have hv:=BH (κ:=κ) h;obtain⟨h1,h2⟩:=of_decide_eq_true h;obtain⟨g1,g2,g3,g4⟩:=of_decide_eq_true h1;have:=yy (κ:=κ) g1 (fun i hi=>AR (g4 i hi)) (by simp only[dM,decide_eq_true_eq] at g3;omega) (by rw[hv];decide);rw[hv] at this;exact this
structure Tr where
 x:ByteArray
 w:Vl
 deriving DecidableEq
instance:Inhabited Tr:=⟨⟨#[]⟩,default⟩
def Tr.cs(t:Tr):List V:=[.str t.x, .int .i64 t.w.k, .int .i64 t.w.n, .str t.w.s]
def Tr.v(t:Tr):V:= .agg [.str t.x, .int .i64 t.w.k, .int .i64 t.w.n, .str t.w.s]
theorem Tr.aAD(t:Tr):t.v.fits (.agg 4)=true:=rfl
theorem Tr.aAN(L:Nat→Prop)(t:Tr):t.v.names L:=by simp[Tr.v,V.names,bQ]
abbrev trs(o:Own)(l:List Tr):V:= .sl (.agg 4) o (l.map Tr.v)
def xi:Tr:=⟨⟨#[]⟩,wV⟩
inductive Ex where
 |mk (op:Int) (t:Tr) (o:Own) (kids:List Ex)
mutual
def Ex.v:Ex→V
 | .mk op t o ks=> .agg [.int .i64 op, .str t.x, .int .i64 t.w.k, .int .i64 t.w.n, .str t.w.s, .sl (.agg 6) o (Ex.vs ks)]
def Ex.vs:List Ex→List V
 | []=>[]
 |e::r=>e.v::Ex.vs r
end
instance:Inhabited Ex:=⟨.mk 0 xi .nil []⟩
theorem Ex.aEL:∀l:List Ex,Ex.vs l=l.map Ex.v
 | []=>rfl
 |e::r=>by rw[Ex.vs,Ex.aEL r];rfl
theorem Ex.aAD(e:Ex):e.v.fits (.agg 6)=true:=by cases e;rfl
def Ex.op:Ex→Int| .mk op _ _ _=>op
def Ex.t:Ex→Tr| .mk _ t _ _=>t
def Ex.o:Ex→Own| .mk _ _ o _=>o
def Ex.kids:Ex→List Ex| .mk _ _ _ ks=>ks
def Ex.cs(e:Ex):List V:=[.int .i64 e.op, .str e.t.x, .int .i64 e.t.w.k, .int .i64 e.t.w.n, .str e.t.w.s, .sl (.agg 6) e.o (e.kids.map Ex.v)]
theorem Ex.aAl(e:Ex):e.v= .agg e.cs:=by cases e;simp[Ex.v,Ex.cs,Ex.aEL,Ex.op,Ex.t,Ex.o,Ex.kids]
structure Am where
 r:ByteArray
 o:Own
 l:List Tr
def Am.v(a:Am):V:= .agg [.str a.r,trs a.o a.l]
structure Li where
 k:Int
 a:Am
 op:Int
 x:Ex
 y:Ex
 at_:Int
def Li.v(l:Li):V:= .agg ([.int .i64 l.k, .str l.a.r,trs l.a.o l.a.l, .int .i64 l.op]++l.x.cs++l.y.cs++[.int .i64 l.at_])
theorem Li.aAD(l:Li):l.v.fits (.agg 17)=true:=rfl
structure Ru where
 h:Am
 g:Int
 c:Int
 o:Own
 b:List Li
 at_:Int
def Ru.v(r:Ru):V:= .agg [.str r.h.r,trs r.h.o r.h.l, .int .i64 r.g, .int .i64 r.c, .sl (.agg 17) r.o (r.b.map Li.v), .int .i64 r.at_]
def rP(t:Tr):Bool:=decide (t.x.size=0∧t.w.k=0∧t.w.n=0∧t.w.s.size=0)
def td(w:Vl):Bool:=decide (w.k=0∧w.n=0∧w.s.size=0)
def iQ(t:Tr):Bool:=if t.x.size=0 then bO t.w else zp t.x&&td t.w
def eM:Nat→Ex→Int
 |0, .mk op t _ ks=>if op=0∧ks=[]∧iQ t=true then 0 else-1
 |n+1, .mk op t _ ks=>if op=0∧ks=[]∧iQ t=true then 0 else
  match ks with
  | [a,b]=>if 1≤op∧op≤3∧rP t=true then (if eM n a<0∨eM n b<0 then-1 else 1+xR true (eM n a) (eM n b)) else-1
  |_=>-1
def fG:Nat→Ex→Bool
 |0, .mk op t _ ks=>decide (op=0∧ks=[]∧iQ t=true)
 |n+1, .mk op t _ ks=>if op=0 then decide (ks=[]∧iQ t=true) else
  match ks with
  | [a,b]=>decide (1≤op∧op≤3∧rP t=true∧fG n a=true∧fG n b=true)
  |_=>false
theorem nO:∀(n:Nat) (e:Ex),-1≤eM n e∧eM n e≤n
 |0, .mk op t o ks=>by unfold eM;split<;>omega
 |n+1, .mk op t o ks=>by
  unfold eM;split
  ·omega
  split
  ·rename_i a b _;have h1:=nO n a;have h2:=nO n b;split
   ·split
    ·omega
    unfold xR;rw[if_pos rfl];split<;>omega
   omega
  omega
theorem wO:∀(n:Nat) (e:Ex),0≤eM n e↔fG n e=true
 |0, .mk op t o ks=>by
  unfold eM fG;split
  ·rename_i h;simpa using h
  rename_i h;simpa using h
 |n+1, .mk op t o ks=>by
  unfold eM fG;by_cases h0:op=0
  ·by_cases h1:ks=[]∧iQ t=true
   ·rw[if_pos ⟨h0,h1⟩,if_pos h0];simpa using h1
   rw[if_neg (fun h=>h1 h.2),if_pos h0,decide_eq_false h1];split
   ·rw[if_neg or];simp
   simp
  rw[if_neg (fun h=>h0 h.1),if_neg h0];split
  ·rename_i a b;have h1:=wO n a;have h2:=wO n b;have g1:=nO n a;have g2:=nO n b;rw[decide_eq_true_eq,←h1,←h2];split
   ·rename_i c;split
    ·constructor
     ·intro h;omega
     intro h;omega
    unfold xR;rw[if_pos rfl];exact⟨fun _=>⟨c.1,c.2.1,c.2.2,or,or⟩,fun _=>by split<;>omega⟩
   rename_i c;exact⟨fun h=>or,fun h=>absurd ⟨h.1,h.2.1,h.2.2.1⟩ c⟩
  simp
def sA(e:Ex):Bool:=fG 20 e
def nZ(a:Am):Bool:=BJ a.r&&decide (a.l.length≤6)&&a.l.all iQ
def wU(e:Ex):Bool:=decide (e.op=0∧e.kids=[])&&rP e.t
def bW(l:Li):Bool:=
 if l.k=1∨l.k=2 then nZ l.a&&decide (l.op=0)&&wU l.x&&wU l.y
 else decide (l.k=3∧l.a.r.size=0∧l.a.l=[]∧1≤l.op∧l.op≤6)&&sA l.x&&sA l.y
def Ey(r:Ru):Bool:=
 if r.g=0 then decide (r.c=0) else decide (0≤r.g∧r.g≤4∧0≤r.c∧r.c<r.h.l.length∧(r.h.l.getD r.c.toNat xi).x.size≠0)
def dW(r:Ru):Bool:=nZ r.h&&Ey r&&decide (r.b.length≤8)&&r.b.all bW
def nP:Nat:=140737488351232
def Tr.s47(t:Tr):Prop:=t.x.size≤nP∧t.w.s.size≤nP
mutual
def Ex.s47:Ex→Prop
 | .mk _ t _ ks=>t.s47∧Ex.aGI ks
def Ex.aGI:List Ex→Prop
 | []=>True
 |e::r=>e.s47∧Ex.aGI r
end
theorem Ex.aAz:∀{l:List Ex},Ex.aGI l↔∀e∈l,e.s47
 | []=>by simp[Ex.aGI]
 |e::r=>by simp[Ex.aGI,Ex.aAz (l:=r)]
def Am.s47(a:Am):Prop:=a.r.size≤nP∧∀t∈a.l,t.s47
def Li.s47(l:Li):Prop:=l.a.s47∧l.x.s47∧l.y.s47
def Ru.s47(r:Ru):Prop:=r.h.s47∧∀l∈r.b,l.s47
def eE(t:Tr):Int:=1+((t.x.size+t.w.s.size)/ 50:Nat)
theorem vF{t:Tr}(h:t.s47):1≤eE t∧eE t≤5629499534050:=by
 obtain⟨h1,h2⟩:=h;unfold nP at h1 h2;unfold eE;omega
mutual
def mD:Ex→Int→Int
 | .mk _ t _ ks,l=>kD ks (l-eE t)
def kD:List Ex→Int→Int
 | [],l=>l
 |k::r,l=>if l<0 then-1 else kD r (mD k l)
end
def kJ:List Tr→Int→Int
 | [],l=>l
 |t::r,l=>if l-eE t<0 then-1 else kJ r (l-eE t)
def gB(a:Am)(l:Int):Int:=kJ a.l (l-(1+(a.r.size / 50:Nat)))
def AE(b:Li)(l:Int):Int:=mD b.y (mD b.x (gB b.a l))
def az:List Li→Int→Int
 | [],l=>l
 |b::r,l=>if l<0 then-1 else az r (AE b l)
def x9(r:Ru):Int:=az r.b (gB r.h 300)
theorem mc:∀(n:Nat) (e:Ex),SizeOf.sizeOf e≤n→e.s47→∀l:Int,(if l<0 then l else 0)-5629499534050≤mD e l∧(mD e l≤l-1∨mD e l=-1)
 |0, .mk op t o ks,h,_,l=>by simp at h
 |n+1, .mk op t o ks,h,hs,l=>by
  have hc:=vF hs.1;have key:∀(r:List Ex),(∀e∈r,SizeOf.sizeOf e≤n∧e.s47)→∀l:Int,((if l<0 then l else-5629499534050)≤kD r l)∧(kD r l≤l∨kD r l=-1):=by
   intro r;induction r with
   |nil=>intro _ l;unfold kD;refine⟨?_, .inl (KK _)⟩;split<;>omega
   |cons k r ih=>
    intro hr l;unfold kD;by_cases h0:l<0
    ·rw[if_pos h0,if_pos h0];exact⟨or, .inr rfl⟩
    rw[if_neg h0,if_neg h0];obtain⟨a,b⟩:=mc n k (hr k Km).1 (hr k Km).2 l;rw[if_neg h0] at a;obtain⟨c,d⟩:=ih (fun e he=>hr e (Kq _ he)) (mD k l);generalize kD r (mD k l)=z at c d;generalize mD k l=y at a b c d;split at c
    ·omega
    omega
  have hk:∀e∈ks,SizeOf.sizeOf e≤n∧e.s47:=fun e he=>by
   refine⟨?_,Ex.aAz.1 hs.2 e he⟩;have:=List.sizeOf_lt_of_mem he;simp only[Ex.mk.sizeOf_spec] at h;omega
  obtain⟨a,b⟩:=key ks hk (l-eE t);unfold mD;generalize kD ks (l-eE t)=z at a b;split at a<;>split<;>omega
mutual
def Ex.few:Ex→Prop
 | .mk _ _ _ ks=>ks.length≤300∧Ex.aVm ks
def Ex.aVm:List Ex→Prop
 | []=>True
 |e::r=>e.few∧Ex.aVm r
end
theorem oe:∀(r:List Tr),(∀t∈r,t.s47)→∀l:Int,(if l<0 then l-5629499534050 else-5629499534050)≤kJ r l∧(kJ r l≤l∨kJ r l=-1)
 | [],_,l=>by unfold kJ;refine⟨?_, .inl (KK _)⟩;split<;>omega
 |t::r,h,l=>by
  have hc:=vF (h t Km);unfold kJ;by_cases q:l-eE t<0
  ·rw[if_pos q];refine⟨?_, .inr rfl⟩;split<;>omega
  rw[if_neg q];obtain⟨a,b⟩:=oe r (fun t ht=>h t (Kq _ ht)) (l-eE t);rw[if_neg q] at a;refine⟨?_,or⟩;split<;>omega
theorem pu{a:Am}(h:a.s47):(0:Int)≤(a.r.size / 50:Nat)∧((a.r.size / 50:Nat):Int)≤2814749767024:=by
 have:=h.1;unfold nP at this;omega
theorem zg{a:Am}(h:a.s47)(l:Int):(if l<0 then l else 0)-11258999068100≤gB a l∧(gB a l≤l-1∨gB a l=-1):=by
 have hn:=pu h;obtain⟨x,y⟩:=oe a.l h.2 (l-(1+(a.r.size / 50:Nat)));unfold gB;split at x<;>split<;>omega
mutual
def Ex.ts:Ex→List Tr
 | .mk _ t _ ks=>if ks.isEmpty then [t] else Ex.tss ks
def Ex.tss:List Ex→List Tr
 | []=>[]
 |e::r=>e.ts++Ex.tss r
end
theorem Ex.aCt:∀l:List Ex,Ex.tss l=l.flatMap Ex.ts
 | []=>rfl
 |e::r=>by rw[Ex.tss,Ex.aCt r];rfl
theorem Ex.aGT(e:Ex):e.ts=if e.kids=[] then [e.t] else e.kids.flatMap Ex.ts:=by
 obtain⟨op,t,o,ks⟩:=e;rw[Ex.ts,Ex.aCt];cases ks<;>rfl
def dt:Nat→Ex→Bool
 |0, .mk _ _ _ ks=>ks.isEmpty
 |n+1, .mk _ _ _ ks=>match ks with
  | []=>true
  | [a,b]=>dt n a&&dt n b
  |_=>false
theorem my:∀(n:Nat) (e:Ex),fG n e=true→dt n e=true
 |0, .mk op t o ks,h=>by
  unfold fG at h;obtain⟨_,rfl,_⟩:=of_decide_eq_true h;rfl
 |n+1, .mk op t o ks,h=>by
  unfold fG at h;split at h
  ·obtain⟨rfl,_⟩:=of_decide_eq_true h;rfl
  split at h
  ·rename_i a b;obtain⟨_,_,_,h1,h2⟩:=of_decide_eq_true h;simp only[dt,my n a h1,my n b h2,Bool.and_true]
  cases h
theorem mw:∀(n:Nat) (e:Ex),dt n e=true→e.ts.length≤2 ^ n
 |0, .mk op t o ks,h=>by
  cases ks with
  |nil=>simp[Ex.ts]
  |cons a r=>cases h
 |n+1, .mk op t o ks,h=>by
  have hp:1≤2 ^ n:=Nat.one_le_two_pow;match ks,h with
  | [],_=>simp[Ex.ts];omega
  | [a,b],h=>
   simp only[dt,Kb] at h;have g1:=mw n a h.1;have g2:=mw n b h.2;simp[Ex.ts,Ex.tss,Nat.pow_succ];omega
theorem Bf{m:Nat}{op:Int}{t:Tr}{o:Own}{ks:List Ex}(h:dt m (.mk op t o ks)=true):ks.length≤2∧∀e∈ks,∃m,dt m e=true:=by
 cases m with
 |zero=>
  cases ks with
  |nil=>simp
  |cons a r=>cases h
 |succ m=>
  match ks,h with
  | [],_=>simp
  | [a,b],h=>
   simp only[dt,Kb] at h;refine⟨Zm,fun e he=>⟨m,?_⟩⟩;simp only[Kh,List.not_mem_nil,or_false] at he;rcases he with rfl|rfl
   ·exact h.1
   exact h.2
abbrev sq(e:Ex):Bool:=dt 20 e
theorem zf{e:Ex}(h:sA e=true):sq e=true:=my 20 e h
theorem mO{e:Ex}(h:sq e=true):e.ts.length≤1048576:=mw 20 e h
theorem gh{e:Ex}(h:wU e=true):sq e=true:=by
 unfold wU at h;simp only[Kb,decide_eq_true_eq] at h;obtain⟨op,t,o,ks⟩:=e;have:ks=[]:=h.1.2;subst this;rfl
def hZ(x:ByteArray)(l:List ByteArray):Bool:=l.any fun y=>decide (x=y)
theorem pS{x:ByteArray}{l:List ByteArray}:hZ x l=true↔x∈l:=by simp[hZ]
theorem uX{x:ByteArray}{l:List ByteArray}:hZ x l=false↔x∉l:=by rw[←pS,Bool.not_eq_true]
def nmT(l:List ByteArray)(t:Tr):List ByteArray:=if (!decide (t.x.size=0)&& !hZ t.x l)=true then l++[t.x] else l
def nmL(l:List ByteArray)(ts:List Tr):List ByteArray:=ts.foldl nmT l
def Li.ts(l:Li):List Tr:=l.a.l++(l.x.ts++l.y.ts)
def Li.vars(l:Li):List ByteArray:=nmL [] l.ts
def Ru.vars(r:Ru):List ByteArray:=r.b.foldl (fun o l=>nmL o l.ts) (nmL [] r.h.l)
theorem DO(l:List ByteArray)(a b:List Tr):nmL l (a++b)=nmL (nmL l a) b:=KB ..
theorem DM(l:List ByteArray)(t:Tr):(nmT l t).length≤l.length+1:=by
 unfold nmT;split<;>simp
theorem qK:∀(ts:List Tr) (l:List ByteArray),(nmL l ts).length≤l.length+ts.length
 | [],l=>Ke _
 |t::r,l=>by
  have h1:=qK r (nmT l t);have h2:=DM l t;show(nmL (nmT l t) r).length≤_;simp only[KF];omega
theorem DR{x:ByteArray}{l:List ByteArray}{t:Tr}:x∈nmT l t↔x∈l∨(t.x=x∧t.x.size≠0):=by
 unfold nmT;split
 ·rename_i h;simp only[Kb,Ku,decide_eq_false_iff_not] at h;rw[Ki,Ky];exact⟨fun e=>e.imp_right fun e=>⟨e.symm,h.1⟩,fun e=>e.imp_right fun e=>e.1.symm⟩
 rename_i h;refine⟨.inl,fun e=>e.elim id fun e=>?_⟩;simp only[Kb,Ku,decide_eq_false_iff_not,not_and,Bool.not_eq_false] at h;rw[←e.1];exact pS.1 (h e.2)
theorem tP{x:ByteArray}:∀{ts:List Tr} {l:List ByteArray},x∈nmL l ts↔x∈l∨∃t∈ts,t.x=x∧t.x.size≠0
 | [],l=>by simp[nmL]
 |t::r,l=>by
  show x∈nmL (nmT l t) r↔_;rw[tP (ts:=r),DR];simp only[Kh];constructor
  ·rintro((h|h)|⟨u,h1,h2⟩)
   ·exact .inl h
   ·exact .inr ⟨t, .inl rfl,h⟩
   exact .inr ⟨u, .inr h1,h2⟩
  rintro(h|⟨u,rfl|h1,h2⟩)
  ·exact .inl (.inl h)
  ·exact .inl (.inr h2)
  exact .inr ⟨u,h1,h2⟩
theorem nY{l:Li}(h:bW l=true):l.a.l.length≤6∧sq l.x=true∧sq l.y=true:=by
 unfold bW at h;split at h
 ·simp only[Kb] at h;obtain⟨⟨⟨h1,_⟩,h2⟩,h3⟩:=h;unfold nZ at h1;simp only[Kb,decide_eq_true_eq] at h1;exact⟨h1.1.2,gh h2,gh h3⟩
 simp only[Kb,decide_eq_true_eq] at h;exact⟨by rw[h.1.1.2.2.1];simp,zf h.1.2,zf h.2⟩
theorem nG{l:Li}(h:bW l=true):l.ts.length≤2097158:=by
 obtain⟨h1,h2,h3⟩:=nY h;have e2:=mO h2;have e3:=mO h3;simp only[Li.ts,List.length_append];omega
theorem dG{r:Ru}(h:dW r=true):r.h.l.length≤6∧r.b.length≤8∧(∀l∈r.b,bW l=true):=by
 unfold dW nZ at h;simp only[Kb,decide_eq_true_eq,List.all_eq_true] at h;exact⟨h.1.1.1.1.2,h.1.2,h.2⟩
def wX(b:List Li)(o:List ByteArray):List ByteArray:=b.foldl (fun o l=>nmL o l.ts) o
theorem gy:∀(b:List Li) (o:List ByteArray),(∀l∈b,bW l=true)→(wX b o).length≤o.length+b.length*2097158
 | [],o,_=>by simp[wX]
 |l::b,o,h=>by
  have h1:=gy b (nmL o l.ts) fun x hx=>h x (Kq _ hx);have h2:=qK l.ts o;have h3:=nG (h l Km);show(wX b (nmL o l.ts)).length≤_;simp only[KF,Nat.add_mul,Nat.one_mul];omega
theorem tk(b:List Li)(o:List ByteArray)(i:Nat)(h:i<b.length):wX (b.take (i+1)) o=nmL (wX (b.take i) o) b[i].ts:=by
 unfold wX;rw[Kd h,KB];rfl
theorem ny{r:Ru}(h:dW r=true)(i:Nat):(wX (r.b.take i) (nmL [] r.h.l)).length≤16777270:=by
 obtain⟨h1,h2,h3⟩:=dG h;have a:=gy (r.b.take i) (nmL [] r.h.l) fun l hl=>h3 l (List.mem_of_mem_take hl);have b:=qK r.h.l [];have c:(r.b.take i).length≤8:=by rw[List.length_take];omega
 simp only[List.length_nil] at b;have d:=Nat.mul_le_mul_right 2097158 c;omega
end Go.Proofs.YtlhedpgobaellaaGreatDoor
