/-
Texts of this proof,one behind the other. No conditions.
-/
import Derived.Test.YtlhedpgobaellaaGreatDoorKd
import Derived.Shelf.SlSortCmp.WholeK
import Derived.Shelf.SlSortCmp.NoneTotal
import Derived.Shelf.GgClosure.StringsIndexFunc
open Go.Proofs.YtlhedpgobaellaaGreatDoor.Hp renaming le_refl→Ka,aAM→Kc
open Bool renaming and_eq_true→Kb,not_eq_true'→Kp,or_eq_true→Kt,false_eq_true→KA
open List renaming take_succ_eq_append_getElem→Kd,pairwise_cons→Kf,map_cons→Kg,mem_cons→Kh,mem_append→Ki,getD_eq_getElem?_getD→Kj,mem_cons_self→Km,findIdx?_eq_some_iff_getElem→Ko,getElem_mem→Kq,mem_cons_of_mem→Ks,mem_singleton→Ku,findIdx?_eq_none_iff→Kv,length_cons→Kw,sum_cons→Kz,foldl_append→KC,any_eq_true→KD,cons_append→KE,foldl_cons→KG,nil_append→KH,map_nil→KI
open Nat renaming le_refl→Ke,zero_le→Kk,eq_zero_or_pos→KB,add_zero→KJ,lt_or_ge→KK
open Array renaming getElem?_extract→Kx,getElem?_toList→Ky,toList_inj→KF
open Int renaming le_refl→KL
open Nat renaming reduceAdd→jA,reduceSub→jB,reduceLT→jC,reduceLeDiff→jD,reduceEqDiff→jE
open Int renaming reduceToNat→jF,natCast_add→jH,natCast_one→jI,natCast_zero→jJ
open List renaming length_map→jK,length_cons→jL,length_nil→jM
set_option linter.all false
set_option maxHeartbeats 8000000
namespace Go.Proofs.YtlhedpgobaellaaGreatDoor
open Go.RowKit
namespace LB
abbrev aB4:List aA:=[
 ⟨some 4,none, .val (.move (.const (.int .i64 0)))⟩]
abbrev aB3:List aA:=[
 ⟨some 6,none, .val (.move (.slot 0))⟩,
 ⟨some 7,none, .val (.len (.slot 6))⟩,
 ⟨some 8,none, .val (.move (.const (.int .i64 0)))⟩]
abbrev aB2:List aA:=[
 ⟨some 9,none, .val (.bin .lss (.slot 8) (.slot 7))⟩]
abbrev aB1:List aA:=[
 ⟨some 10,none, .val (.move (.slot 8))⟩,
 ⟨some 5,none, .val (.move (.slot 10))⟩]
abbrev aB0(k:Sh):List aA:=[
 ⟨some 11,none, .val (.move (.slot 1))⟩,
 ⟨some 12,none, .val (.move (.slot 0))⟩,
 ⟨some 13,none, .val (.move (.slot 5))⟩,
 ⟨some 14,none, .val (.idxA k (.slot 12) (.slot 13))⟩,
 ⟨some 15,none, .val (.load k (.slot 14))⟩,
 ⟨some 16,none, .callv (.slot 11) [(.slot 15)]⟩]
abbrev aBz:List aA:=[
 ⟨some 17,none, .val (.move (.slot 5))⟩,
 ⟨some 4,none, .val (.move (.slot 17))⟩]
abbrev aBy:List aA:=[
 ⟨some 18,none, .val (.bin .add (.slot 8) (.const (.int .i64 1)))⟩,
 ⟨some 8,none, .val (.move (.slot 18))⟩]
abbrev aB5(k:Sh):aT:=(.seq (.ops aB2) (.seq (.cond (.slot 9) .skip (.exit 0)) (.seq (.block 1 (.seq (.ops aB1) (.seq (.ops (aB0 k)) (.cond (.slot 16) (.seq (.ops aBz) .ret) .skip)))) (.ops aBy))))
abbrev aBx:List aA:=[
 ⟨some 4,none, .val (.move (.const (.int .i64 (-1))))⟩]
def aAX(k:Sh):LFn:=⟨(.seq (.ops aB4) (.seq (.seq (.ops aB3) (.block 0 (.loop (aB5 k)))) (.seq (.ops aBx) .ret))),19,[.slot 4]⟩
abbrev aBA:List aA:=[
 ⟨some 4,none, .val (.move (.const (.bool false)))⟩]
abbrev aA9(f0:Nat):List aA:=[
 ⟨some 5,none, .val (.move (.slot 0))⟩,
 ⟨some 6,none, .val (.move (.slot 1))⟩,
 ⟨some 7,none, .call f0 [(.slot 5),(.slot 6)]⟩,
 ⟨some 8,none, .val (.bin .geq (.slot 7) (.const (.int .i64 0)))⟩,
 ⟨some 4,none, .val (.move (.slot 8))⟩]
def ContainsFunc(k:Sh)(f0:Nat):LFn:=⟨(.seq (.ops aBA) (.seq (.ops (aA9 f0)) .ret)),9,[.slot 4]⟩
abbrev aCA(k:Sh):List aA:=[
 ⟨some 2,none, .box .leaf (.slot 0)⟩,
 ⟨some 4,none, .val (.move (.const (.sl k .nil [])))⟩]
abbrev aB9:List aA:=[
 ⟨some 6,none, .val (.move (.slot 1))⟩]
abbrev aB8(k:Sh)(z:V):List aA:=[
 ⟨some 5,none, .box k (.const z)⟩,
 ⟨none,none, .store k (.slot 5) (.slot 7)⟩]
abbrev aB7(k:Sh)(bs:Nat):List aA:=[
 ⟨some 8,none, .val (.load .leaf (.slot 2))⟩,
 ⟨some 9,none, .val (.load k (.slot 5))⟩,
 ⟨some 10,none, .bslice k [(.slot 9)]⟩,
 ⟨some 11,none, .append k bs (.slot 8) (.slot 10)⟩,
 ⟨none,none, .store .leaf (.slot 2) (.slot 11)⟩]
abbrev aCB(k:Sh)(bs:Nat):aT:=(.block 1 (.ops (aB7 k bs)))
abbrev aB6:List aA:=[
 ⟨some 12,none, .val (.load .leaf (.slot 2))⟩,
 ⟨some 4,none, .val (.move (.slot 12))⟩]
def aBK(k:Sh)(z:V)(bs:Nat):LFn:=⟨(.seq (.ops (aCA k)) (.seq (.seq (.ops aB9) (.block 0 (.range (.slot 6) [7] (.ops (aB8 k z)) (aCB k bs)))) (.seq (.ops aB6) .ret))),13,[.slot 4]⟩
abbrev aCn(k:Sh):List aA:=[
 ⟨some 2,none, .val (.move (.const (.sl k .nil [])))⟩]
abbrev aCm(k:Sh)(f0:Nat):List aA:=[
 ⟨some 3,none, .val (.move (.slot 0))⟩,
 ⟨some 4,none, .call f0 [(.const (.sl k .nil [])),(.slot 3)]⟩,
 ⟨some 2,none, .val (.move (.slot 4))⟩]
def Collect(k:Sh)(f0:Nat):LFn:=⟨(.seq (.ops (aCn k)) (.seq (.ops (aCm k f0)) .ret)),5,[.slot 2]⟩
abbrev aEV(k:Sh):List aA:=[
 ⟨some 2,none, .val (.move (.const (.sl k .nil [])))⟩]
abbrev aEU(k:Sh):List aA:=[
 ⟨some 3,none, .val (.move (.slot 0))⟩,
 ⟨some 4,none, .val (.eq false .slice (.slot 3) (.const (.sl k .nil [])))⟩]
abbrev aET(k:Sh):List aA:=[
 ⟨some 2,none, .val (.move (.const (.sl k .nil [])))⟩]
abbrev aES(k:Sh)(bs:Nat):List aA:=[
 ⟨some 5,none, .bslice k []⟩,
 ⟨some 6,none, .val (.move (.slot 0))⟩,
 ⟨some 7,none, .append k bs (.slot 5) (.slot 6)⟩,
 ⟨some 2,none, .val (.move (.slot 7))⟩]
def aDq(k:Sh)(bs:Nat):LFn:=⟨(.seq (.ops (aEV k)) (.seq (.seq (.ops (aEU k)) (.cond (.slot 4) (.seq (.ops (aET k)) .ret) .skip)) (.seq (.ops (aES k bs)) .ret))),8,[.slot 2]⟩
abbrev aDo:List aA:=[
 ⟨some 4,none, .val (.move (.const (.int .i64 0)))⟩]
abbrev aDn(f0:Nat):List aA:=[
 ⟨some 7,none, .val (.move (.slot 0))⟩,
 ⟨some 8,none, .call f0 [(.slot 7)]⟩,
 ⟨some 5,none, .val (.move (.slot 8))⟩]
abbrev aDm(f0:Nat):List aA:=[
 ⟨some 9,none, .val (.move (.slot 1))⟩,
 ⟨some 10,none, .call f0 [(.slot 9)]⟩,
 ⟨some 6,none, .val (.move (.slot 10))⟩]
abbrev aDl:List aA:=[
 ⟨some 11,none, .val (.move (.slot 5))⟩]
abbrev aDk:List aA:=[
 ⟨some 12,none, .val (.move (.slot 6))⟩]
abbrev aDj:List aA:=[
 ⟨some 4,none, .val (.move (.const (.int .i64 0)))⟩]
abbrev aDi:List aA:=[
 ⟨some 4,none, .val (.move (.const (.int .i64 (-1))))⟩]
abbrev aDh:List aA:=[
 ⟨some 13,none, .val (.move (.slot 6))⟩]
abbrev aDg:List aA:=[
 ⟨some 4,none, .val (.move (.const (.int .i64 1)))⟩]
abbrev aDf:List aA:=[
 ⟨some 14,none, .val (.move (.slot 0))⟩,
 ⟨some 15,none, .val (.move (.slot 1))⟩,
 ⟨some 16,none, .val (.bin .lss (.slot 14) (.slot 15))⟩]
abbrev aCr:List aA:=[
 ⟨some 4,none, .val (.move (.const (.int .i64 (-1))))⟩]
abbrev aCq:List aA:=[
 ⟨some 17,none, .val (.move (.slot 0))⟩,
 ⟨some 18,none, .val (.move (.slot 1))⟩,
 ⟨some 19,none, .val (.bin .gtr (.slot 17) (.slot 18))⟩]
abbrev aCp:List aA:=[
 ⟨some 4,none, .val (.move (.const (.int .i64 1)))⟩]
abbrev aCo:List aA:=[
 ⟨some 4,none, .val (.move (.const (.int .i64 0)))⟩]
def aDp(f0:Nat):LFn:=⟨(.seq (.ops aDo) (.seq (.ops (aDn f0)) (.seq (.ops (aDm f0)) (.seq (.seq (.ops aDl) (.cond (.slot 11) (.seq (.seq (.ops aDk) (.cond (.slot 12) (.seq (.ops aDj) .ret) .skip)) (.seq (.ops aDi) .ret)) .skip)) (.seq (.seq (.ops aDh) (.cond (.slot 13) (.seq (.ops aDg) .ret) .skip)) (.seq (.seq (.ops aDf) (.cond (.slot 16) (.seq (.ops aCr) .ret) .skip)) (.seq (.seq (.ops aCq) (.cond (.slot 19) (.seq (.ops aCp) .ret) .skip)) (.seq (.ops aCo) .ret)))))))),20,[.slot 4]⟩
abbrev aEQ:List aA:=[
 ⟨some 2,none, .val (.move (.const (.int .i64 0)))⟩]
abbrev aEP:List aA:=[
 ⟨some 3,none, .val (.move (.const (.int .i64 0)))⟩]
abbrev aEO:List aA:=[
 ⟨some 6,none, .val (.move (.slot 0))⟩,
 ⟨some 7,none, .val (.len (.slot 6))⟩,
 ⟨some 8,none, .val (.move (.const (.int .i64 0)))⟩]
abbrev aEN:List aA:=[
 ⟨some 9,none, .val (.bin .lss (.slot 8) (.slot 7))⟩]
abbrev aEM:List aA:=[
 ⟨some 10,none, .val (.idxA .leaf (.slot 6) (.slot 8))⟩,
 ⟨some 11,none, .val (.load .leaf (.slot 10))⟩,
 ⟨some 5,none, .val (.move (.slot 11))⟩]
abbrev aEL:List aA:=[
 ⟨some 12,none, .val (.move (.slot 5))⟩,
 ⟨some 13,none, .val (.move (.slot 3))⟩,
 ⟨some 14,none, .val (.bin .neq (.slot 12) (.slot 13))⟩]
abbrev aEK:List aA:=[
 ⟨some 15,none, .val (.move (.slot 5))⟩,
 ⟨some 2,none, .val (.move (.slot 15))⟩]
abbrev aEJ:List aA:=[
 ⟨some 16,none, .val (.bin .add (.slot 8) (.const (.int .i64 1)))⟩,
 ⟨some 8,none, .val (.move (.slot 16))⟩]
abbrev aER:aT:=(.seq (.ops aEN) (.seq (.cond (.slot 9) .skip (.exit 0)) (.seq (.block 1 (.seq (.ops aEM) (.seq (.ops aEL) (.cond (.slot 14) (.seq (.ops aEK) .ret) .skip)))) (.ops aEJ))))
abbrev aEI:List aA:=[
 ⟨some 17,none, .val (.move (.slot 3))⟩,
 ⟨some 2,none, .val (.move (.slot 17))⟩]
def aOx:LFn:=⟨(.seq (.ops aEQ) (.seq (.ops aEP) (.seq (.seq (.ops aEO) (.block 0 (.loop aER))) (.seq (.ops aEI) .ret)))),18,[.slot 2]⟩
abbrev aDS:List aA:=[
 ⟨some 2,none, .val (.move (.const (.bool false)))⟩]
abbrev aDR:List aA:=[
 ⟨some 3,none, .val (.move (.slot 0))⟩,
 ⟨some 4,none, .val (.move (.slot 0))⟩,
 ⟨some 5,none, .val (.bin .neq (.slot 3) (.slot 4))⟩,
 ⟨some 2,none, .val (.move (.slot 5))⟩]
def aCZ:LFn:=⟨(.seq (.ops aDS) (.seq (.ops aDR) .ret)),6,[.slot 2]⟩
end LB
end Go.Proofs.YtlhedpgobaellaaGreatDoor
namespace Go.Proofs.YtlhedpgobaellaaGreatDoor
open Go.RowKit
theorem aL{α:Type}(f:α→V)(l:List α)(k:Nat)(h:k<l.length):(l.map f).getD k (.tup [])=f l[k]:=by
 rw[Kj,List.getElem?_eq_getElem (by simpa using h)];simp
def bN{α:Type}(p:α→Bool)(l:List α):Int:=match l.findIdx? p with
 |some i=>i
 |none=>-1
theorem rY{α:Type}(p:α→Bool)(l:List α):decide (0≤bN p l)=l.any p:=by
 unfold bN;cases hf:l.findIdx? p with
 |none=>
  rw[Kv] at hf;have:l.any p=false:=by
   rw[List.any_eq_false];intro x hx;simp[hf x hx]
  simp[this]
 |some i=>
  rw[Ko] at hf;obtain⟨h1,h2,_⟩:=hf;have:l.any p=true:=KD.2 ⟨l[i],Kq _,h2⟩;simp[this]
section
variable{P:Program}{k:Sh}{α:Type}(e:α→V)(hfit:∀x,(e x).fits k=true)
include hfit
theorem oJ{f:Nat}(hL:aE P f=some (LB.aAX k))(p:α→Bool)(own:Own)(l:List α)(g:Nat)(caps:List V)(h:Hp)(hp:∀x∈l,aM P g ([e x]++caps) h (.bool (p x)))(hl:l.length≤1000000000):
 aM P f [.sl k own (l.map e), .fn (.func g) [] caps] h (.int .i64 (bN p l)):=by
 refine aJ (fun L=>trivial) fun h' nx hh=>aB hL fun hd=>?_;refine ZK ?_;refine wle trivial ?_;refine wI (fun i:Nat=>i≤l.length∧∀x∈l.take i,p x=false) (fun i=>⟨aD 19 0 [(0, .sl k own (l.map e)),(1, .fn (.func g) [] caps),(7, .int .i64 l.length),(8, .int .i64 i)],h',nx⟩) (fun i=>l.length-i) 0 ⟨Kk _,Zm⟩ ?_ ?_
 ·refine AU (by simp only[WkL,aD,jH,jI,jJ,go_sem,reduceIte,jA,jB,jC,jD,reduceCtorEq,jE,jF]) ?_ ?_
  ·exact Ka _
  omega
 rintro i ⟨hi,hno⟩;refine Zk ?_;refine wl ?_;refine dI _ rfl (fun hc=>?_) (fun hc=>?_)
 ·have hlt:i<l.length:=by simpa using hc
  have hg:=aL e l i hlt;refine wle (ee2 hg hfit) ?_;refine eA rfl (hp l[i] (Kq _)) (by simp only[go_sem,reduceIte,jA,jB,jC,jD,reduceCtorEq,jE,jF]) hh ?_;refine Zn ?_;refine wl ?_;refine dI _ rfl (fun hc=>?_) (fun hc=>?_)
  ·refine wl ?_;refine dM ?_;repeat (first|with_reducible refine mR ?_|with_reducible refine iO ?_|with_reducible refine kF ?_|with_reducible refine kG ?_)
   refine aC h' (Ka _) ⟨?_,rfl⟩;refine Zn ?_;have:l.findIdx? p=some i:=by
    rw[Ko];refine⟨hlt,hc,fun j hj=>?_⟩;have:=hno l[j] (List.mem_take_iff_getElem.2 ⟨j,or,rfl⟩);simp[this]
   simp only[bN,this]
  refine wl ?_;refine oG (i+1) ⟨or,?_⟩ or ?_
  ·intro x hx;rw[Kd hlt,Ki,Ku] at hx;rcases hx with hx|rfl
   ·exact hno x hx
   exact hc
  rw[fY or or];refine AU (by simp only[WkL,aD,jH,jI,jJ,go_sem,reduceIte,jA,jB,jC,jD,reduceCtorEq,jE,jF]) ?_ ?_
  ·exact Ka _
  omega
 have hge:i=l.length:=by have:¬i<l.length:=by simpa using hc
                         omega
 refine rQ ?_;repeat (first|with_reducible refine mJ ?_|with_reducible refine lE ?_|with_reducible refine iR ?_|with_reducible refine cQ ZM ?_|with_reducible refine dY ?_|with_reducible refine aX ?_)
 refine wl ?_;refine dM (aC h' (Ka _) ⟨?_,rfl⟩);refine Zn ?_;rw[hge,List.take_length] at hno;have:l.findIdx? p=none:=by
  rw[Kv];exact fun x hx=>hno x hx
 simp only[bN,this]
theorem gU{f f0:Nat}(hL:aE P f=some (LB.ContainsFunc k f0))(hL0:aE P f0=some (LB.aAX k))(p:α→Bool)(own:Own)(l:List α)(g:Nat)(caps:List V)(h:Hp)(hp:∀x∈l,aM P g ([e x]++caps) h (.bool (p x)))(hl:l.length≤1000000000):
 aM P f [.sl k own (l.map e), .fn (.func g) [] caps] h (.bool (l.any p)):=by
 refine aJ (fun L=>trivial) fun h' nx hh=>aB hL fun hd=>?_;refine ZK ?_;refine wl ?_;refine aH (oJ e hfit hL0 p own l g caps h hp hl) (by simp only[go_sem,reduceIte,jA,jB,jC,jD,reduceCtorEq,jE,jF]) hh ?_;refine Zn ?_;refine wl ?_;refine dM (aC h' (Ka _) ⟨?_,rfl⟩);refine Zn ?_;rw[←rY]
end
section
variable{P:Program}{k:Sh}{α:Type}(e:α→V)(hfit:∀x,(e x).fits k=true)
include hfit
theorem j2{f bs:Nat}{z:V}(hL:aE P f=some (LB.aBK k z bs))(hz:z.fits k=true)(hbs:bs≤140737)(g:Nat)(caps:List V)(hb:Hp)(xs:List α)(hit:yc P g caps hb (xs.map fun x=>[e x]))(hl:xs.length≤100000000)
 (h':Hp) (nx:Nat) (hh:hb.has h'):
 aR P f [.sl k .nil [], .fn (.func g) [] caps] h' nx fun v h'' _=>(xs=[]∧v= .sl k .nil []∧h''=h')∨(xs≠ []∧∃id,nx≤id∧v= .rs id k 0 xs.length∧h''=h'.set id (.arr k (xs.map e))):=by
 refine aB hL fun hd=>?_;refine ZK ?_;refine wl ?_;have aAf:∀n,nx≤n→h' n=none:=fun n hn=>aS.none hd hn;obtain⟨I,hI⟩:∃I:Nat→Hp→Nat→Prop,∀i h nx1,I i h nx1↔(h'.le h∧∃acc,h nx=some (.arr .leaf [acc])∧((i=0∧acc= .sl k .nil [])∨(0<i∧∃id,nx≤id∧id≠nx∧id≠nx+1∧acc= .rs id k 0 i∧h id=some (.arr k ((xs.take i).map e))))):=⟨_,fun _ _ _=>Iff.rfl⟩;refine nC hit rfl Zm (aS.set hd Zm Zm _) I (fun _ _ _=>False) ?_ ?_ ?_ (fun _ _ _ _ h=>h.elim) (fun _ _ _ _ h=>h.elim) ?_ ?_ ?_ (fun _ _ _ h=>h.elim)
 ·intro i h nx1 hi;exact pI hh (yR ((hI _ _ _).1 hi).1)
 ·exact fun i h nx1 nx2 hi _=>(hI _ _ _).2 ((hI _ _ _).1 hi)
 ·intro i h nx1 b hi;obtain⟨hle,acc,h1,h2⟩:=(hI _ _ _).1 hi;refine(hI _ _ _).2 ⟨eH hle (aAf _ Zm) b,acc,?_,?_⟩
  ·simp only[Kc];rw[if_neg Zm];exact h1
  rcases h2 with h2|⟨hi,id,h3,h4,h5,h6,h7⟩
  ·exact .inl h2
  refine .inr ⟨hi,id,h3,h4,h5,h6,?_⟩;simp only[Kc];rw[if_neg h5];exact h7
 ·exact(hI _ _ _).2 ⟨eH (Ka _) (aAf _ Zm) _, .sl k .nil [],by simp[Kc], .inl ⟨rfl,rfl⟩⟩
 ·intro i hi h nx1 X hii hnx hX hdm;obtain⟨hle,acc,h1,h2⟩:=(hI _ _ _).1 hii;simp only at hnx hX;have hi':i<xs.length:=by simpa using hi
  have aO1:nx<nx1:=or;have e1:(nx=nx1)=False:=by simp;omega
  have e2:(nx+1=nx1)=False:=by simp;omega
  have e4:(nx1=nx+1)=False:=by simp;omega
  have e6:(nx1=nx)=False:=by simp;omega
  have e7:(nx=nx1+2)=False:=by simp;omega
  have e8:(nx+1=nx1+2)=False:=by simp;omega
  have e9:(nx=nx1+3)=False:=by simp;omega
  have e10:(nx+1=nx1+3)=False:=by simp;omega
  have hx:(xs.map fun x=>[e x])[i]=[e xs[i]]:=Zm;simp only[aAR,hx,List.set_cons_succ,List.set_cons_zero];refine wle (ee5 hz hfit e1 e2 e4) ?_;refine lP (by simp only[e1,e2,e4,go_sem,reduceIte,jA,jB,jC,jD,reduceCtorEq,jE,jF];exact hX) fun X'=>?_;refine Zn ?_;refine bK (cG ?_);have hone:∀(h'':Hp) (nx2 id:Nat),h'.le h''→nx1≤id→h'' nx=some (.arr .leaf [.rs id k 0 (i+1)])→h'' (nx+1)=some X'→h'' id=some (.arr k ((xs.take (i+1)).map e))→∀sl,fK 1 (mX (nx+1) X' (I (i+1)) (fun _ _ _=>False)) .normal ⟨sl,h'',nx2⟩:=by
   intro h'' nx2 id q1 q2 q3 q4 q5 sl;exact aU (fV q4 ((hI _ _ _).2 ⟨q1,_,q3, .inr ⟨or,id,or,or,or,rfl,q5⟩⟩))
  generalize hQ:fK 1 (mX (nx+1) X' (I (i+1)) (fun _ _ _=>False)) .normal=Qn at hone⊢;have aAS:∀n b,nx1≤n→∀{h2:Hp},h'.le h2→h'.le (h2.set n b):=fun n b hn h2 q=>eH q (aAf n or) b;have aCu:∀n,nx≤n→∀{h2:Hp},h'.le h2→∀b,h'.le (h2.set n b):=fun n hn h2 q b=>eH q (aAf n hn) b;rcases h2 with⟨rfl,rfl⟩|⟨aAk,id,h3,h4,h5,rfl,h7⟩
  ·refine sV 3 rfl (by simp only[h1,hfit,hz,e1,e2,e4,e6,go_sem,reduceIte,jA,jB,jC,jD,reduceCtorEq,jE,jF]) ?_;simp only[h1,hfit,hz,e1,e2,e4,e6,go_sem,reduceIte,jA,jB,jC,jD,reduceCtorEq,jE,jF];refine fO rfl rfl Zm (by simp only[jL,jM];omega) ?_;refine cF rfl (by simp only[h1,hfit,hz,e1,e2,e4,e6,e7,e8,e9,e10,go_sem,reduceIte,jA,jB,jC,jD,reduceCtorEq,jE,jF];try omega) ?_;simp only[h1,hfit,hz,e1,e2,e4,e6,e7,e8,e9,e10,go_sem,reduceIte,jA,jB,jC,jD,reduceCtorEq,jE,jF];refine hone _ _ (nx1+3) ?_ or ?_ ?_ ?_ _
   ·repeat (first|exact hle|refine aCu _ or ?_ _)
   ·simp only[h1,e1,e2,e4,e6,e7,e8,e9,e10,go_sem,reduceIte,jA,jB,jC,jD,reduceCtorEq,jE,jF]
   ·simp only[h1,e1,e2,e4,e6,e7,e8,e9,e10,go_sem,reduceIte,jA,jB,jC,jD,reduceCtorEq,jE,jF]
   have:xs.take (0+1)=[xs[0]]:=by
    cases xs with
    |nil=>simp at hi'
    |cons x l=>simp
   rw[this];simp only[Kg,KI,go_sem,reduceIte,jA,jB,jC,jD,reduceCtorEq,jE,jF];have:(nx1+3=nx)=False:=by simp;omega
   simp only[this,go_sem,reduceIte,jA,jB,jC,jD,reduceCtorEq,jE,jF]
  have hid:id<nx1:=hdm _ _ h7;have f1:(id=nx1)=False:=by simp;omega
  have f2:(id=nx1+2)=False:=by simp;omega
  have f3:(id=nx)=False:=by simp;omega
  have f4:(id=nx+1)=False:=by simp;omega
  have f5:(id=nx1+3)=False:=by simp;omega
  have f6:(nx=id)=False:=by simp;omega
  have f7:(nx+1=id)=False:=by simp;omega
  have f8:(nx1+3=id)=False:=by simp;omega
  have hlen:((xs.take i).map e).length=i:=by simp;omega
  have hb1:(i+1)*bs≤140737488355328:=tD or hbs;refine cF rfl (by simp only[h1,h7,hlen,hb1,hfit,hz,e1,e2,e4,e6,e7,e8,e9,e10,f1,f2,f3,f4,f5,f6,f7,f8,go_sem,reduceIte,jA,jB,jC,jD,reduceCtorEq,jE,jF];try omega) ?_;simp only[h1,h7,hlen,hb1,hfit,hz,e1,e2,e4,e6,e7,e8,e9,e10,f1,f2,f3,f4,f5,f6,f7,f8,go_sem,reduceIte,jA,jB,jC,jD,reduceCtorEq,jE,jF];refine hone _ _ (nx1+3) ?_ or ?_ ?_ ?_ _
  ·repeat (first|exact hle|refine aCu _ or ?_ _|refine lU ?_ (aAf _ h3))
  ·simp only[h1,e1,e2,e4,e6,e7,e8,e9,e10,go_sem,reduceIte,jA,jB,jC,jD,reduceCtorEq,jE,jF]
  ·simp only[h1,e1,e2,e4,e6,e7,e8,e9,e10,f6,f7,go_sem,reduceIte,jA,jB,jC,jD,reduceCtorEq,jE,jF]
  have:(nx1+3=nx)=False:=by simp;omega
  rw[Kd hi',List.map_append];simp only[this,Kg,KI,go_sem,reduceIte,jA,jB,jC,jD,reduceCtorEq,jE,jF]
 intro h nx1 hii hnx hdm;obtain⟨hle,acc,h1,h2⟩:=(hI _ _ _).1 hii;simp only at hnx;have e1:(nx=nx+1)=False:=Zm;refine wle (ee2 h1 e1) ?_;rcases h2 with⟨h2,rfl⟩|⟨aAk,id,h3,h4,h5,rfl,h7⟩
 ·refine dM (aC h' ?_ (.inl ⟨?_,?_,rfl⟩))
  ·exact lU hle (aAf _ Zm)
  ·cases xs with
   |nil=>rfl
   |cons x l=>simp at h2
  simp only[go_sem,reduceIte,jA,jB,jC,jD,reduceCtorEq,jE,jF]
 have hne:xs≠ []:=by rintro rfl;simp at aAk
 refine dM (aC (h'.set id (.arr k (xs.map e))) ?_ (.inr ⟨hne,id,h3,?_,rfl⟩))
 ·refine xX (lU hle (aAf _ Zm)) ?_;simp only[Hp.aAw];rw[if_neg h5,h7];simp
 simp only[jK,go_sem,reduceIte,jA,jB,jC,jD,reduceCtorEq,jE,jF]
theorem xc{f f0 bs:Nat}{z:V}(hL:aE P f=some (LB.Collect k f0))(hL0:aE P f0=some (LB.aBK k z bs))(hz:z.fits k=true)(hbs:bs≤140737)(g:Nat)(caps:List V)(hb:Hp)(xs:List α)(hit:yc P g caps hb (xs.map fun x=>[e x]))(hl:xs.length≤100000000)
 (h':Hp) (nx:Nat) (hh:hb.has h'):
 aR P f [.fn (.func g) [] caps] h' nx fun v h'' _=>(xs=[]∧v= .sl k .nil []∧h''=h')∨(xs≠ []∧∃id,nx≤id∧v= .rs id k 0 xs.length∧h''=h'.set id (.arr k (xs.map e))):=by
 refine aB hL fun hd=>?_;refine ZK ?_;refine wl ?_;refine aV ((j2 e hfit hL0 hz hbs g caps hb xs hit hl _ _ hh).mono ?_);intro v h'' nx' hnx hv;unfold bW;refine Zn ?_;refine wl ?_;exact dM (aC h'' (Ka _) hv)
end
end Go.Proofs.YtlhedpgobaellaaGreatDoor
namespace Go.Proofs.YtlhedpgobaellaaGreatDoor
open Go.RowKit Go.Sort Go.Shelf Go.Lib
theorem VR.refro{K:Ker}{F:Nat→Prop}(hF:∀b,K.fro b→F b){v:V}{cv:Value}(r:VR K v cv):VR {K with fro:=F} v cv:=by
 have st:∀b o,K.still b o→Ker.still {K with fro:=F} b o:=fun b o h=>h.elim (fun h=> .inl (hF b h)) .inr;induction r with
 |bool b=>exact .bool b
 |int k n=>exact .int k n
 |str s=>exact .str s
 |nilPtr=>exact .nilPtr
 |ptr n k i o hn=>exact .ptr (K:={K with fro:=F}) n k i o hn
 |ept k es i o b off f hb hfit hcell hst hv ih=>exact .ept (K:={K with fro:=F}) k es i o b off f hb hfit hcell (fun j hj=>st _ _ (hst j hj)) ih
 |slnil k=>exact .slnil k
 |slz k a=>exact .slz k a
 |sl k own es b off cap f hb hfit hcell hst hv hcap hnil hfull htok ih=>exact .sl (K:={K with fro:=F}) k own es b off cap f hb hfit hcell (fun j hj=>st _ _ (hst j hj)) ih hcap hnil hfull htok
 |rs n k off len cap hn hcap hm=>exact .rs (K:={K with fro:=F}) n k off len cap hn hcap hm
 |aAG=>exact .aAG
 |map n hn=>exact .map (K:={K with fro:=F}) n hn
 |aAL=>exact .aAL
 |chan n hn=>exact .chan (K:={K with fro:=F}) n hn
 |fn f first cap cfirst ccap h1 h2 _ _ v1 v2=>exact .fn f first cap cfirst ccap h1 h2 v1 v2
 |aAV=>exact .aAV
 |yld n hn=>exact .yld (K:={K with fro:=F}) n hn
 |iface t v cv _ ih=>exact .iface t v cv ih
 |nilIface=>exact .nilIface
 |agg cs ccs hl _ ih=>exact .agg cs ccs hl ih
 |tup cs ccs hl _ ih=>exact .tup cs ccs hl ih
 |top cv=>exact .top cv
theorem CO{w w':World}(h:pN (fun b=>b<w.heap.size) w w'):∃q os',w'=grow (w.drewN q) os':=by
 refine⟨w'.drawn-w.drawn,w'.heap.extract w.heap.size w'.heap.size,?_⟩;obtain⟨h1,h2,h3,h4,h5,h6⟩:=h;obtain⟨heap,tape,drawn,os,output⟩:=w;obtain⟨aPr,aYq,aYh,os',aPH⟩:=w';simp only at h1 h2 h3 h4 h5 h6;subst h1 h2 h3;unfold grow World.drewN;simp only[World.mk.injEq,and_true,true_and];refine⟨?_,or⟩;apply Array.ext_getElem?;intro i;by_cases hi:i<heap.size
 ·rw[h6 i hi (.inl hi),Array.getElem?_append_left hi]
 rw[Array.getElem?_append_right or,Kx];by_cases hi2:i<aPr.size
 ·rw[if_pos or];congr 1;omega
 rw[if_neg or,Array.getElem?_eq_none or]
theorem sx{α β:Type}(f:α→β){cf:β→β→Int}(h:SWO (ltOf cf)):SWO (ltOf fun x y:α=>cf (f x) (f y)):=
 ⟨fun x=>h.irrefl (f x),fun x y z=>h.trans (f x) (f y) (f z),fun x y z=>h.ntrans (f x) (f y) (f z)⟩
def jj{δ:Type}(cf:δ→δ→Int)(l:List δ):Prop:=l.Pairwise fun x y=>ltOf cf y x=false
end Go.Proofs.YtlhedpgobaellaaGreatDoor
namespace Go.Proofs.YtlhedpgobaellaaGreatDoor
open Go.RowKit Go.Sort Go.Shelf Go.Lib
def lst(k:Sh)(es:List V):V:=if es.isEmpty=true then .sl k .nil [] else .sl k .free es
theorem Be(k:Sh):lst k []= .sl k .nil []:=rfl
theorem ED(k:Sh)(e:V)(es:List V):lst k (e::es)= .sl k .free (e::es):=rfl
theorem cV{k:Sh}{es:List V}(h:∀L,bM L es)(L:Nat→Prop):(lst k es).names L:=by
 unfold lst;split<;>simp[V.names,h L,bM]
theorem bX(k:Sh)(es:List V):∃own,lst k es= .sl k own es:=by
 cases es with
 |nil=>exact⟨.nil,rfl⟩
 |cons e es=>exact⟨.free,rfl⟩
theorem Cv(k:Sh)(es:List V):(lst k es).aAE=true:=by cases es<;>rfl
def jl(nx:Nat)(h:Hp)(k:Sh)(es:List V)(v:V)(h':Hp):Prop:=
 (es=[]∧v= .sl k .nil []∧h'=h)∨(es≠ []∧∃id,nx≤id∧v= .sl k (.tok id) es∧h'=h.set id .tip)
def rn(nx:Nat)(h:Hp)(k:Sh)(es:List V)(v:V)(h':Hp):Prop:=
 (es=[]∧v= .sl k .nil []∧h'=h)∨(es≠ []∧∃id,nx≤id∧v= .rs id k 0 es.length∧h'=h.set id (.arr k es))
theorem jl.loose{nx:Nat}{h:Hp}{k:Sh}{es:List V}{v:V}{h':Hp}(f:jl nx h k es v h'):v.loose=lst k es:=by
 rcases f with⟨rfl,rfl,_⟩|⟨hne,id,_,rfl,_⟩
 ·rfl
 cases es with
 |nil=>exact absurd rfl hne
 |cons=>rfl
theorem jl.le{nx:Nat}{h:Hp}{k:Sh}{es:List V}{v:V}{h':Hp}(f:jl nx h k es v h')(hd:aS h nx):h.le h':=by
 rcases f with⟨_,_,rfl⟩|⟨_,id,hid,_,rfl⟩
 ·exact Ka _
 exact eH (Ka _) (hd.none hid) _
theorem aR.conv{P:Program}{f:FuncId}{args:List V}{h:Hp}{nx:Nat}{R R':V→Hp→Nat→Prop}(c:aR P f args h nx R)(hc:∀v h' nx',nx≤nx'→aS h' nx'→R v h' nx'→∃h2,h2.le h'∧R' v.loose h2 nx'):aR P f args h nx R':=by
 refine⟨c.1,fun K cargs hl hr hv=>(c.2 K cargs hl hr hv).mono ?_⟩;rintro e w' ⟨K',v,cv,h',nx',rfl,he,hle,hvr,hrel,hlv,hnx,hR⟩;obtain⟨h2,q1,q2⟩:=hc v h' nx' hnx (fun m b hm=>(hlv m (hrel.lt m b hm)).1) hR;exact⟨K',v.loose,cv,h2,nx',rfl,he,hle,hvr.loose,hrel.weaken q1,hlv,hnx,q2⟩
theorem fW{P:Program}{f:FuncId}{args:List V}{h:Hp}{v:V}(hv:∀L,v.names L)(hc:∀h' nx,h.has h'→aR P f args h' nx fun v' h'' _=>v'.loose=v∧h'.le h''):aM P f args h v:=
 aJ hv fun h' nx hh=>(hc h' nx hh).conv fun v' h'' nx' _ _ hq=>⟨h',hq.2,hq.1,rfl⟩
theorem aR.aGO{P:Program}{f:FuncId}{args:List V}{h:Hp}{nx:Nat}{k:Sh}{G:List V→Prop}
 (c:aR P f args h nx fun v h' _=>∃es,G es∧rn nx h k es v h'):aR P f args h nx fun v h' _=>∃es,G es∧jl nx h k es v h':=by
 refine⟨c.1,fun K cargs hl hr hv=>(c.2 K cargs hl hr hv).mono ?_⟩;rintro e w' ⟨K',v,cv,h',nx',rfl,he,hle,hvr,hrel,hlv,hnx,es,hG,(⟨rfl,rfl,rfl⟩|⟨hne,n,hn,rfl,rfl⟩)⟩
 ·exact⟨K',_,cv,_,nx',rfl,he,hle,hvr,hrel,hlv,hnx,[],hG, .inl ⟨rfl,rfl,rfl⟩⟩
 have hfr:¬K'.live nx':=fun hh=>Nat.lt_irrefl _ (hlv nx' hh).1;have aAQ:(h.set n (.arr k es)) n=some (.arr k es):=by simp[Hp.set]
 obtain⟨K'',q1,q2,q3,q4,q5⟩:=freeze hrel aAQ hfr hvr;have aBL:h n=none:=by
  cases hd:h n with
  |none=>rfl
  |some b=>exact absurd (hl n (hr.lt n b hd)) or
 have hh:((h.set n (.arr k es)).del n).set nx' .tip=h.set nx' .tip:=by
  funext x;unfold Hp.set Hp.del;by_cases e1:x=nx'
  ·simp[e1]
  by_cases e2:x=n
  ·subst e2;simp[e1,aBL]
  simp[e1,e2]
 rw[hh] at q5;refine⟨K'',_,cv,_,nx'+1,q1,he,hle.trans q2,q4,q5,fun m hm=>?_,or,es,hG, .inr ⟨hne,nx',hnx,rfl,rfl⟩⟩;rcases q3 m hm with hm|rfl
 ·exact⟨by have:=(hlv m hm).1;omega,(hlv m hm).2⟩
 exact⟨or, .inr hnx⟩
theorem jq{P:Program}{ρ:Ren}(L:SlLaysF0.n6 P ρ)(hen:kP P (ρ.f 6)=true)(k:Sh)(fv:V)(h:Hp)(nx:Nat):aR P (ρ.f 6) [.sl k .nil [],fv] h nx fun v h' nx'=>v= .tup []∧h'=h:=by
 refine⟨hen,fun K cargs hlv hr hv=>?_⟩;obtain⟨hsz,hv⟩:=hv;have hsz:cargs.size=2:=by simpa using hsz.symm
 obtain⟨c1,c2,rfl⟩:∃c1 c2,cargs=#[c1,c2]:=⟨cargs[0],cargs[1],by
  apply Array.ext
  ·simp[hsz]
  intro i h1 h2;have:i=0∨i=1:=by simp at h2;omega
  rcases this with rfl|rfl<;>rfl⟩
 have v1:VR K (.sl k .nil []) c1:=hv 0 Zm;cases v1 with
 |sl _ _ _ b off cap f hb hfit hcell hst hv hcap hnil hfull htok=>exact absurd rfl hnil
 |slnil=>
  refine(AnyF.slices_SortFunc_none L none 0 c2 K.w).mono ?_;rintro e w' ⟨rfl,rfl⟩;exact⟨K, .tup [], .tuple #[],h,nx,rfl,rfl, .refl K, .tup [] #[] rfl (fun i hi=>absurd hi Zm),hr,fun n hn=>⟨hlv n hn, .inl hn⟩,Ke _,rfl,rfl⟩
section
variable{P:Program}{α:Type}(e:α→V)
end
end Go.Proofs.YtlhedpgobaellaaGreatDoor
namespace Go.Proofs.YtlhedpgobaellaaGreatDoor
open Go.RowKit
def tG(a b:Int):Int:=if a<b then-1 else if b<a then 1 else 0
theorem nq{P:Program}{f:Nat}(hL:aE P f=some LB.aCZ)(a:Int)(h:Hp):aM P f [.int .i64 a] h (.bool false):=by
 refine aJ (fun L=>trivial) fun h' nx hh=>aB hL fun hd=>?_;refine ZK ?_;refine wl ?_;refine dM (aC h' (Ka _) ⟨?_,rfl⟩);simp[bne]
theorem iy{P:Program}{f f0:Nat}(hL:aE P f=some (LB.aDp f0))(hL0:aE P f0=some LB.aCZ)(a b:Int)(h:Hp):aM P f [.int .i64 a, .int .i64 b] h (.int .i64 (tG a b)):=by
 refine aJ (fun L=>trivial) fun h' nx hh=>aB hL fun hd=>?_;refine ZK ?_;refine wl ?_;refine aH (nq hL0 a _) rfl (aI _) ?_;refine Zn ?_;refine wl ?_;refine aH (nq hL0 b _) rfl (aI _) ?_;refine Zn ?_;refine wl ?_;refine dI _ rfl (fun hc=>?_) (fun hc=>?_)
 ·cases hc
 refine wl ?_;refine dI _ rfl (fun hc=>?_) (fun hc=>?_)
 ·cases hc
 refine wl ?_;refine dI _ rfl (fun hc=>?_) (fun hc=>?_)
 ·refine wl ?_;refine dM ?_;repeat (first|with_reducible refine mR ?_|with_reducible refine iO ?_|with_reducible refine kF ?_|with_reducible refine kG ?_)
  refine aC h' (Ka _) ⟨?_,rfl⟩;have:a<b:=by simpa using hc
  simp only[tG,if_pos this,go_sem,reduceIte,jA,jB,jC,jD,reduceCtorEq,jE,jF]
 refine wl ?_;have h1:¬a<b:=by simpa using hc
 refine dI _ rfl (fun hc2=>?_) (fun hc2=>?_)
 ·refine wl ?_;refine dM ?_;repeat (first|with_reducible refine mR ?_|with_reducible refine iO ?_|with_reducible refine kF ?_|with_reducible refine kG ?_)
  refine aC h' (Ka _) ⟨?_,rfl⟩;have:b<a:=by simpa using hc2
  simp only[tG,if_neg h1,if_pos this,go_sem,reduceIte,jA,jB,jC,jD,reduceCtorEq,jE,jF]
 refine wl ?_;have h2:¬b<a:=by simpa using hc2
 refine dM (aC h' (Ka _) ⟨?_,rfl⟩);simp only[tG,if_neg h1,if_neg h2,go_sem,reduceIte,jA,jB,jC,jD,reduceCtorEq,jE,jF]
def orI:List Int→Int
 | []=>0
 |x::l=>if x=0 then orI l else x
theorem Ce{P:Program}{f:Nat}(hL:aE P f=some LB.aOx)(own:Own)(l:List Int)(hl:l.length≤1000000000)(h:Hp):aM P f [.sl .leaf own (l.map (V.int .i64))] h (.int .i64 (orI l)):=by
 refine aJ (fun L=>trivial) fun h' nx hh=>aB hL fun hd=>?_;refine ZK ?_;refine wle trivial ?_;refine wI (fun i:Nat=>i≤l.length∧orI l=orI (l.drop i)) (fun i=>⟨aD 18 0 [(0, .sl .leaf own (l.map (V.int .i64))),(3, .int .i64 0),(6, .sl .leaf own (l.map (V.int .i64))),(7, .int .i64 l.length),(8, .int .i64 i)],h',nx⟩) (fun i=>l.length-i) 0 ⟨Kk _,Zm⟩ ?_ ?_
 ·refine AU (by simp only[WkL,aD,jH,jI,jJ,go_sem,reduceIte,jA,jB,jC,jD,reduceCtorEq,jE,jF]) ?_ ?_
  ·exact Ka _
  omega
 rintro i ⟨hi,hno⟩;refine Zk ?_;refine wl ?_;refine dI _ rfl (fun hc=>?_) (fun hc=>?_)
 ·have hlt:i<l.length:=by simpa using hc
  have hg:=aL (V.int .i64) l i hlt;refine wle hg ?_;rw[List.drop_eq_getElem_cons hlt] at hno;refine dI _ rfl (fun hc=>?_) (fun hc=>?_)
  ·refine wl ?_;refine dM ?_;repeat (first|with_reducible refine mR ?_|with_reducible refine iO ?_|with_reducible refine kF ?_|with_reducible refine kG ?_)
   refine aC h' (Ka _) ⟨?_,rfl⟩;have:l[i]≠0:=by simpa using hc
   simp only[hno,orI,if_neg this,go_sem,reduceIte,jA,jB,jC,jD,reduceCtorEq,jE,jF]
  refine wl ?_;have:l[i]=0:=by simpa using hc
  refine oG (i+1) ⟨or,by rw[hno];simp[orI,this]⟩ or ?_;rw[fY or or];refine AU (by simp only[WkL,aD,jH,jI,jJ,go_sem,reduceIte,jA,jB,jC,jD,reduceCtorEq,jE,jF]) ?_ ?_
  ·exact Ka _
  omega
 have hge:i=l.length:=by have:¬i<l.length:=by simpa using hc
                         omega
 refine rQ ?_;repeat (first|with_reducible refine mJ ?_|with_reducible refine lE ?_|with_reducible refine iR ?_|with_reducible refine cQ ZM ?_|with_reducible refine dY ?_|with_reducible refine aX ?_)
 refine wl ?_;refine dM (aC h' (Ka _) ⟨?_,rfl⟩);refine Zn ?_;rw[hno,hge,List.drop_length];rfl
section
variable{P:Program}{k:Sh}{α:Type}(e:α→V)(hfit:∀x,(e x).fits k=true)
include hfit
end
def AQ(k:Sh)(own:Own)(es:List V)(nx:Nat)(h:Hp)(v:V)(h':Hp):Prop:=(own= .nil∧v= .sl k .nil []∧h'=h)∨(own≠ .nil∧∃id,nx≤id∧v= .sl k (.tok id) es∧h'=h.set id .tip)
theorem zX{P:Program}{k:Sh}{f bs:Nat}(hL:aE P f=some (LB.aDq k bs))(hbs:bs≤140737)(own:Own)(es:List V)(hl:es.length≤1000000000)(hn:own= .nil→es=[])(h:Hp)(nx:Nat):
 aR P f [.sl k own es] h nx fun v h' _=>AQ k own es nx h v h':=by
 refine aB hL fun hd=>?_;refine ZK ?_;refine wl ?_;by_cases ho:own= .nil
 ·subst ho;refine dI _ rfl (fun hc=>?_) (fun hc=>?_)
  ·refine wl ?_;refine dM ?_;repeat (first|with_reducible refine mR ?_|with_reducible refine iO ?_|with_reducible refine kF ?_|with_reducible refine kG ?_)
   refine aC h (Ka _) (.inl ⟨rfl,?_,rfl⟩);simp only[go_sem,reduceIte,jA,jB,jC,jD,reduceCtorEq,jE,jF]
  cases hc
 refine dI _ rfl (fun hc=>?_) (fun hc=>?_)
 ·exact absurd (by simpa using hc) ho
 have hb1:es.length*bs≤140737488355328:=tD hl hbs;repeat (first|with_reducible refine bS ?_|with_reducible refine bK ?_|with_reducible refine cE ?_|with_reducible refine aX ?_|with_reducible refine aU ?_|with_reducible refine cG ?_|(refine cF rfl (by simp only[dQ,hb1,go_sem,reduceIte,jA,jB,jC,jD,reduceCtorEq,jE,jF];try omega) ?_;simp only[dQ,hb1,go_sem,reduceIte,jA,jB,jC,jD,reduceCtorEq,jE,jF])|(with_reducible refine bQ ?_))
 refine dM (aC (h.set (nx+1) .tip) ?_ (.inr ⟨ho,nx+1,or,?_,rfl⟩))
 ·intro m b e;have hm:∀b,h m=some b→m<nx:=fun b hb=>hd m b hb;simp only[Kc,Hp.aAw] at e⊢;split at e
  ·rename_i e1;rw[if_pos e1];exact e
  rename_i e1;have:=hm _ e;rw[if_neg e1,if_neg or,if_neg or];exact e
 simp only[go_sem,reduceIte,jA,jB,jC,jD,reduceCtorEq,jE,jF]
theorem vG{P:Program}{k:Sh}{f bs:Nat}(hL:aE P f=some (LB.aDq k bs))(hbs:bs≤140737)(own:Own)(es:List V)(hl:es.length≤1000000000)(hn:own= .nil→es=[])(hnm:∀L,bM L es)(h:Hp):
 aM P f [.sl k own es] h (V.sl k own es).loose:=by
 refine fW (fun L=>by cases own<;>simp[V.loose,V.names,hnm L,bM]) fun h' nx hh=>?_;have c:=zX hL hbs own es hl hn h' nx;refine⟨c.1,fun K cargs hlv hr hv=>((c.mono (R':=fun v' h'' _=>v'.loose=(V.sl k own es).loose∧h'.le h'') ?_).2 K cargs hlv hr hv)⟩;rintro v h'' nx' hnx (⟨rfl,rfl,rfl⟩|⟨ho,id,hid,rfl,rfl⟩)
 ·have he:=hn rfl;subst he;exact⟨rfl,Ka _⟩
 refine⟨(by cases own<;>first|exact absurd rfl ho|rfl),eH (Ka _) (aS.none (fun m b hm=>hlv m (hr.lt m b hm)) hid) _⟩
end Go.Proofs.YtlhedpgobaellaaGreatDoor
namespace Go.Proofs.YtlhedpgobaellaaGreatDoor
open Go.RowKit Go.Sort
structure C3{α:Type}(c:α→α→Int):Prop where
 eq:∀x y,c x y=0↔x=y
 aCE:∀x y,c x y<0↔0<c y x
 trans:∀x y z,c x y<0→c y z<0→c x z<0
section
variable{α β:Type}
def orC(a b:Int):Int:=if a=0 then b else a
theorem C3.self{c:α→α→Int}(h:C3 c)(x:α):c x x=0:=(h.eq x x).2 rfl
theorem C3.pos{c:α→α→Int}(h:C3 c){x y:α}(k:c x y≠0)(k2:¬c x y<0):c y x<0:=(h.aCE y x).2 or
theorem C3.lex{c:α→α→Int}{d:β→β→Int}(hc:C3 c)(hd:C3 d):C3 fun x y:α×β=>orC (c x.1 y.1) (d x.2 y.2) where
 eq x y:=by
  unfold orC;split
  ·rename_i h;rw[hd.eq,Prod.ext_iff,(hc.eq _ _).1 h];simp
  rename_i h;refine⟨fun e=>absurd e h,fun e=>absurd ((hc.eq _ _).2 (by rw[e])) h⟩
 aCE x y:=by
  unfold orC;by_cases h:c x.1 y.1=0
  ·have e:=(hc.eq _ _).1 h;rw[if_pos h,if_pos (by rw[e];exact hc.self _)];exact hd.aCE _ _
  have e:c y.1 x.1≠0:=fun e=>h ((hc.eq _ _).2 ((hc.eq _ _).1 e).symm);rw[if_neg h,if_neg e];exact hc.aCE _ _
 trans x y z:=by
  unfold orC;by_cases h:c x.1 y.1=0
  ·rw[if_pos h,(hc.eq _ _).1 h];by_cases h2:c y.1 z.1=0
   ·rw[if_pos h2,if_pos h2];exact hd.trans _ _ _
   rw[if_neg h2,if_neg h2];exact fun _ h=>h
  rw[if_neg h];intro h1;by_cases h2:c y.1 z.1=0
  ·rw[if_pos h2];intro _;have e:=(hc.eq _ _).1 h2;rw[←e,if_neg h];exact h1
  rw[if_neg h2];intro h3;have:=hc.trans _ _ _ h1 h3;rw[if_neg or];exact this
theorem C3.on{c:β→β→Int}(hc:C3 c){f:α→β}(hf:∀x y,f x=f y→x=y):C3 fun x y=>c (f x) (f y):=
 ⟨fun x y=>(hc.eq _ _).trans ⟨hf x y,fun e=>by rw[e]⟩,fun x y=>hc.aCE _ _,fun x y z=>hc.trans _ _ _⟩
def eT(c:α→α→Int):List α→List α→Int
 | [],[]=>0
 | [],_::_=>-1
 |_::_,[]=>1
 |a::x,b::y=>orC (c a b) (eT c x y)
theorem Bz{c:α→α→Int}(h:C3 c):∀x y,eT c x y=0↔x=y
 | [],[]=>by simp[eT]
 | [],_::_=>by simp[eT]
 |_::_,[]=>by simp[eT]
 |a::x,b::y=>by
  unfold eT orC;split
  ·rename_i e;rw[Bz h x y,(h.eq _ _).1 e];simp
  rename_i e;refine⟨fun k=>absurd k e,fun k=>absurd ((h.eq _ _).2 (by injection k)) e⟩
theorem ou{c:α→α→Int}(h:C3 c):∀x y,eT c x y<0↔0<eT c y x
 | [],[]=>by simp[eT]
 | [],_::_=>by simp[eT]
 |_::_,[]=>by simp[eT]
 |a::x,b::y=>by
  unfold eT orC;by_cases k:c a b=0
  ·have e:=(h.eq _ _).1 k;rw[if_pos k,if_pos (by rw[e];exact h.self _)];exact ou h x y
  rw[if_neg k,if_neg fun e=>k ((h.eq _ _).2 ((h.eq _ _).1 e).symm)];exact h.aCE _ _
theorem ix{c:α→α→Int}(h:C3 c):∀x y z,eT c x y<0→eT c y z<0→eT c x z<0
 | [],[],_=>by simp[eT]
 |_::_,[],_=>by simp[eT]
 | [],_::_,[]=>by simp[eT]
 | [],_::_,_::_=>by simp[eT]
 |_::_,_::_,[]=>by simp[eT]
 |a::x,b::y,d::z=>by
  unfold eT orC;by_cases k:c a b=0
  ·rw[if_pos k,(h.eq _ _).1 k];by_cases k2:c b d=0
   ·rw[if_pos k2,if_pos k2];exact ix h x y z
   rw[if_neg k2,if_neg k2];exact fun _ h=>h
  rw[if_neg k];intro h1;by_cases h2:c b d=0
  ·rw[if_pos h2];intro _;rw[←(h.eq _ _).1 h2,if_neg k];exact h1
  rw[if_neg h2];intro h3;have:=h.trans _ _ _ h1 h3;rw[if_neg or];exact this
theorem C3.list{c:α→α→Int}(h:C3 c):C3 (eT c):=⟨Bz h,ou h,ix h⟩
theorem C3.swo{c:α→α→Int}(h:C3 c):SWO (ltOf c) where
 irrefl x:=by simp[ltOf,h.self]
 trans x y z:=by simp only[ltOf,decide_eq_true_eq];exact h.trans x y z
 ntrans x y z:=by
  simp only[ltOf,decide_eq_false_iff_not];intro h1 h2 h3;by_cases e1:c x y=0
  ·rw[(h.eq _ _).1 e1] at h3;exact h2 h3
  by_cases e2:c y z=0
  ·rw[←(h.eq _ _).1 e2] at h3;exact h1 h3
  have:=h.trans _ _ _ h3 (h.pos e2 h2);have h4:=(h.aCE _ _).1 this;exact h1 ((h.aCE _ _).2 (by have:=(h.aCE y x).1 (h.pos e1 h1);have:=(h.aCE _ _).1 (h.trans _ _ _ h3 (h.pos e2 h2));have:=(h.aCE _ _).1 (h.pos e1 h1);omega))
def Str(c:α→α→Int)(l:List α):Prop:=l.Pairwise fun x y=>c x y<0
theorem AY{c:α→α→Int}(h:C3 c){a b:List α}(ha:Str c a)(hb:Str c b)(hm:∀x,x∈a↔x∈b):a=b:=by
 have na:a.Nodup:=ha.imp fun{x y} k e=>by rw[e,h.self] at k;omega
 have nb:b.Nodup:=hb.imp fun{x y} k e=>by rw[e,h.self] at k;omega
 refine List.Perm.eq_of_pairwise (le:=fun x y=>c x y<0) (fun x y _ _ h1 h2=>?_) ha hb ((List.perm_ext_iff_of_nodup na nb).2 hm);have:=(h.aCE _ _).1 h1;omega
def iW(c:α→α→Int)(x:α):List α→List α
 | []=>[x]
 |y::l=>if c x y<0 then x::y::l else if c x y=0 then y::l else y::iW c x l
theorem wS{c:α→α→Int}(h:C3 c)(x z:α):∀l,z∈iW c x l↔z=x∨z∈l
 | []=>by simp[iW]
 |y::l=>by
  unfold iW;split
  ·simp
  split
  ·rename_i e;rw[(h.eq _ _).1 e];simp
  simp only[Kh,wS h x z l];constructor
  ·rintro(a|a|a)<;>simp[a]
  rintro(a|a|a)<;>simp[a]
theorem wR{c:α→α→Int}(h:C3 c)(x:α):∀l,Str c l→Str c (iW c x l)
 | [],_=>by simp[iW,Str]
 |y::l,hs=>by
  have⟨h1,h2⟩:=Kf.1 hs;unfold iW;split
  ·rename_i k;exact Kf.2 ⟨fun z hz=>by
    rcases Kh.1 hz with rfl|hz
    ·exact k
    exact h.trans _ _ _ k (h1 z hz),hs⟩
  split
  ·exact hs
  rename_i k1 k2;refine Kf.2 ⟨fun z hz=>?_,wR h x l h2⟩;rcases(wS h x z l).1 hz with rfl|hz
  ·exact h.pos k2 k1
  exact h1 z hz
def lD(c:α→α→Int)(l:List α):List α:=l.foldl (fun a x=>iW c x a) []
theorem xY(c:α→α→Int)(l:List α)(x:α):lD c (l++[x])=iW c x (lD c l):=by simp[lD]
theorem fT{c:α→α→Int}(h:C3 c)(l:List α):Str c (lD c l)∧∀z,z∈lD c l↔z∈l:=by
 suffices∀(l a:List α),Str c a→Str c (l.foldl (fun a x=>iW c x a) a)∧∀z,z∈l.foldl (fun a x=>iW c x a) a↔z∈l∨z∈a by
  have:=this l [] List.Pairwise.nil;exact⟨this.1,fun z=>by rw[lD,this.2 z];simp⟩
 intro l;induction l with
 |nil=>exact fun a ha=>⟨ha,fun z=>Zm⟩
 |cons x l ih=>
  intro a ha;obtain⟨h1,h2⟩:=ih _ (wR h x a ha);refine⟨h1,fun z=>?_⟩;rw[KG,h2,wS h];simp only[Kh];constructor
  ·rintro(a|a|a)<;>simp[a]
  rintro((a|a)|a)<;>simp[a]
theorem A0{c:α→α→Int}(h:C3 c){a l:List α}(ha:Str c a)(hm:∀z,z∈a↔z∈l):a=lD c l:=
 AY h ha (fT h l).1 fun z=>by rw[hm,(fT h l).2]
theorem Ec{c:α→α→Int}(h:C3 c){a b:List α}(hm:∀z,z∈a↔z∈b):lD c a=lD c b:=
 A0 h (fT h a).1 fun z=>by rw[(fT h a).2,hm]
theorem tk{c:α→α→Int}(l:List α):(lD c l).length≤l.length:=by
 have hi:∀(x:α) (a:List α),(iW c x a).length≤a.length+1:=fun x a=>by
  induction a with
  |nil=>simp[iW]
  |cons y a ih=>unfold iW;split<;>(try split)<;>simp<;>omega
 suffices∀(l a:List α),(l.foldl (fun a x=>iW c x a) a).length≤l.length+a.length by simpa [lD] using this l []
 intro l;induction l with
 |nil=>simp
 |cons x l ih=>intro a;have:=ih (iW c x a);have:=hi x a;simp only[KG,Kw];omega
theorem Eb{c:α→α→Int}(h:C3 c)(l:List α):lD c l=[]↔l=[]:=by
 constructor
 ·intro e;cases l with
  |nil=>rfl
  |cons x l=>
   have:=((fT h (x::l)).2 x).2 Zm;rw[e] at this;cases this
 rintro rfl;rfl
def ir(p:α→α→Bool)(a:α):List α→List α
 | []=>[]
 |y::l=>if p y a=true then ir p y l else y::ir p y l
def cpt(p:α→α→Bool):List α→List α
 | []=>[]
 |x::l=>x::ir p x l
theorem w9(p:α→α→Bool)(x y:α):∀l:List α,cpt p (l++[x,y])=cpt p (l++[x])++if p y x=true then [] else [y]
 | []=>by simp only[KH,cpt,ir];split<;>rfl
 |a::l=>by
  simp only[KE,cpt,List.cons.injEq,true_and];induction l generalizing a with
  |nil=>simp only[KH,ir];split<;>split<;>rfl
  |cons b l ih=>simp only[KE,ir];split<;>simp[ih]
theorem oq{c:β→β→Int}(h:C3 c)(f:α→β):∀(l:List α) (a:α),((a::l).Pairwise fun x y=>¬c (f y) (f x)<0)→
 Str c ((ir (fun x y=>decide (c (f x) (f y)=0)) a l).map f)∧(∀z∈(ir (fun x y=>decide (c (f x) (f y)=0)) a l).map f,c (f a) z<0)∧∀z,z=f a∨z∈(ir (fun x y=>decide (c (f x) (f y)=0)) a l).map f↔z∈(a::l).map f
 | [],a,_=>by simp[ir,Str]
 |y::l,a,hs=>by
  have⟨h1,h2⟩:=Kf.1 hs;obtain⟨i1,i2,i3⟩:=oq h f l y h2;unfold ir;by_cases e:c (f y) (f a)=0
  ·have e':=(h.eq _ _).1 e;rw[if_pos (by simpa using e)];rw[e'] at i2 i3;refine⟨i1,i2,fun z=>?_⟩;rw[i3];simp[e']
  rw[if_neg (by simpa using e)];have k:=h.pos e (h1 y Zm);refine⟨?_,?_,fun z=>?_⟩
  ·rw[Kg];exact Kf.2 ⟨i2,i1⟩
  ·intro z hz;rw[Kg] at hz;rcases Kh.1 hz with rfl|hz
   ·exact k
   exact h.trans _ _ _ k (i2 z hz)
  have:=i3 z;simp only[Kg,Kh] at this⊢;rw[this]
theorem GJ{c:β→β→Int}(h:C3 c)(f:α→β)(l:List α)(hs:l.Pairwise fun x y=>¬c (f y) (f x)<0):(cpt (fun x y=>decide (c (f x) (f y)=0)) l).map f=lD c (l.map f):=by
 cases l with
 |nil=>rfl
 |cons x l=>
  obtain⟨i1,i2,i3⟩:=oq h f l x hs;refine A0 h ?_ fun z=>?_
  ·rw[cpt,Kg];exact Kf.2 ⟨i2,i1⟩
  rw[←i3,cpt,Kg,Kh]
end
structure Vl where
 k:Int
 n:Int
 s:ByteArray
 deriving DecidableEq
instance:Inhabited Vl:=⟨0,0,⟨#[]⟩⟩
def Vl.v(x:Vl):V:= .agg [.int .i64 x.k, .int .i64 x.n, .str x.s]
theorem Vl.aAN(L:Nat→Prop)(x:Vl):x.v.names L:=by simp[Vl.v,V.names,bM]
theorem Vl.aAC(x:Vl):x.v.fits (.agg 3)=true:=rfl
def iw(a b:UInt8):Int:=tG a.toNat b.toNat
def AE(a b:ByteArray):Int:=eT iw a.toList b.toList
def sD(a b:Vl):Int:=orC (tG a.k b.k) (orC (tG a.n b.n) (AE a.s b.s))
abbrev cP:List Vl→List Vl→Int:=eT sD
theorem c3I:C3 tG:=by
 refine⟨fun x y=>?_,fun x y=>?_,fun x y z=>?_⟩;all_goals unfold tG;repeat' split
 all_goals omega
theorem oy{a b:ByteArray}(h:a.toList=b.toList):a=b:=by
 rw[ByteArray.toList_eq,ByteArray.toList_eq] at h;cases a;cases b;congr 1;exact KF.1 h
theorem c3S:C3 AE:=((c3I.on (f:=fun u:UInt8=>(u.toNat:Int)) fun x y e=>UInt8.toNat_inj.1 (by exact_mod_cast e)).list).on fun x y=>oy
theorem c3V:C3 sD:=(c3I.lex (c3I.lex c3S)).on (f:=fun x:Vl=>(x.k,x.n,x.s)) fun x y e=>by
 cases x;cases y;simpa using e
theorem c3T:C3 cP:=c3V.list
theorem i8:∀x y:List UInt8,Op.bytesLess x y=decide (eT iw x y<0)
 | [],[]=>by simp[Op.bytesLess,eT]
 |_::_,[]=>by simp[Op.bytesLess,eT]
 | [],_::_=>by simp[Op.bytesLess,eT]
 |a::x,b::y=>by
  have e:(a<b)=(a.toNat<b.toNat):=rfl;simp only[Op.bytesLess,i8 x y,eT,orC,iw,tG,e];by_cases h1:a.toNat<b.toNat
  ·have:(a.toNat:Int)<b.toNat:=or;simp[h1,this]
  by_cases h2:b.toNat<a.toNat
  ·have h3:(b.toNat:Int)<a.toNat:=or;have h4:a≠b:=fun e=>by rw[e] at h2;omega
   have h5:¬(a.toNat:Int)<b.toNat:=or;simp[h1,h3,h4,h5]
  have h3:a=b:=UInt8.toNat_inj.1 or;subst h3;simp
theorem dV(a b:ByteArray):(a.toList==b.toList)=decide (a=b):=by
 by_cases h:a=b
 ·subst h;simp
 have:a.toList≠b.toList:=fun e=>h (oy e);simp[h,this]
def Bo(a b:Vl):Bool:=decide (sD a b<0)
def qS(a b:List Vl):Bool:=decide (cP a b<0)
def byt(s:ByteArray)(i:Nat):Nat:=(s.data.toList.getD i 0).toNat
theorem BA(s:ByteArray)(i:Nat):(s.get! i).toNat=byt s i:=by
 cases s with
 |mk d=>
 show(d[i]!).toNat=(d.toList.getD i 0).toNat
 rw[Kj,Ky,getElem!_def];cases d[i]?<;>rfl
theorem rc(s:ByteArray)(i:Nat)(h:byt s i<128):Utf8.decode s i=(byt s i,1):=by
 unfold Utf8.decode;simp only[KJ,BA];rw[if_pos h]
theorem AA(s:ByteArray)(i:Nat)(h:128≤byt s i):128≤(Utf8.decode s i).1:=by
 unfold Utf8.decode;simp only[KJ,BA];rw[if_neg or];repeat' split
 all_goals simp only[Utf8.runeError]
 all_goals (try simp only[ge_iff_le,Kb,decide_eq_true_eq] at*)
 all_goals omega
theorem Bs(p:Nat→Bool)(hp:∀x,128≤x→p x=true)(s:ByteArray):∀f pos,s.size≤pos+f→(0≤Lib.idxFuncFrom p true s f pos↔∃i,pos≤i∧i<s.size∧p (byt s i)=true)
 |0,pos,h=>by
  simp only[Lib.idxFuncFrom];refine⟨fun k=>absurd k or,fun⟨i,h1,h2,_⟩=>or⟩
 |f+1,pos,h=>by
  simp only[Lib.idxFuncFrom];by_cases hps:pos<s.size
  ·rw[if_pos hps];by_cases hb:byt s pos<128
   ·rw[rc s pos hb];by_cases hq:p (byt s pos)=true
    ·rw[if_pos hq];exact⟨fun _=>⟨pos,Ke _,hps,hq⟩,fun _=>or⟩
    rw[if_neg hq,Bs p hp s f (pos+1) or];constructor
    ·rintro⟨i,h1,h2⟩;exact⟨i,or,h2⟩
    rintro⟨i,h1,h2,h3⟩;refine⟨i,?_,h2,h3⟩;by_cases e:i=pos
    ·subst e;exact absurd h3 hq
    omega
   have h1:=hp _ (AA s pos or);rw[if_pos h1];exact⟨fun _=>⟨pos,Ke _,hps,hp _ or⟩,fun _=>or⟩
  rw[if_neg hps];refine⟨fun k=>absurd k or,fun⟨i,h1,h2,_⟩=>or⟩
def eE(c:Nat):Bool:=decide (97≤c∧c≤122)
def lM(c:Nat):Bool:=decide ((97≤c∧c≤122)∨(48≤c∧c≤57)∨c=95)
def mC(c:Nat):Bool:= !lM c
theorem s4(x:Nat)(h:128≤x):mC x=true:=by
 simp only[mC,lM,Kp,decide_eq_false_iff_not];omega
def jV(s:ByteArray):Bool:=decide (1≤s.size∧s.size≤32∧eE (byt s 0)=true∧∀i,i<s.size→lM (byt s i)=true)
theorem s5(s:ByteArray):decide (0≤Lib.idxFunc mC true s)= !decide (∀i,i<s.size→lM (byt s i)=true):=by
 have:=Bs mC s4 s s.size 0 or;unfold Lib.idxFunc;by_cases h:∀i,i<s.size→lM (byt s i)=true
 ·rw[decide_eq_true h];simp only[Bool.not_true,decide_eq_false_iff_not,this];rintro⟨i,_,h2,h3⟩;simp[mC,h i h2] at h3
 rw[decide_eq_false h];simp only[Bool.not_false,decide_eq_true_eq,this]
 false_or_by_contra
 rename_i k;refine h fun i hi=>?_;by_cases e:lM (byt s i)=true
 ·exact e
 exact absurd ⟨i,Kk _,hi,by simp[mC,e]⟩ k
def vH(n:Int):Bool:=decide (-2147483647≤n∧n≤2147483647)
def bU(x:Vl):Bool:=(decide (x.k=1)&&(decide (x.s.size=0)&&vH x.n))||(decide (x.k=2)&&(decide (x.n=0)&&jV x.s))
theorem pt{x:Vl}(h:bU x=true):-2147483647≤x.n∧x.n≤2147483647:=by
 simp only[bU,vH,Kt,Kb,decide_eq_true_eq] at h;omega
theorem Em{a b:List Int}(h:a.Perm b):a.sum=b.sum:=by
 induction h with
 |nil=>rfl
 |cons x _ ih=>simp only[Kz,ih]
 |swap x y l=>simp only[Kz];omega
 |trans _ _ i1 i2=>exact i1.trans i2
section
variable{α:Type}{c:α→α→Int}
theorem qm(h:C3 c){x:α}{l:List α}(hs:Str c l)(hx:x∈l):iW c x l=l:=
 AY h (wR h x l hs) hs fun z=>by
  rw[wS h];exact⟨fun k=>k.elim (fun e=>e▸hx) id, .inr⟩
theorem gp(h:C3 c){x:α}:∀{l:List α},x∉l→(iW c x l).Perm (x::l)
 | [],_=> .refl _
 |y::l,hx=>by
  unfold iW;split
  ·exact .refl _
  split
  ·rename_i e;exact absurd ((h.eq _ _).1 e) (fun e=>hx (by simp[e]))
  exact((gp h (fun k=>hx (by simp[k]))).cons y).trans (.swap x y l)
theorem BZ [DecidableEq α](h:C3 c)(l:List α)(x:α):(lD c (l++[x])).length=(lD c l).length+if x∈l then 0 else 1:=by
 obtain⟨h1,h2⟩:=fT h l;rw[xY];split
 ·rename_i k;rw[qm h h1 ((h2 x).2 k)];rfl
 rename_i k;rw[(gp h (fun e=>k ((h2 x).1 e))).length_eq];rfl
theorem Ea [DecidableEq α](h:C3 c)(f:α→Int)(l:List α)(x:α):((lD c (l++[x])).map f).sum=((lD c l).map f).sum+if x∈l then 0 else f x:=by
 obtain⟨h1,h2⟩:=fT h l;rw[xY];split
 ·rename_i k;rw[qm h h1 ((h2 x).2 k)];simp
 rename_i k;rw[Em ((gp h (fun e=>k ((h2 x).1 e))).map f),Kg,Kz];omega
end
theorem EF{α:Type}{c:α→α→Int}(h:C3 c){l:List α}{i:Nat}{m:α}(hi:i<l.length)(hm:m∈l)(hz:∀z∈l.take i,¬c z m<0):
 (if decide (c l[i] m<0)=true then l[i] else m)∈l∧∀z∈l.take (i+1),¬c z (if decide (c l[i] m<0)=true then l[i] else m)<0:=by
 rw[Kd hi];by_cases k:c l[i] m<0
 ·simp only[k,decide_true,if_true];refine⟨Kq _,fun z hz2=>?_⟩;rcases Ki.1 hz2 with q|q
  ·exact fun e=>hz z q (h.trans _ _ _ e k)
  have:z=l[i]:=by simpa using q
  rw[this,h.self];omega
 simp only[k,decide_false,KA,if_false];refine⟨hm,fun z hz2=>?_⟩;rcases Ki.1 hz2 with q|q
 ·exact hz z q
 have:z=l[i]:=by simpa using q
 rw[this];exact k
theorem Db{α:Type}{c:α→α→Int}(h:C3 c){l:List α}{i:Nat}{m:α}(hi:i<l.length)(hm:m∈l)(hz:∀z∈l.take i,¬c m z<0):
 (if decide (c m l[i]<0)=true then l[i] else m)∈l∧∀z∈l.take (i+1),¬c (if decide (c m l[i]<0)=true then l[i] else m) z<0:=by
 rw[Kd hi];by_cases k:c m l[i]<0
 ·simp only[k,decide_true,if_true];refine⟨Kq _,fun z hz2=>?_⟩;rcases Ki.1 hz2 with q|q
  ·exact fun e=>hz z q (h.trans _ _ _ k e)
  have:z=l[i]:=by simpa using q
  rw[this,h.self];omega
 simp only[k,decide_false,KA,if_false];refine⟨hm,fun z hz2=>?_⟩;rcases Ki.1 hz2 with q|q
 ·exact hz z q
 have:z=l[i]:=by simpa using q
 rw[this];exact k
def oQ:Vl:=⟨0,0,⟨#[]⟩⟩
def ofV(n:Int):Vl×Int:=if vH n=true then (⟨1,n,⟨#[]⟩⟩,0) else (oQ,10)
def Hc(l:List Vl):Int:=(l.map Vl.n).sum
theorem BT(l:List Vl)(x:Vl):Hc (lD sD (l++[x]))=Hc (lD sD l)+if x∈l then 0 else x.n:=Ea c3V Vl.n l x
def iN(c:Nat):Bool:=decide (65≤c∧c≤90)
def Al(c:Nat):Bool:=decide (48≤c∧c≤57)
def lW(c:Nat):Bool:=eE c||iN c||Al c||decide (c=95)
def sF(c:Nat):Bool:=decide (c=9∨c=10∨c=13∨c=32)
def oF(p:Nat→Bool)(s:ByteArray):Nat→Nat→Nat
 |0,i=>i
 |f+1,i=>if i<s.size∧p (byt s i)=true then oF p s f (i+1) else i
def mB(p:Nat→Bool)(s:ByteArray)(i:Nat):Nat:=oF p s (s.size-i) i
theorem sg(p:Nat→Bool)(s:ByteArray):∀(f i j:Nat),i≤j→j≤s.size→s.size≤i+f→(∀k,i≤k→k<j→p (byt s k)=true)→(j=s.size∨p (byt s j)=false)→oF p s f i=j
 |0,i,j,h1,h2,h3,_,_=>by show i=j;omega
 |f+1,i,j,h1,h2,h3,h4,h5=>by
  unfold oF;by_cases e:i=j
  ·subst e;rw[if_neg];rintro⟨q1,q2⟩;rcases h5 with h5|h5
   ·omega
   rw[q2] at h5;cases h5
  rw[if_pos ⟨or,h4 i (Ke _) or⟩];exact sg p s f (i+1) j or h2 or (fun k hk=>h4 k or) h5
theorem vP{p:Nat→Bool}{s:ByteArray}{i j:Nat}(h1:i≤j)(h2:j≤s.size)(h4:∀k,i≤k→k<j→p (byt s k)=true)(h5:j=s.size∨p (byt s j)=false):mB p s i=j:=
 sg p s _ i j h1 h2 or h4 h5
theorem b9(p:Nat→Bool)(s:ByteArray):∀(f i:Nat),i≤s.size→s.size≤i+f→i≤oF p s f i∧oF p s f i≤s.size∧(∀k,i≤k→k<oF p s f i→p (byt s k)=true)∧(oF p s f i=s.size∨p (byt s (oF p s f i))=false)
 |0,i,h1,h2=>⟨Ke _,h1,fun k a b=>absurd b (by show¬k<i;omega), .inl (by show i=_;omega)⟩
 |f+1,i,h1,h2=>by
  unfold oF;split
  ·rename_i h;obtain⟨a,b,c,d⟩:=b9 p s f (i+1) or or;exact⟨or,b,fun k h3 h4=>by
    by_cases e:k=i
    ·subst e;exact h.2
    exact c k or h4,d⟩
  rename_i h;refine⟨Ke _,h1,fun k a b=>absurd b or,?_⟩;by_cases e:i<s.size
  ·right;cases hp:p (byt s i) with
   |false=>rfl
   |true=>exact absurd ⟨e,hp⟩ h
  left;omega
theorem oV(p:Nat→Bool)(s:ByteArray)(i:Nat)(h:i≤s.size):i≤mB p s i∧mB p s i≤s.size∧(∀k,i≤k→k<mB p s i→p (byt s k)=true)∧(mB p s i=s.size∨p (byt s (mB p s i))=false):=
 b9 p s _ i h or
def mQ(s:ByteArray):Nat→Nat→Nat
 |0,i=>i
 |f+1,i=>if i<s.size then if sF (byt s i)=true then mQ s f (i+1) else if byt s i=37 then mQ s f (mB (fun c=>decide (c≠10)) s i) else i else i
def cO(s:ByteArray)(i:Nat):Nat:=mQ s (s.size-i) i
theorem bh{s:ByteArray}{i:Nat}(h:i<s.size)(hp:byt s i=37):i<mB (fun c=>decide (c≠10)) s i∧mB (fun c=>decide (c≠10)) s i≤s.size:=by
 obtain⟨a,b,c,d⟩:=oV (fun c=>decide (c≠10)) s i or;refine⟨?_,b⟩;rcases KK i (mB (fun c=>decide (c≠10)) s i) with k|k
 ·exact k
 have e:mB (fun c=>decide (c≠10)) s i=i:=or;rw[e] at d;rcases d with d|d
 ·omega
 rw[hp] at d;cases d
theorem pS(s:ByteArray):∀(f g i:Nat),s.size≤i+f→s.size≤i+g→mQ s f i=mQ s g i
 |0,0,_,_,_=>rfl
 |0,g+1,i,h,_=>by unfold mQ;rw[if_neg or]
 |f+1,0,i,_,h=>by unfold mQ;rw[if_neg or]
 |f+1,g+1,i,h1,h2=>by
  unfold mQ;by_cases h:i<s.size
  ·rw[if_pos h,if_pos h];split
   ·exact pS s f g _ or or
   split
   ·rename_i hp;have:=bh h hp;exact pS s f g _ or or
   rfl
  rw[if_neg h,if_neg h]
theorem sN{s:ByteArray}{i:Nat}(h:s.size≤i):cO s i=i:=by
 unfold cO;cases s.size-i with
 |zero=>rfl
 |succ n=>unfold mQ;rw[if_neg or]
theorem ti{s:ByteArray}{i:Nat}(h:i<s.size)(hb:sF (byt s i)=true):cO s i=cO s (i+1):=by
 unfold cO;obtain⟨n,hn⟩:∃n,s.size-i=n+1:=⟨s.size-i-1,or⟩;rw[hn,mQ,if_pos h,if_pos hb];exact pS s _ _ _ or or
theorem y6{s:ByteArray}{i:Nat}(h:i<s.size)(hb:sF (byt s i)=false)(hp:byt s i=37):cO s i=cO s (mB (fun c=>decide (c≠10)) s i):=by
 unfold cO;obtain⟨n,hn⟩:∃n,s.size-i=n+1:=⟨s.size-i-1,or⟩;rw[hn,mQ,if_pos h,hb,if_neg Zm,if_pos hp];have:=bh h hp;exact pS s _ _ _ or or
theorem dg{s:ByteArray}{i:Nat}(h:i<s.size)(hb:sF (byt s i)=false)(hp:byt s i≠37):cO s i=i:=by
 unfold cO;obtain⟨n,hn⟩:∃n,s.size-i=n+1:=⟨s.size-i-1,or⟩;rw[hn,mQ,if_pos h,hb,if_neg Zm,if_neg hp]
theorem vW(s:ByteArray):∀(f i:Nat),i≤mQ s f i∧(i≤s.size→mQ s f i≤s.size)
 |0,i=>⟨Ke _,id⟩
 |f+1,i=>by
  unfold mQ;split
  ·rename_i h;split
   ·have:=vW s f (i+1);exact⟨or,fun _=>this.2 or⟩
   split
   ·rename_i hp;have h1:=bh h hp;have:=vW s f (mB (fun c=>decide (c≠10)) s i);exact⟨or,fun _=>this.2 h1.2⟩
   exact⟨Ke _,id⟩
  exact⟨Ke _,id⟩
theorem vX(s:ByteArray)(i:Nat):i≤cO s i:=(vW s _ i).1
theorem th{s:ByteArray}{i:Nat}(h:i≤s.size):cO s i≤s.size:=(vW s _ i).2 h
structure Tk where
 k:Int
 t:ByteArray
 a:Nat
 deriving Inhabited
def vn:List ByteArray:=[⟨[114,101,108].toArray⟩,⟨[105,110,116].toArray⟩,⟨[115,121,109].toArray⟩,⟨[110,111,116].toArray⟩,⟨[99,111,117,110,116].toArray⟩,⟨[115,117,109].toArray⟩,⟨[109,105,110].toArray⟩,⟨[109,97,120].toArray⟩]
def fF:List ByteArray:=[⟨[58,45].toArray⟩,⟨[33,61].toArray⟩,⟨[60,61].toArray⟩,⟨[62,61].toArray⟩,⟨[40].toArray⟩,⟨[41].toArray⟩,⟨[44].toArray⟩,⟨[46].toArray⟩,⟨[61].toArray⟩,⟨[60].toArray⟩,⟨[62].toArray⟩,⟨[43].toArray⟩,⟨[45].toArray⟩,⟨[42].toArray⟩]
def Ad(w:ByteArray):Bool:=vn.any fun t=>t.data.toList==w.data.toList
theorem vq(w:ByteArray):Ad w=true↔w∈vn:=by
 simp only[Ad,KD,beq_iff_eq];constructor
 ·rintro⟨t,h1,h2⟩;have:t=w:=by
   cases t;cases w;simp only[KF] at h2;rw[h2]
  exact this▸h1
 exact fun h=>⟨w,h,rfl⟩
def iX(κ:ByteArray→Int)(w:ByteArray):Int:=
 if Ad w=true then 1 else if jV w=true then 2 else if iN (byt w 0)=true∧w.size≤32 then 3 else κ w
def uX(s t:ByteArray):Bool:=t.data.toList.isPrefixOf s.data.toList
def pX(s:ByteArray):Nat:=mB lW s 0
def vY(r:ByteArray):Int×ByteArray:=match fF.find? (uX r) with
 |some t=>(5,t)
 |none=>(0,⟨#[]⟩)
def gK(κ:ByteArray→Int)(r:ByteArray):Int×ByteArray:=
 if 0<pX r∧byt r 0≠95 then (iX κ (r.extract 0 (pX r)),r.extract 0 (pX r)) else vY r
def ft(κ:ByteArray→Int)(s:ByteArray):Nat→Nat→List Tk×Option Nat
 |0,_=>([],none)
 |f+1,i=>if i<s.size then
  if (gK κ (s.extract i s.size)).1=0 then ([],some i)
  else (⟨(gK κ (s.extract i s.size)).1,(gK κ (s.extract i s.size)).2,i⟩::(ft κ s f (cO s (i+(gK κ (s.extract i s.size)).2.size))).1,(ft κ s f (cO s (i+(gK κ (s.extract i s.size)).2.size))).2)
  else ([],none)
def kN(κ:ByteArray→Int)(s:ByteArray)(i:Nat):List Tk×Option Nat:=ft κ s (s.size-i) i
def BN(s:ByteArray):Bool:=decide (1≤s.size∧s.size≤32∧iN (byt s 0)=true∧∀i,i<s.size→lW (byt s i)=true)
def Ej(s:ByteArray):Bool:=decide (jV s=true∧Ad s=false)
theorem fP(s:ByteArray)(i j:Nat):(s.extract i j).size=min j s.size-i:=by
 rw[←ByteArray.size_data,ByteArray.data_extract,Array.size_extract,ByteArray.size_data]
theorem wZ(s:ByteArray):s.extract 0 s.size=s:=by
 apply ByteArray.ext;rw[ByteArray.data_extract,←ByteArray.size_data];exact Array.extract_size
theorem BB{s:ByteArray}{i j k:Nat}(h:i+k<j)(h2:j≤s.size):byt (s.extract i j) k=byt s (i+k):=by
 unfold byt;rw[ByteArray.data_extract];have h2:j≤s.data.size:=h2;congr 1;simp only[Kj,Ky];rw[Kx,if_pos or]
theorem pq(s:ByteArray):pX s≤s.size:=(oV lW s 0 (Kk _)).2.1
theorem dh(r:ByteArray):vY r=(0,⟨#[]⟩)∨∃t,vY r=(5,t)∧t∈fF∧uX r t=true:=by
 unfold vY;cases h:fF.find? (uX r) with
 |none=>exact .inl rfl
 |some t=>exact .inr ⟨t,rfl,List.mem_of_find?_eq_some h,List.find?_some h⟩
theorem y7:∀t∈fF,0<t.size:=by decide+kernel
theorem Cc{r t:ByteArray}(h:uX r t=true):t.size≤r.size:=by
 have:=(List.isPrefixOf_iff_prefix.1 h).length_le;simpa only[Array.length_toList,ByteArray.size_data] using this
theorem mZ{κ:ByteArray→Int}{r:ByteArray}(h:(gK κ r).1≠0):0<(gK κ r).2.size∧(gK κ r).2.size≤r.size:=by
 unfold gK at h⊢;split
 ·rename_i c;have:=pq r;show 0<(r.extract 0 (pX r)).size∧(r.extract 0 (pX r)).size≤r.size;rw[fP];omega
 rename_i c;rw[if_neg c] at h;rcases dh r with e|⟨t,e,h1,h2⟩
 ·rw[e] at h;exact absurd rfl h
 rw[e];exact⟨y7 t h1,Cc h2⟩
theorem nf(κ:ByteArray→Int)(s:ByteArray):∀(f g i:Nat),s.size≤i+f→s.size≤i+g→ft κ s f i=ft κ s g i
 |0,0,_,_,_=>rfl
 |0,g+1,i,h,_=>by unfold ft;rw[if_neg or]
 |f+1,0,i,_,h=>by unfold ft;rw[if_neg or]
 |f+1,g+1,i,h1,h2=>by
  unfold ft;by_cases h:i<s.size
  ·rw[if_pos h,if_pos h];split
   ·rfl
   rename_i h0;have h3:=(mZ h0).1;have h4:=vX s (i+(gK κ (s.extract i s.size)).2.size);rw[nf κ s f g _ or or]
  rw[if_neg h,if_neg h]
theorem nK{κ:ByteArray→Int}{s:ByteArray}{i:Nat}(h:s.size≤i):kN κ s i=([],none):=by
 unfold kN;cases s.size-i with
 |zero=>rfl
 |succ n=>unfold ft;rw[if_neg or]
theorem fw{κ:ByteArray→Int}{s:ByteArray}{i:Nat}(h:i<s.size)(h0:(gK κ (s.extract i s.size)).1=0):kN κ s i=([],some i):=by
 unfold kN;obtain⟨n,hn⟩:∃n,s.size-i=n+1:=⟨s.size-i-1,or⟩;rw[hn,ft,if_pos h,if_pos h0]
theorem sX{κ:ByteArray→Int}{s:ByteArray}{i:Nat}{k:Int}{t:ByteArray}(h:i<s.size)(hn:gK κ (s.extract i s.size)=(k,t))(h0:k≠0):
 kN κ s i=(⟨k,t,i⟩::(kN κ s (cO s (i+t.size))).1,(kN κ s (cO s (i+t.size))).2):=by
 have h1:=mZ (κ:=κ) (r:=s.extract i s.size) (by rw[hn];exact h0);rw[hn] at h1;dsimp only at h1;have h4:=vX s (i+t.size);unfold kN;obtain⟨n,hn'⟩:∃n,s.size-i=n+1:=⟨s.size-i-1,or⟩;rw[hn',ft,if_pos h,hn,if_neg h0];dsimp only;rw[nf κ s n (s.size-cO s (i+t.size)) _ or or]
theorem Ac:∀t∈vn,eE (byt t 0)=true:=by decide+kernel
theorem zU{c:Nat}(h:iN c=true):eE c=false:=by
 simp only[iN,eE,decide_eq_true_eq,decide_eq_false_iff_not] at*;omega
theorem De{c:Nat}(h:lM c=true):lW c=true:=by
 simp only[lM,lW,eE,iN,Al,decide_eq_true_eq,Kt] at*;omega
theorem DR{κ:ByteArray→Int}{s:ByteArray}(h:BN s=true):iX κ s=3:=by
 obtain⟨h1,h2,h3,h4⟩:=of_decide_eq_true h;unfold iX;rw[if_neg (fun k=>by have:=Ac s ((vq s).1 k);rw[zU h3] at this;cases this),if_neg (fun k=>by have:=(of_decide_eq_true k).2.2.1;rw[zU h3] at this;cases this),if_pos ⟨h3,h2⟩]
theorem Eh{κ:ByteArray→Int}{s:ByteArray}(h:Ej s=true):iX κ s=2:=by
 obtain⟨h1,h2⟩:=of_decide_eq_true h;unfold iX;rw[if_neg (by rw[h2];simp),if_pos h1]
theorem Bm{κ:ByteArray→Int}{s:ByteArray}(h1:1≤s.size)(h2:∀i,i<s.size→lW (byt s i)=true)(h3:byt s 0≠95)(h0:iX κ s≠0):kN κ s (cO s 0)=([⟨iX κ s,s,0⟩],none):=by
 have hw:=h2 0 or;have hb:sF (byt s 0)=false:=by
  simp only[lW,eE,iN,Al,sF,Kt,decide_eq_true_eq,decide_eq_false_iff_not] at*;omega
 have hp:byt s 0≠37:=by
  simp only[lW,eE,iN,Al,Kt,decide_eq_true_eq] at hw;omega
 rw[dg or hb hp];have hr:pX s=s.size:=vP (Kk _) (Ke _) (fun k _ hk=>h2 k hk) (.inl rfl);have hn:gK κ (s.extract 0 s.size)=(iX κ s,s):=by
  rw[wZ];unfold gK;rw[hr,if_pos ⟨or,h3⟩,wZ]
 rw[sX or hn h0,sN or,nK or]
theorem u9{κ:ByteArray→Int}{s:ByteArray}{k:Int}{l:List Tk}{b:Option Nat}{t:Tk}(h:kN κ s (cO s 0)=(t::l,b))(hk:t.k=k)(h5:k≠5)(ht:t.t=s)(hs:0<s.size):
 t.a=0∧iX κ s=k∧byt s 0≠95∧∀i,i<s.size→lW (byt s i)=true:=by
 rcases KK (cO s 0) s.size with hi|hi
 ·obtain⟨k',t',hn⟩:∃k' t',gK κ (s.extract (cO s 0) s.size)=(k',t'):=⟨_,_,rfl⟩;by_cases h0:k'=0
  ·rw[fw hi (by rw[hn];exact h0)] at h;cases h
  have hz:=mZ (κ:=κ) (r:=s.extract (cO s 0) s.size) (by rw[hn];exact h0);rw[sX hi hn h0] at h;injection h with h _;injection h with h _;subst h;simp only at ht hk;subst ht hk;rw[hn,fP] at hz;have h00:cO t' 0=0:=by simp only at hz;omega
  rw[h00,wZ] at hn;unfold gK at hn;split at hn
  ·rename_i c;injection hn with e1 e2;have hr:pX t'=t'.size:=by
    have:=pq t';have:=congrArg ByteArray.size e2;rw[fP] at this;omega
   rw[hr,wZ] at e1;obtain⟨_,_,q,_⟩:=oV lW t' 0 (Kk _);exact⟨h00,e1,c.2,fun i hi=>q i (Kk _) (by show i<pX t';omega)⟩
  rcases dh t' with e|⟨t2,e,_⟩
  ·rw[e] at hn;injection hn with e1;exact absurd e1.symm h0
  rw[e] at hn;injection hn with e1;exact absurd e1.symm h5
 rw[nK hi] at h;cases h
theorem Ga{κ:ByteArray→Int}(hκ:∀w,κ w=0∨κ w=4)(s:ByteArray):kN κ s (cO s 0)=([⟨3,s,0⟩],none)↔BN s=true:=by
 constructor
 ·intro h;have hs:0<s.size:=by
   rcases KB s.size with e|e
   ·rw[sN or,nK or] at h;cases h
   exact e
  obtain⟨_,hw,_,aAc⟩:=u9 h rfl Zm rfl hs;dsimp only at hw;refine decide_eq_true ?_;unfold iX at hw;split at hw
  ·cases hw
  split at hw
  ·cases hw
  split at hw
  ·rename_i c;exact⟨or,c.2,c.1,aAc⟩
  have:=hκ s;omega
 intro h;have hv:=DR (κ:=κ) h;obtain⟨h1,h2,h3,h4⟩:=of_decide_eq_true h;have:=Bm (κ:=κ) h1 h4 (by simp only[iN,decide_eq_true_eq] at h3;omega) (by rw[hv];decide);rw[hv] at this;exact this
theorem Gb{κ:ByteArray→Int}(hκ:∀w,κ w=0∨κ w=4)(s:ByteArray):kN κ s (cO s 0)=([⟨2,s,0⟩],none)↔Ej s=true:=by
 constructor
 ·intro h;have hs:0<s.size:=by
   rcases KB s.size with e|e
   ·rw[sN or,nK or] at h;cases h
   exact e
  obtain⟨_,hw,_,aAc⟩:=u9 h rfl Zm rfl hs;dsimp only at hw;refine decide_eq_true ?_;unfold iX at hw;split at hw
  ·cases hw
  split at hw
  ·rename_i c1 c2;exact⟨c2,by simpa using c1⟩
  split at hw
  ·cases hw
  have:=hκ s;omega
 intro h;have hv:=Eh (κ:=κ) h;obtain⟨h1,h2⟩:=of_decide_eq_true h;obtain⟨g1,g2,g3,g4⟩:=of_decide_eq_true h1;have:=Bm (κ:=κ) g1 (fun i hi=>De (g4 i hi)) (by simp only[eE,decide_eq_true_eq] at g3;omega) (by rw[hv];decide);rw[hv] at this;exact this
structure Tr where
 x:ByteArray
 w:Vl
 deriving DecidableEq
instance:Inhabited Tr:=⟨⟨#[]⟩,default⟩
def Tr.cs(t:Tr):List V:=[.str t.x, .int .i64 t.w.k, .int .i64 t.w.n, .str t.w.s]
def Tr.v(t:Tr):V:= .agg [.str t.x, .int .i64 t.w.k, .int .i64 t.w.n, .str t.w.s]
theorem Tr.aAC(t:Tr):t.v.fits (.agg 4)=true:=rfl
theorem Tr.aAN(L:Nat→Prop)(t:Tr):t.v.names L:=by simp[Tr.v,V.names,bM]
abbrev trs(o:Own)(l:List Tr):V:= .sl (.agg 4) o (l.map Tr.v)
def AS:Tr:=⟨⟨#[]⟩,oQ⟩
inductive Ex where
 |mk (op:Int) (t:Tr) (o:Own) (kids:List Ex)
mutual
def Ex.v:Ex→V
 | .mk op t o ks=> .agg [.int .i64 op, .str t.x, .int .i64 t.w.k, .int .i64 t.w.n, .str t.w.s, .sl (.agg 6) o (Ex.vs ks)]
def Ex.vs:List Ex→List V
 | []=>[]
 |e::r=>e.v::Ex.vs r
end
instance:Inhabited Ex:=⟨.mk 0 AS .nil []⟩
theorem Ex.aEW:∀l:List Ex,Ex.vs l=l.map Ex.v
 | []=>rfl
 |e::r=>by rw[Ex.vs,Ex.aEW r];rfl
theorem Ex.aAC(e:Ex):e.v.fits (.agg 6)=true:=by cases e;rfl
def Ex.op:Ex→Int| .mk op _ _ _=>op
def Ex.t:Ex→Tr| .mk _ t _ _=>t
def Ex.o:Ex→Own| .mk _ _ o _=>o
def Ex.kids:Ex→List Ex| .mk _ _ _ ks=>ks
def Ex.cs(e:Ex):List V:=[.int .i64 e.op, .str e.t.x, .int .i64 e.t.w.k, .int .i64 e.t.w.n, .str e.t.w.s, .sl (.agg 6) e.o (e.kids.map Ex.v)]
theorem Ex.aAq(e:Ex):e.v= .agg e.cs:=by cases e;simp[Ex.v,Ex.cs,Ex.aEW,Ex.op,Ex.t,Ex.o,Ex.kids]
structure Am where
 r:ByteArray
 o:Own
 l:List Tr
def Am.v(a:Am):V:= .agg [.str a.r,trs a.o a.l]
structure Li where
 k:Int
 a:Am
 op:Int
 x:Ex
 y:Ex
 at_:Int
def Li.v(l:Li):V:= .agg ([.int .i64 l.k, .str l.a.r,trs l.a.o l.a.l, .int .i64 l.op]++l.x.cs++l.y.cs++[.int .i64 l.at_])
theorem Li.aAC(l:Li):l.v.fits (.agg 17)=true:=rfl
structure Ru where
 h:Am
 g:Int
 c:Int
 o:Own
 b:List Li
 at_:Int
def Ru.v(r:Ru):V:= .agg [.str r.h.r,trs r.h.o r.h.l, .int .i64 r.g, .int .i64 r.c, .sl (.agg 17) r.o (r.b.map Li.v), .int .i64 r.at_]
def rA(t:Tr):Bool:=decide (t.x.size=0∧t.w.k=0∧t.w.n=0∧t.w.s.size=0)
def yf(w:Vl):Bool:=decide (w.k=0∧w.n=0∧w.s.size=0)
def iK(t:Tr):Bool:=if t.x.size=0 then bU t.w else BN t.x&&yf t.w
def fD:Nat→Ex→Int
 |0, .mk op t _ ks=>if op=0∧ks=[]∧iK t=true then 0 else-1
 |n+1, .mk op t _ ks=>if op=0∧ks=[]∧iK t=true then 0 else
  match ks with
  | [a,b]=>if 1≤op∧op≤3∧rA t=true then (if fD n a<0∨fD n b<0 then-1 else 1+am true (fD n a) (fD n b)) else-1
  |_=>-1
def dR:Nat→Ex→Bool
 |0, .mk op t _ ks=>decide (op=0∧ks=[]∧iK t=true)
 |n+1, .mk op t _ ks=>if op=0 then decide (ks=[]∧iK t=true) else
  match ks with
  | [a,b]=>decide (1≤op∧op≤3∧rA t=true∧dR n a=true∧dR n b=true)
  |_=>false
theorem pL:∀(n:Nat) (e:Ex),-1≤fD n e∧fD n e≤n
 |0, .mk op t o ks=>by unfold fD;split<;>omega
 |n+1, .mk op t o ks=>by
  unfold fD;split
  ·omega
  split
  ·rename_i a b _;have h1:=pL n a;have h2:=pL n b;split
   ·split
    ·omega
    unfold am;rw[if_pos rfl];split<;>omega
   omega
  omega
theorem yY:∀(n:Nat) (e:Ex),0≤fD n e↔dR n e=true
 |0, .mk op t o ks=>by
  unfold fD dR;split
  ·rename_i h;simpa using h
  rename_i h;simpa using h
 |n+1, .mk op t o ks=>by
  unfold fD dR;by_cases h0:op=0
  ·by_cases h1:ks=[]∧iK t=true
   ·rw[if_pos ⟨h0,h1⟩,if_pos h0];simpa using h1
   rw[if_neg (fun h=>h1 h.2),if_pos h0,decide_eq_false h1];split
   ·rw[if_neg or];simp
   simp
  rw[if_neg (fun h=>h0 h.1),if_neg h0];split
  ·rename_i a b;have h1:=yY n a;have h2:=yY n b;have g1:=pL n a;have g2:=pL n b;rw[decide_eq_true_eq,←h1,←h2];split
   ·rename_i c;split
    ·constructor
     ·intro h;omega
     intro h;omega
    unfold am;rw[if_pos rfl];exact⟨fun _=>⟨c.1,c.2.1,c.2.2,or,or⟩,fun _=>by split<;>omega⟩
   rename_i c;exact⟨fun h=>or,fun h=>absurd ⟨h.1,h.2.1,h.2.2.1⟩ c⟩
  simp
def uV(e:Ex):Bool:=dR 20 e
def mU(a:Am):Bool:=Ej a.r&&decide (a.l.length≤6)&&a.l.all iK
def qQ(e:Ex):Bool:=decide (e.op=0∧e.kids=[])&&rA e.t
def bO(l:Li):Bool:=
 if l.k=1∨l.k=2 then mU l.a&&decide (l.op=0)&&qQ l.x&&qQ l.y
 else decide (l.k=3∧l.a.r.size=0∧l.a.l=[]∧1≤l.op∧l.op≤6)&&uV l.x&&uV l.y
def GS(r:Ru):Bool:=
 if r.g=0 then decide (r.c=0) else decide (0≤r.g∧r.g≤4∧0≤r.c∧r.c<r.h.l.length∧(r.h.l.getD r.c.toNat AS).x.size≠0)
def dF(r:Ru):Bool:=mU r.h&&GS r&&decide (r.b.length≤8)&&r.b.all bO
def pM:Nat:=140737488351232
def Tr.s47(t:Tr):Prop:=t.x.size≤pM∧t.w.s.size≤pM
mutual
def Ex.s47:Ex→Prop
 | .mk _ t _ ks=>t.s47∧Ex.aGX ks
def Ex.aGX:List Ex→Prop
 | []=>True
 |e::r=>e.s47∧Ex.aGX r
end
theorem Ex.aA3:∀{l:List Ex},Ex.aGX l↔∀e∈l,e.s47
 | []=>by simp[Ex.aGX]
 |e::r=>by simp[Ex.aGX,Ex.aA3 (l:=r)]
def Am.s47(a:Am):Prop:=a.r.size≤pM∧∀t∈a.l,t.s47
def Li.s47(l:Li):Prop:=l.a.s47∧l.x.s47∧l.y.s47
def Ru.s47(r:Ru):Prop:=r.h.s47∧∀l∈r.b,l.s47
def eZ(t:Tr):Int:=1+((t.x.size+t.w.s.size)/ 50:Nat)
theorem xF{t:Tr}(h:t.s47):1≤eZ t∧eZ t≤5629499534050:=by
 obtain⟨h1,h2⟩:=h;unfold pM at h1 h2;unfold eZ;omega
mutual
def nS:Ex→Int→Int
 | .mk _ t _ ks,l=>lN ks (l-eZ t)
def lN:List Ex→Int→Int
 | [],l=>l
 |k::r,l=>if l<0 then-1 else lN r (nS k l)
end
def lR:List Tr→Int→Int
 | [],l=>l
 |t::r,l=>if l-eZ t<0 then-1 else lR r (l-eZ t)
def gZ(a:Am)(l:Int):Int:=lR a.l (l-(1+(a.r.size / 50:Nat)))
def CD(b:Li)(l:Int):Int:=nS b.y (nS b.x (gZ b.a l))
def fq:List Li→Int→Int
 | [],l=>l
 |b::r,l=>if l<0 then-1 else fq r (CD b l)
def A1(r:Ru):Int:=fq r.b (gZ r.h 300)
theorem qr:∀(n:Nat) (e:Ex),SizeOf.sizeOf e≤n→e.s47→∀l:Int,(if l<0 then l else 0)-5629499534050≤nS e l∧(nS e l≤l-1∨nS e l=-1)
 |0, .mk op t o ks,h,_,l=>by simp at h
 |n+1, .mk op t o ks,h,hs,l=>by
  have hc:=xF hs.1;have key:∀(r:List Ex),(∀e∈r,SizeOf.sizeOf e≤n∧e.s47)→∀l:Int,((if l<0 then l else-5629499534050)≤lN r l)∧(lN r l≤l∨lN r l=-1):=by
   intro r;induction r with
   |nil=>intro _ l;unfold lN;refine⟨?_, .inl (KL _)⟩;split<;>omega
   |cons k r ih=>
    intro hr l;unfold lN;by_cases h0:l<0
    ·rw[if_pos h0,if_pos h0];exact⟨or, .inr rfl⟩
    rw[if_neg h0,if_neg h0];obtain⟨a,b⟩:=qr n k (hr k Km).1 (hr k Km).2 l;rw[if_neg h0] at a;obtain⟨c,d⟩:=ih (fun e he=>hr e (Ks _ he)) (nS k l);generalize lN r (nS k l)=z at c d;generalize nS k l=y at a b c d;split at c
    ·omega
    omega
  have hk:∀e∈ks,SizeOf.sizeOf e≤n∧e.s47:=fun e he=>by
   refine⟨?_,Ex.aA3.1 hs.2 e he⟩;have:=List.sizeOf_lt_of_mem he;simp only[Ex.mk.sizeOf_spec] at h;omega
  obtain⟨a,b⟩:=key ks hk (l-eZ t);unfold nS;generalize lN ks (l-eZ t)=z at a b;split at a<;>split<;>omega
mutual
def Ex.few:Ex→Prop
 | .mk _ _ _ ks=>ks.length≤300∧Ex.aYg ks
def Ex.aYg:List Ex→Prop
 | []=>True
 |e::r=>e.few∧Ex.aYg r
end
theorem su:∀(r:List Tr),(∀t∈r,t.s47)→∀l:Int,(if l<0 then l-5629499534050 else-5629499534050)≤lR r l∧(lR r l≤l∨lR r l=-1)
 | [],_,l=>by unfold lR;refine⟨?_, .inl (KL _)⟩;split<;>omega
 |t::r,h,l=>by
  have hc:=xF (h t Km);unfold lR;by_cases q:l-eZ t<0
  ·rw[if_pos q];refine⟨?_, .inr rfl⟩;split<;>omega
  rw[if_neg q];obtain⟨a,b⟩:=su r (fun t ht=>h t (Ks _ ht)) (l-eZ t);rw[if_neg q] at a;refine⟨?_,or⟩;split<;>omega
theorem uo{a:Am}(h:a.s47):(0:Int)≤(a.r.size / 50:Nat)∧((a.r.size / 50:Nat):Int)≤2814749767024:=by
 have:=h.1;unfold pM at this;omega
theorem BD{a:Am}(h:a.s47)(l:Int):(if l<0 then l else 0)-11258999068100≤gZ a l∧(gZ a l≤l-1∨gZ a l=-1):=by
 have hn:=uo h;obtain⟨x,y⟩:=su a.l h.2 (l-(1+(a.r.size / 50:Nat)));unfold gZ;split at x<;>split<;>omega
mutual
def Ex.ts:Ex→List Tr
 | .mk _ t _ ks=>if ks.isEmpty then [t] else Ex.tss ks
def Ex.tss:List Ex→List Tr
 | []=>[]
 |e::r=>e.ts++Ex.tss r
end
theorem Ex.aCx:∀l:List Ex,Ex.tss l=l.flatMap Ex.ts
 | []=>rfl
 |e::r=>by rw[Ex.tss,Ex.aCx r];rfl
theorem Ex.aCF(e:Ex):e.ts=if e.kids=[] then [e.t] else e.kids.flatMap Ex.ts:=by
 obtain⟨op,t,o,ks⟩:=e;rw[Ex.ts,Ex.aCx];cases ks<;>rfl
def jb:Nat→Ex→Bool
 |0, .mk _ _ _ ks=>ks.isEmpty
 |n+1, .mk _ _ _ ks=>match ks with
  | []=>true
  | [a,b]=>jb n a&&jb n b
  |_=>false
theorem rj:∀(n:Nat) (e:Ex),dR n e=true→jb n e=true
 |0, .mk op t o ks,h=>by
  unfold dR at h;obtain⟨_,rfl,_⟩:=of_decide_eq_true h;rfl
 |n+1, .mk op t o ks,h=>by
  unfold dR at h;split at h
  ·obtain⟨rfl,_⟩:=of_decide_eq_true h;rfl
  split at h
  ·rename_i a b;obtain⟨_,_,_,h1,h2⟩:=of_decide_eq_true h;simp only[jb,rj n a h1,rj n b h2,Bool.and_true]
  cases h
theorem ri:∀(n:Nat) (e:Ex),jb n e=true→e.ts.length≤2 ^ n
 |0, .mk op t o ks,h=>by
  cases ks with
  |nil=>simp[Ex.ts]
  |cons a r=>cases h
 |n+1, .mk op t o ks,h=>by
  have hp:1≤2 ^ n:=Nat.one_le_two_pow;match ks,h with
  | [],_=>simp[Ex.ts];omega
  | [a,b],h=>
   simp only[jb,Kb] at h;have g1:=ri n a h.1;have g2:=ri n b h.2;simp[Ex.ts,Ex.tss,Nat.pow_succ];omega
theorem DB{m:Nat}{op:Int}{t:Tr}{o:Own}{ks:List Ex}(h:jb m (.mk op t o ks)=true):ks.length≤2∧∀e∈ks,∃m,jb m e=true:=by
 cases m with
 |zero=>
  cases ks with
  |nil=>simp
  |cons a r=>cases h
 |succ m=>
  match ks,h with
  | [],_=>simp
  | [a,b],h=>
   simp only[jb,Kb] at h;refine⟨Zm,fun e he=>⟨m,?_⟩⟩;simp only[Kh,List.not_mem_nil,or_false] at he;rcases he with rfl|rfl
   ·exact h.1
   exact h.2
abbrev xq(e:Ex):Bool:=jb 20 e
theorem BC{e:Ex}(h:uV e=true):xq e=true:=rj 20 e h
theorem oC{e:Ex}(h:xq e=true):e.ts.length≤1048576:=ri 20 e h
theorem j4{e:Ex}(h:qQ e=true):xq e=true:=by
 unfold qQ at h;simp only[Kb,decide_eq_true_eq] at h;obtain⟨op,t,o,ks⟩:=e;have:ks=[]:=h.1.2;subst this;rfl
theorem rr{e:Ex}(h:qQ e=true):e.ts=[e.t]∧e.t.x.size=0:=by
 unfold qQ rA at h;simp only[Kb,decide_eq_true_eq] at h;rw[Ex.aCF,if_pos h.1.2];exact⟨rfl,h.2.1⟩
def cR(x:ByteArray)(l:List ByteArray):Bool:=l.any fun y=>decide (x=y)
theorem eY{x:ByteArray}{l:List ByteArray}:cR x l=true↔x∈l:=by simp[cR]
theorem lK{x:ByteArray}{l:List ByteArray}:cR x l=false↔x∉l:=by rw[←eY,Bool.not_eq_true]
def nmT(l:List ByteArray)(t:Tr):List ByteArray:=if (!decide (t.x.size=0)&& !cR t.x l)=true then l++[t.x] else l
def nmL(l:List ByteArray)(ts:List Tr):List ByteArray:=ts.foldl nmT l
def Li.ts(l:Li):List Tr:=l.a.l++(l.x.ts++l.y.ts)
def Li.vars(l:Li):List ByteArray:=nmL [] l.ts
def Ru.vars(r:Ru):List ByteArray:=r.b.foldl (fun o l=>nmL o l.ts) (nmL [] r.h.l)
theorem Gf(l:List ByteArray)(a b:List Tr):nmL l (a++b)=nmL (nmL l a) b:=KC ..
theorem Ge(l:List ByteArray)(t:Tr):(nmT l t).length≤l.length+1:=by
 unfold nmT;split<;>simp
theorem nW:∀(ts:List Tr) (l:List ByteArray),(nmL l ts).length≤l.length+ts.length
 | [],l=>Ke _
 |t::r,l=>by
  have h1:=nW r (nmT l t);have h2:=Ge l t;show(nmL (nmT l t) r).length≤_;simp only[Kw];omega
theorem Gi{x:ByteArray}{l:List ByteArray}{t:Tr}:x∈nmT l t↔x∈l∨(t.x=x∧t.x.size≠0):=by
 unfold nmT;split
 ·rename_i h;simp only[Kb,Kp,decide_eq_false_iff_not] at h;rw[Ki,Ku];exact⟨fun e=>e.imp_right fun e=>⟨e.symm,h.1⟩,fun e=>e.imp_right fun e=>e.1.symm⟩
 rename_i h;refine⟨.inl,fun e=>e.elim id fun e=>?_⟩;simp only[Kb,Kp,decide_eq_false_iff_not,not_and,Bool.not_eq_false] at h;rw[←e.1];exact eY.1 (h e.2)
theorem qi{x:ByteArray}:∀{ts:List Tr} {l:List ByteArray},x∈nmL l ts↔x∈l∨∃t∈ts,t.x=x∧t.x.size≠0
 | [],l=>by simp[nmL]
 |t::r,l=>by
  show x∈nmL (nmT l t) r↔_;rw[qi (ts:=r),Gi];simp only[Kh];constructor
  ·rintro((h|h)|⟨u,h1,h2⟩)
   ·exact .inl h
   ·exact .inr ⟨t, .inl rfl,h⟩
   exact .inr ⟨u, .inr h1,h2⟩
  rintro(h|⟨u,rfl|h1,h2⟩)
  ·exact .inl (.inl h)
  ·exact .inl (.inr h2)
  exact .inr ⟨u,h1,h2⟩
theorem Ci{l:List ByteArray}{t:Tr}(h:l.Nodup):(nmT l t).Nodup:=by
 unfold nmT;split
 ·rename_i e;simp only[Kb,Kp,decide_eq_false_iff_not] at e;exact List.nodup_append.2 ⟨h,Zm,fun a ha b hb=>by rw[Ku] at hb;subst hb;rintro rfl;exact lK.1 e.2 ha⟩
 exact h
theorem mi:∀{ts:List Tr} {l:List ByteArray},l.Nodup→(nmL l ts).Nodup
 | [],l,h=>h
 |t::r,l,h=>mi (ts:=r) (Ci h)
theorem Ba:∀(ts:List Tr) (l:List ByteArray),∃m,nmL l ts=l++m
 | [],l=>⟨[],by simp[nmL]⟩
 |t::r,l=>by
  obtain⟨m,h⟩:=Ba r (nmT l t);show∃m,nmL (nmT l t) r=_;rw[h];unfold nmT;split
  ·exact⟨_,List.append_assoc ..⟩
  exact⟨_,rfl⟩
theorem gH{l:Li}(h:bO l=true):l.a.l.length≤6∧xq l.x=true∧xq l.y=true:=by
 unfold bO at h;split at h
 ·simp only[Kb] at h;obtain⟨⟨⟨h1,_⟩,h2⟩,h3⟩:=h;unfold mU at h1;simp only[Kb,decide_eq_true_eq] at h1;exact⟨h1.1.2,j4 h2,j4 h3⟩
 simp only[Kb,decide_eq_true_eq] at h;exact⟨by rw[h.1.1.2.2.1];simp,BC h.1.2,BC h.2⟩
theorem kH{l:Li}(h:bO l=true):l.ts.length≤2097158:=by
 obtain⟨h1,h2,h3⟩:=gH h;have e2:=oC h2;have e3:=oC h3;simp only[Li.ts,List.length_append];omega
theorem dE{r:Ru}(h:dF r=true):r.h.l.length≤6∧r.b.length≤8∧(∀l∈r.b,bO l=true):=by
 unfold dF mU at h;simp only[Kb,decide_eq_true_eq,List.all_eq_true] at h;exact⟨h.1.1.1.1.2,h.1.2,h.2⟩
def zH(b:List Li)(o:List ByteArray):List ByteArray:=b.foldl (fun o l=>nmL o l.ts) o
theorem kq:∀(b:List Li) (o:List ByteArray),(∀l∈b,bO l=true)→(zH b o).length≤o.length+b.length*2097158
 | [],o,_=>by simp[zH]
 |l::b,o,h=>by
  have h1:=kq b (nmL o l.ts) fun x hx=>h x (Ks _ hx);have h2:=nW l.ts o;have h3:=kH (h l Km);show(zH b (nmL o l.ts)).length≤_;simp only[Kw,Nat.add_mul,Nat.one_mul];omega
theorem ym(b:List Li)(o:List ByteArray)(i:Nat)(h:i<b.length):zH (b.take (i+1)) o=nmL (zH (b.take i) o) b[i].ts:=by
 unfold zH;rw[Kd h,KC];rfl
theorem sf{r:Ru}(h:dF r=true)(i:Nat):(zH (r.b.take i) (nmL [] r.h.l)).length≤16777270:=by
 obtain⟨h1,h2,h3⟩:=dE h;have a:=kq (r.b.take i) (nmL [] r.h.l) fun l hl=>h3 l (List.mem_of_mem_take hl);have b:=nW r.h.l [];have c:(r.b.take i).length≤8:=by rw[List.length_take];omega
 simp only[List.length_nil] at b;have d:=Nat.mul_le_mul_right 2097158 c;omega
end Go.Proofs.YtlhedpgobaellaaGreatDoor
