/-
Texts of this proof,one behind the other. No conditions.
-/
import Derived.Test.YtgbiopfghdilnaaGreatDoorKd
import Derived.Shelf.SlSortCmp.WholeK
import Derived.Shelf.SlSortCmp.NoneTotal
import Derived.Shelf.GgClosure.StringsIndexFunc
open Go.Proofs.YtgbiopfghdilnaaGreatDoor.Hp renaming le_refl→Ka,aAQ→Kc
open Bool renaming and_eq_true→Kb,not_eq_true'→Km,or_eq_true→Ko
open Nat renaming le_refl→Kd,zero_le→Kj,eq_zero_or_pos→Kv,add_zero→KD,lt_or_ge→KE
open List renaming mem_cons_self→Ke,mem_cons_of_mem→Kf,take_succ_eq_append_getElem→Kg,getD_eq_getElem?_getD→Kh,length_cons→Ki,findIdx?_eq_some_iff_getElem→Kk,mem_singleton→Kp,findIdx?_eq_none_iff→Kq,mem_cons→Ks,sizeOf_lt_of_mem→Ku,foldl_append→Kw,any_eq_true→Kx,getElem_mem→Ky,mem_append→KA,map_cons→KB,map_nil→KC
open Array renaming getElem?_toList→Kt,toList_inj→Kz
open Int renaming le_refl→KF
open Nat renaming reduceAdd→jA,reduceSub→jB,reduceLT→jC,reduceLeDiff→jD,reduceEqDiff→jE
open Int renaming reduceToNat→jF,natCast_add→jH,natCast_one→jI,natCast_zero→jJ
open List renaming length_map→jK,length_cons→jL,length_nil→jM
set_option linter.all false
set_option maxHeartbeats 8000000
namespace Go.Proofs.YtgbiopfghdilnaaGreatDoor
open Go.RowKit
namespace LB
abbrev aB8:List aA:=[
 ⟨some 4,none, .val (.move (.const (.int .i64 0)))⟩]
abbrev aB7:List aA:=[
 ⟨some 6,none, .val (.move (.slot 0))⟩,
 ⟨some 7,none, .val (.len (.slot 6))⟩,
 ⟨some 8,none, .val (.move (.const (.int .i64 0)))⟩]
abbrev aB6:List aA:=[
 ⟨some 9,none, .val (.bin .lss (.slot 8) (.slot 7))⟩]
abbrev aB5:List aA:=[
 ⟨some 10,none, .val (.move (.slot 8))⟩,
 ⟨some 5,none, .val (.move (.slot 10))⟩]
abbrev aB4(k:Sh):List aA:=[
 ⟨some 11,none, .val (.move (.slot 1))⟩,
 ⟨some 12,none, .val (.move (.slot 0))⟩,
 ⟨some 13,none, .val (.move (.slot 5))⟩,
 ⟨some 14,none, .val (.idxA k (.slot 12) (.slot 13))⟩,
 ⟨some 15,none, .val (.load k (.slot 14))⟩,
 ⟨some 16,none, .callv (.slot 11) [(.slot 15)]⟩]
abbrev aB3:List aA:=[
 ⟨some 17,none, .val (.move (.slot 5))⟩,
 ⟨some 4,none, .val (.move (.slot 17))⟩]
abbrev aB2:List aA:=[
 ⟨some 18,none, .val (.bin .add (.slot 8) (.const (.int .i64 1)))⟩,
 ⟨some 8,none, .val (.move (.slot 18))⟩]
abbrev aB9(k:Sh):aR:=(.seq (.ops aB6) (.seq (.cond (.slot 9) .skip (.exit 0)) (.seq (.block 1 (.seq (.ops aB5) (.seq (.ops (aB4 k)) (.cond (.slot 16) (.seq (.ops aB3) .ret) .skip)))) (.ops aB2))))
abbrev aB1:List aA:=[
 ⟨some 4,none, .val (.move (.const (.int .i64 (-1))))⟩]
def aAi(k:Sh):LFn:=⟨(.seq (.ops aB8) (.seq (.seq (.ops aB7) (.block 0 (.loop (aB9 k)))) (.seq (.ops aB1) .ret))),19,[.slot 4]⟩
abbrev aBS:List aA:=[
 ⟨some 4,none, .val (.move (.const (.bool false)))⟩]
abbrev aBR(f0:Nat):List aA:=[
 ⟨some 5,none, .val (.move (.slot 0))⟩,
 ⟨some 6,none, .val (.move (.slot 1))⟩,
 ⟨some 7,none, .call f0 [(.slot 5),(.slot 6)]⟩,
 ⟨some 8,none, .val (.bin .geq (.slot 7) (.const (.int .i64 0)))⟩,
 ⟨some 4,none, .val (.move (.slot 8))⟩]
def ContainsFunc(k:Sh)(f0:Nat):LFn:=⟨(.seq (.ops aBS) (.seq (.ops (aBR f0)) .ret)),9,[.slot 4]⟩
abbrev aCE(k:Sh):List aA:=[
 ⟨some 2,none, .box .leaf (.slot 0)⟩,
 ⟨some 4,none, .val (.move (.const (.sl k .nil [])))⟩]
abbrev aCD:List aA:=[
 ⟨some 6,none, .val (.move (.slot 1))⟩]
abbrev aCC(k:Sh)(z:V):List aA:=[
 ⟨some 5,none, .box k (.const z)⟩,
 ⟨none,none, .store k (.slot 5) (.slot 7)⟩]
abbrev aCB(k:Sh)(bs:Nat):List aA:=[
 ⟨some 8,none, .val (.load .leaf (.slot 2))⟩,
 ⟨some 9,none, .val (.load k (.slot 5))⟩,
 ⟨some 10,none, .bslice k [(.slot 9)]⟩,
 ⟨some 11,none, .append k bs (.slot 8) (.slot 10)⟩,
 ⟨none,none, .store .leaf (.slot 2) (.slot 11)⟩]
abbrev aCF(k:Sh)(bs:Nat):aR:=(.block 1 (.ops (aCB k bs)))
abbrev aCA:List aA:=[
 ⟨some 12,none, .val (.load .leaf (.slot 2))⟩,
 ⟨some 4,none, .val (.move (.slot 12))⟩]
def aBT(k:Sh)(z:V)(bs:Nat):LFn:=⟨(.seq (.ops (aCE k)) (.seq (.seq (.ops aCD) (.block 0 (.range (.slot 6) [7] (.ops (aCC k z)) (aCF k bs)))) (.seq (.ops aCA) .ret))),13,[.slot 4]⟩
abbrev aCu(k:Sh):List aA:=[
 ⟨some 2,none, .val (.move (.const (.sl k .nil [])))⟩]
abbrev aCt(k:Sh)(f0:Nat):List aA:=[
 ⟨some 3,none, .val (.move (.slot 0))⟩,
 ⟨some 4,none, .call f0 [(.const (.sl k .nil [])),(.slot 3)]⟩,
 ⟨some 2,none, .val (.move (.slot 4))⟩]
def Collect(k:Sh)(f0:Nat):LFn:=⟨(.seq (.ops (aCu k)) (.seq (.ops (aCt k f0)) .ret)),5,[.slot 2]⟩
abbrev aEf(k:Sh):List aA:=[
 ⟨some 2,none, .val (.move (.const (.sl k .nil [])))⟩]
abbrev aEe(k:Sh):List aA:=[
 ⟨some 3,none, .val (.move (.slot 0))⟩,
 ⟨some 4,none, .val (.eq false .slice (.slot 3) (.const (.sl k .nil [])))⟩]
abbrev aEd(k:Sh):List aA:=[
 ⟨some 2,none, .val (.move (.const (.sl k .nil [])))⟩]
abbrev aEc(k:Sh)(bs:Nat):List aA:=[
 ⟨some 5,none, .bslice k []⟩,
 ⟨some 6,none, .val (.move (.slot 0))⟩,
 ⟨some 7,none, .append k bs (.slot 5) (.slot 6)⟩,
 ⟨some 2,none, .val (.move (.slot 7))⟩]
def aHJ(k:Sh)(bs:Nat):LFn:=⟨(.seq (.ops (aEf k)) (.seq (.seq (.ops (aEe k)) (.cond (.slot 4) (.seq (.ops (aEd k)) .ret) .skip)) (.seq (.ops (aEc k bs)) .ret))),8,[.slot 2]⟩
abbrev aDz:List aA:=[
 ⟨some 4,none, .val (.move (.const (.int .i64 0)))⟩]
abbrev aDy(f0:Nat):List aA:=[
 ⟨some 7,none, .val (.move (.slot 0))⟩,
 ⟨some 8,none, .call f0 [(.slot 7)]⟩,
 ⟨some 5,none, .val (.move (.slot 8))⟩]
abbrev aDx(f0:Nat):List aA:=[
 ⟨some 9,none, .val (.move (.slot 1))⟩,
 ⟨some 10,none, .call f0 [(.slot 9)]⟩,
 ⟨some 6,none, .val (.move (.slot 10))⟩]
abbrev aDw:List aA:=[
 ⟨some 11,none, .val (.move (.slot 5))⟩]
abbrev aDv:List aA:=[
 ⟨some 12,none, .val (.move (.slot 6))⟩]
abbrev aDu:List aA:=[
 ⟨some 4,none, .val (.move (.const (.int .i64 0)))⟩]
abbrev aDt:List aA:=[
 ⟨some 4,none, .val (.move (.const (.int .i64 (-1))))⟩]
abbrev aDs:List aA:=[
 ⟨some 13,none, .val (.move (.slot 6))⟩]
abbrev aDr:List aA:=[
 ⟨some 4,none, .val (.move (.const (.int .i64 1)))⟩]
abbrev aDq:List aA:=[
 ⟨some 14,none, .val (.move (.slot 0))⟩,
 ⟨some 15,none, .val (.move (.slot 1))⟩,
 ⟨some 16,none, .val (.bin .lss (.slot 14) (.slot 15))⟩]
abbrev aCy:List aA:=[
 ⟨some 4,none, .val (.move (.const (.int .i64 (-1))))⟩]
abbrev aCx:List aA:=[
 ⟨some 17,none, .val (.move (.slot 0))⟩,
 ⟨some 18,none, .val (.move (.slot 1))⟩,
 ⟨some 19,none, .val (.bin .gtr (.slot 17) (.slot 18))⟩]
abbrev aCw:List aA:=[
 ⟨some 4,none, .val (.move (.const (.int .i64 1)))⟩]
abbrev aCv:List aA:=[
 ⟨some 4,none, .val (.move (.const (.int .i64 0)))⟩]
def aD0(f0:Nat):LFn:=⟨(.seq (.ops aDz) (.seq (.ops (aDy f0)) (.seq (.ops (aDx f0)) (.seq (.seq (.ops aDw) (.cond (.slot 11) (.seq (.seq (.ops aDv) (.cond (.slot 12) (.seq (.ops aDu) .ret) .skip)) (.seq (.ops aDt) .ret)) .skip)) (.seq (.seq (.ops aDs) (.cond (.slot 13) (.seq (.ops aDr) .ret) .skip)) (.seq (.seq (.ops aDq) (.cond (.slot 16) (.seq (.ops aCy) .ret) .skip)) (.seq (.seq (.ops aCx) (.cond (.slot 19) (.seq (.ops aCw) .ret) .skip)) (.seq (.ops aCv) .ret)))))))),20,[.slot 4]⟩
abbrev aEa:List aA:=[
 ⟨some 2,none, .val (.move (.const (.int .i64 0)))⟩]
abbrev aEZ:List aA:=[
 ⟨some 3,none, .val (.move (.const (.int .i64 0)))⟩]
abbrev aEY:List aA:=[
 ⟨some 6,none, .val (.move (.slot 0))⟩,
 ⟨some 7,none, .val (.len (.slot 6))⟩,
 ⟨some 8,none, .val (.move (.const (.int .i64 0)))⟩]
abbrev aEX:List aA:=[
 ⟨some 9,none, .val (.bin .lss (.slot 8) (.slot 7))⟩]
abbrev aEW:List aA:=[
 ⟨some 10,none, .val (.idxA .leaf (.slot 6) (.slot 8))⟩,
 ⟨some 11,none, .val (.load .leaf (.slot 10))⟩,
 ⟨some 5,none, .val (.move (.slot 11))⟩]
abbrev aEV:List aA:=[
 ⟨some 12,none, .val (.move (.slot 5))⟩,
 ⟨some 13,none, .val (.move (.slot 3))⟩,
 ⟨some 14,none, .val (.bin .neq (.slot 12) (.slot 13))⟩]
abbrev aEU:List aA:=[
 ⟨some 15,none, .val (.move (.slot 5))⟩,
 ⟨some 2,none, .val (.move (.slot 15))⟩]
abbrev aET:List aA:=[
 ⟨some 16,none, .val (.bin .add (.slot 8) (.const (.int .i64 1)))⟩,
 ⟨some 8,none, .val (.move (.slot 16))⟩]
abbrev aEb:aR:=(.seq (.ops aEX) (.seq (.cond (.slot 9) .skip (.exit 0)) (.seq (.block 1 (.seq (.ops aEW) (.seq (.ops aEV) (.cond (.slot 14) (.seq (.ops aEU) .ret) .skip)))) (.ops aET))))
abbrev aES:List aA:=[
 ⟨some 17,none, .val (.move (.slot 3))⟩,
 ⟨some 2,none, .val (.move (.slot 17))⟩]
def aRJ:LFn:=⟨(.seq (.ops aEa) (.seq (.ops aEZ) (.seq (.seq (.ops aEY) (.block 0 (.loop aEb))) (.seq (.ops aES) .ret)))),18,[.slot 2]⟩
abbrev aDd:List aA:=[
 ⟨some 2,none, .val (.move (.const (.bool false)))⟩]
abbrev aDc:List aA:=[
 ⟨some 3,none, .val (.move (.slot 0))⟩,
 ⟨some 4,none, .val (.move (.slot 0))⟩,
 ⟨some 5,none, .val (.bin .neq (.slot 3) (.slot 4))⟩,
 ⟨some 2,none, .val (.move (.slot 5))⟩]
def aCd:LFn:=⟨(.seq (.ops aDd) (.seq (.ops aDc) .ret)),6,[.slot 2]⟩
end LB
end Go.Proofs.YtgbiopfghdilnaaGreatDoor
namespace Go.Proofs.YtgbiopfghdilnaaGreatDoor
open Go.RowKit
theorem aJ{α:Type}(f:α→V)(l:List α)(k:Nat)(h:k<l.length):(l.map f).getD k (.tup [])=f l[k]:=by
 rw[Kh,List.getElem?_eq_getElem (by simpa using h)];simp
def bH{α:Type}(p:α→Bool)(l:List α):Int:=match l.findIdx? p with
 |some i=>i
 |none=>-1
theorem rH{α:Type}(p:α→Bool)(l:List α):decide (0≤bH p l)=l.any p:=by
 unfold bH;cases hf:l.findIdx? p with
 |none=>
  rw[Kq] at hf;have:l.any p=false:=by
   rw[List.any_eq_false];intro x hx;simp[hf x hx]
  simp[this]
 |some i=>
  rw[Kk] at hf;obtain⟨h1,h2,_⟩:=hf;have:l.any p=true:=Kx.2 ⟨l[i],Ky _,h2⟩;simp[this]
section
variable{P:Program}{k:Sh}{α:Type}(e:α→V)(aAL:∀x,(e x).fits k=true)
include aAL
theorem nS{f:Nat}(hL:aE P f=some (LB.aAi k))(p:α→Bool)(own:Own)(l:List α)(g:Nat)(caps:List V)(h:Hp)(hp:∀x∈l,aK P g ([e x]++caps) h (.bool (p x)))(hl:l.length≤1000000000):
 aK P f [.sl k own (l.map e), .fn (.func g) [] caps] h (.int .i64 (bH p l)):=by
 refine aH (fun L=>trivial) fun h' nx hh=>aB hL fun hd=>?_;refine ZK ?_;refine wle trivial ?_;refine wC (fun i:Nat=>i≤l.length∧∀x∈l.take i,p x=false) (fun i=>⟨aD 19 0 [(0, .sl k own (l.map e)),(1, .fn (.func g) [] caps),(7, .int .i64 l.length),(8, .int .i64 i)],h',nx⟩) (fun i=>l.length-i) 0 ⟨Kj _,Zm⟩ ?_ ?_
 ·refine A8 (by simp only[WkL,aD,jH,jI,jJ,go_sem,reduceIte,jA,jB,jC,jD,reduceCtorEq,jE,jF]) ?_ ?_
  ·exact Ka _
  omega
 rintro i ⟨hi,hno⟩;refine Zk ?_;refine wl ?_;refine dM _ rfl (fun hc=>?_) (fun hc=>?_)
 ·have hlt:i<l.length:=by simpa using hc
  have hg:=aJ e l i hlt;refine wle (ee2 hg aAL) ?_;refine iO rfl (hp l[i] (Ky _)) (by simp only[go_sem,reduceIte,jA,jB,jC,jD,reduceCtorEq,jE,jF]) hh ?_;refine Zn ?_;refine wl ?_;refine dM _ rfl (fun hc=>?_) (fun hc=>?_)
  ·refine wl ?_;refine dP ?_;repeat (first|with_reducible refine mM ?_|with_reducible refine iQ ?_|with_reducible refine kL ?_|with_reducible refine kM ?_)
   refine aC h' (Ka _) ⟨?_,rfl⟩;refine Zn ?_;have:l.findIdx? p=some i:=by
    rw[Kk];refine⟨hlt,hc,fun j hj=>?_⟩;have:=hno l[j] (List.mem_take_iff_getElem.2 ⟨j,or,rfl⟩);simp[this]
   simp only[bH,this]
  refine wl ?_;refine nO (i+1) ⟨or,?_⟩ or ?_
  ·intro x hx;rw[Kg hlt,KA,Kp] at hx;rcases hx with hx|rfl
   ·exact hno x hx
   exact hc
  rw[gA or or];refine A8 (by simp only[WkL,aD,jH,jI,jJ,go_sem,reduceIte,jA,jB,jC,jD,reduceCtorEq,jE,jF]) ?_ ?_
  ·exact Ka _
  omega
 have hge:i=l.length:=by have:¬i<l.length:=by simpa using hc
                         omega
 refine qT ?_;repeat (first|with_reducible refine mG ?_|with_reducible refine lF ?_|with_reducible refine lG ?_|with_reducible refine cG ZM ?_|with_reducible refine iV ?_|with_reducible refine aZ ?_)
 refine wl ?_;refine dP (aC h' (Ka _) ⟨?_,rfl⟩);refine Zn ?_;rw[hge,List.take_length] at hno;have:l.findIdx? p=none:=by
  rw[Kq];exact fun x hx=>hno x hx
 simp only[bH,this]
theorem kW{f f0:Nat}(hL:aE P f=some (LB.ContainsFunc k f0))(hL0:aE P f0=some (LB.aAi k))(p:α→Bool)(own:Own)(l:List α)(g:Nat)(caps:List V)(h:Hp)(hp:∀x∈l,aK P g ([e x]++caps) h (.bool (p x)))(hl:l.length≤1000000000):
 aK P f [.sl k own (l.map e), .fn (.func g) [] caps] h (.bool (l.any p)):=by
 refine aH (fun L=>trivial) fun h' nx hh=>aB hL fun hd=>?_;refine ZK ?_;refine wl ?_;refine aI (nS e aAL hL0 p own l g caps h hp hl) (by simp only[go_sem,reduceIte,jA,jB,jC,jD,reduceCtorEq,jE,jF]) hh ?_;refine Zn ?_;refine wl ?_;refine dP (aC h' (Ka _) ⟨?_,rfl⟩);refine Zn ?_;rw[←rH]
end
section
variable{P:Program}{k:Sh}{α:Type}(e:α→V)(aAL:∀x,(e x).fits k=true)
include aAL
theorem kg{f bs:Nat}{z:V}(hL:aE P f=some (LB.aBT k z bs))(hz:z.fits k=true)(hbs:bs≤140737)(g:Nat)(caps:List V)(hb:Hp)(xs:List α)(hit:Ft P g caps hb (xs.map fun x=>[e x]))(hl:xs.length≤100000000)
 (h':Hp) (nx:Nat) (hh:hb.has h'):
 aY P f [.sl k .nil [], .fn (.func g) [] caps] h' nx fun v h'' _=>(xs=[]∧v= .sl k .nil []∧h''=h')∨(xs≠ []∧∃id,nx≤id∧v= .rs id k 0 xs.length∧h''=h'.set id (.arr k (xs.map e))):=by
 refine aB hL fun hd=>?_;refine ZK ?_;refine wl ?_;have aAo:∀n,nx≤n→h' n=none:=fun n hn=>aS.none hd hn;obtain⟨I,hI⟩:∃I:Nat→Hp→Nat→Prop,∀i h nx1,I i h nx1↔(h'.le h∧∃acc,h nx=some (.arr .leaf [acc])∧((i=0∧acc= .sl k .nil [])∨(0<i∧∃id,nx≤id∧id≠nx∧id≠nx+1∧acc= .rs id k 0 i∧h id=some (.arr k ((xs.take i).map e))))):=⟨_,fun _ _ _=>Iff.rfl⟩;refine qS hit rfl Zm (aS.set hd Zm Zm _) I (fun _ _ _=>False) ?_ ?_ ?_ (fun _ _ _ _ h=>h.elim) (fun _ _ _ _ h=>h.elim) ?_ ?_ ?_ (fun _ _ _ h=>h.elim)
 ·intro i h nx1 hi;exact oK hh (yG ((hI _ _ _).1 hi).1)
 ·exact fun i h nx1 nx2 hi _=>(hI _ _ _).2 ((hI _ _ _).1 hi)
 ·intro i h nx1 b hi;obtain⟨hle,acc,h1,h2⟩:=(hI _ _ _).1 hi;refine(hI _ _ _).2 ⟨iP hle (aAo _ Zm) b,acc,?_,?_⟩
  ·simp only[Kc];rw[if_neg Zm];exact h1
  rcases h2 with h2|⟨hi,id,h3,h4,h5,h6,h7⟩
  ·exact .inl h2
  refine .inr ⟨hi,id,h3,h4,h5,h6,?_⟩;simp only[Kc];rw[if_neg h5];exact h7
 ·exact(hI _ _ _).2 ⟨iP (Ka _) (aAo _ Zm) _, .sl k .nil [],by simp[Kc], .inl ⟨rfl,rfl⟩⟩
 ·intro i hi h nx1 X hii hnx hX hdm;obtain⟨hle,acc,h1,h2⟩:=(hI _ _ _).1 hii;simp only at hnx hX;have hi':i<xs.length:=by simpa using hi
  have aRN:nx<nx1:=or;have e1:(nx=nx1)=False:=by simp;omega
  have e2:(nx+1=nx1)=False:=by simp;omega
  have e4:(nx1=nx+1)=False:=by simp;omega
  have e6:(nx1=nx)=False:=by simp;omega
  have e7:(nx=nx1+2)=False:=by simp;omega
  have e8:(nx+1=nx1+2)=False:=by simp;omega
  have e9:(nx=nx1+3)=False:=by simp;omega
  have e10:(nx+1=nx1+3)=False:=by simp;omega
  have hx:(xs.map fun x=>[e x])[i]=[e xs[i]]:=Zm;simp only[aAX,hx,List.set_cons_succ,List.set_cons_zero];refine wle (ee5 hz aAL e1 e2 e4) ?_;refine nG (by simp only[e1,e2,e4,go_sem,reduceIte,jA,jB,jC,jD,reduceCtorEq,jE,jF];exact hX) fun X'=>?_;refine Zn ?_;refine bL (cP ?_);have aEC:∀(h'':Hp) (nx2 id:Nat),h'.le h''→nx1≤id→h'' nx=some (.arr .leaf [.rs id k 0 (i+1)])→h'' (nx+1)=some X'→h'' id=some (.arr k ((xs.take (i+1)).map e))→∀sl,eK 1 (mR (nx+1) X' (I (i+1)) (fun _ _ _=>False)) .normal ⟨sl,h'',nx2⟩:=by
   intro h'' nx2 id q1 q2 q3 q4 q5 sl;exact aW (nP q4 ((hI _ _ _).2 ⟨q1,_,q3, .inr ⟨or,id,or,or,or,rfl,q5⟩⟩))
  generalize hQ:eK 1 (mR (nx+1) X' (I (i+1)) (fun _ _ _=>False)) .normal=Qn at aEC⊢;have aAb:∀n b,nx1≤n→∀{h2:Hp},h'.le h2→h'.le (h2.set n b):=fun n b hn h2 q=>iP q (aAo n or) b;have aEs:∀n,nx≤n→∀{h2:Hp},h'.le h2→∀b,h'.le (h2.set n b):=fun n hn h2 q b=>iP q (aAo n hn) b;rcases h2 with⟨rfl,rfl⟩|⟨aAu,id,h3,h4,h5,rfl,h7⟩
  ·refine nk 3 rfl (by simp only[h1,aAL,hz,e1,e2,e4,e6,go_sem,reduceIte,jA,jB,jC,jD,reduceCtorEq,jE,jF]) ?_;simp only[h1,aAL,hz,e1,e2,e4,e6,go_sem,reduceIte,jA,jB,jC,jD,reduceCtorEq,jE,jF];refine iK rfl rfl Zm (by simp only[jL,jM];omega) ?_;refine cF rfl (by simp only[h1,aAL,hz,e1,e2,e4,e6,e7,e8,e9,e10,go_sem,reduceIte,jA,jB,jC,jD,reduceCtorEq,jE,jF];try omega) ?_;simp only[h1,aAL,hz,e1,e2,e4,e6,e7,e8,e9,e10,go_sem,reduceIte,jA,jB,jC,jD,reduceCtorEq,jE,jF];refine aEC _ _ (nx1+3) ?_ or ?_ ?_ ?_ _
   ·repeat (first|exact hle|refine aEs _ or ?_ _)
   ·simp only[h1,e1,e2,e4,e6,e7,e8,e9,e10,go_sem,reduceIte,jA,jB,jC,jD,reduceCtorEq,jE,jF]
   ·simp only[h1,e1,e2,e4,e6,e7,e8,e9,e10,go_sem,reduceIte,jA,jB,jC,jD,reduceCtorEq,jE,jF]
   have:xs.take (0+1)=[xs[0]]:=by
    cases xs with
    |nil=>simp at hi'
    |cons x l=>simp
   rw[this];simp only[KB,KC,go_sem,reduceIte,jA,jB,jC,jD,reduceCtorEq,jE,jF];have:(nx1+3=nx)=False:=by simp;omega
   simp only[this,go_sem,reduceIte,jA,jB,jC,jD,reduceCtorEq,jE,jF]
  have hid:id<nx1:=hdm _ _ h7;have f1:(id=nx1)=False:=by simp;omega
  have f2:(id=nx1+2)=False:=by simp;omega
  have f3:(id=nx)=False:=by simp;omega
  have f4:(id=nx+1)=False:=by simp;omega
  have f5:(id=nx1+3)=False:=by simp;omega
  have f6:(nx=id)=False:=by simp;omega
  have f7:(nx+1=id)=False:=by simp;omega
  have f8:(nx1+3=id)=False:=by simp;omega
  have hlen:((xs.take i).map e).length=i:=by simp;omega
  have hb1:(i+1)*bs≤140737488355328:=sP or hbs;refine cF rfl (by simp only[h1,h7,hlen,hb1,aAL,hz,e1,e2,e4,e6,e7,e8,e9,e10,f1,f2,f3,f4,f5,f6,f7,f8,go_sem,reduceIte,jA,jB,jC,jD,reduceCtorEq,jE,jF];try omega) ?_;simp only[h1,h7,hlen,hb1,aAL,hz,e1,e2,e4,e6,e7,e8,e9,e10,f1,f2,f3,f4,f5,f6,f7,f8,go_sem,reduceIte,jA,jB,jC,jD,reduceCtorEq,jE,jF];refine aEC _ _ (nx1+3) ?_ or ?_ ?_ ?_ _
  ·repeat (first|exact hle|refine aEs _ or ?_ _|refine pF ?_ (aAo _ h3))
  ·simp only[h1,e1,e2,e4,e6,e7,e8,e9,e10,go_sem,reduceIte,jA,jB,jC,jD,reduceCtorEq,jE,jF]
  ·simp only[h1,e1,e2,e4,e6,e7,e8,e9,e10,f6,f7,go_sem,reduceIte,jA,jB,jC,jD,reduceCtorEq,jE,jF]
  have:(nx1+3=nx)=False:=by simp;omega
  rw[Kg hi',List.map_append];simp only[this,KB,KC,go_sem,reduceIte,jA,jB,jC,jD,reduceCtorEq,jE,jF]
 intro h nx1 hii hnx hdm;obtain⟨hle,acc,h1,h2⟩:=(hI _ _ _).1 hii;simp only at hnx;have e1:(nx=nx+1)=False:=Zm;refine wle (ee2 h1 e1) ?_;rcases h2 with⟨h2,rfl⟩|⟨aAu,id,h3,h4,h5,rfl,h7⟩
 ·refine dP (aC h' ?_ (.inl ⟨?_,?_,rfl⟩))
  ·exact pF hle (aAo _ Zm)
  ·cases xs with
   |nil=>rfl
   |cons x l=>simp at h2
  simp only[go_sem,reduceIte,jA,jB,jC,jD,reduceCtorEq,jE,jF]
 have hne:xs≠ []:=by rintro rfl;simp at aAu
 refine dP (aC (h'.set id (.arr k (xs.map e))) ?_ (.inr ⟨hne,id,h3,?_,rfl⟩))
 ·refine xO (pF hle (aAo _ Zm)) ?_;simp only[Hp.aA6];rw[if_neg h5,h7];simp
 simp only[jK,go_sem,reduceIte,jA,jB,jC,jD,reduceCtorEq,jE,jF]
theorem w9{f f0 bs:Nat}{z:V}(hL:aE P f=some (LB.Collect k f0))(hL0:aE P f0=some (LB.aBT k z bs))(hz:z.fits k=true)(hbs:bs≤140737)(g:Nat)(caps:List V)(hb:Hp)(xs:List α)(hit:Ft P g caps hb (xs.map fun x=>[e x]))(hl:xs.length≤100000000)
 (h':Hp) (nx:Nat) (hh:hb.has h'):
 aY P f [.fn (.func g) [] caps] h' nx fun v h'' _=>(xs=[]∧v= .sl k .nil []∧h''=h')∨(xs≠ []∧∃id,nx≤id∧v= .rs id k 0 xs.length∧h''=h'.set id (.arr k (xs.map e))):=by
 refine aB hL fun hd=>?_;refine ZK ?_;refine wl ?_;refine bF ((kg e aAL hL0 hz hbs g caps hb xs hit hl _ _ hh).mono ?_);intro v h'' nx' hnx hv;unfold cY;refine Zn ?_;refine wl ?_;exact dP (aC h'' (Ka _) hv)
end
end Go.Proofs.YtgbiopfghdilnaaGreatDoor
namespace Go.Proofs.YtgbiopfghdilnaaGreatDoor
open Go.RowKit Go.Sort Go.Shelf Go.Lib
theorem VR.refro{K:Ker}{F:Nat→Prop}(hF:∀b,K.fro b→F b){v:V}{cv:Value}(r:VR K v cv):VR {K with fro:=F} v cv:=by
 have st:∀b o,K.still b o→Ker.still {K with fro:=F} b o:=fun b o h=>h.elim (fun h=> .inl (hF b h)) .inr;induction r with
 |bool b=>exact .bool b
 |int k n=>exact .int k n
 |str s=>exact .str s
 |nilPtr=>exact .nilPtr
 |ptr n k i o hn=>exact .ptr (K:={K with fro:=F}) n k i o hn
 |ept k es i o b off f hb aAL hcell hst hv ih=>exact .ept (K:={K with fro:=F}) k es i o b off f hb aAL hcell (fun j hj=>st _ _ (hst j hj)) ih
 |slnil k=>exact .slnil k
 |slz k a=>exact .slz k a
 |sl k own es b off cap f hb aAL hcell hst hv hcap aAr aAl aBA ih=>exact .sl (K:={K with fro:=F}) k own es b off cap f hb aAL hcell (fun j hj=>st _ _ (hst j hj)) ih hcap aAr aAl aBA
 |rs n k off len cap hn hcap hm=>exact .rs (K:={K with fro:=F}) n k off len cap hn hcap hm
 |aAH=>exact .aAH
 |map n hn=>exact .map (K:={K with fro:=F}) n hn
 |aAP=>exact .aAP
 |chan n hn=>exact .chan (K:={K with fro:=F}) n hn
 |fn f first cap cfirst ccap h1 h2 _ _ v1 v2=>exact .fn f first cap cfirst ccap h1 h2 v1 v2
 |aAc=>exact .aAc
 |yld n hn=>exact .yld (K:={K with fro:=F}) n hn
 |iface t v cv _ ih=>exact .iface t v cv ih
 |nilIface=>exact .nilIface
 |agg cs ccs hl _ ih=>exact .agg cs ccs hl ih
 |tup cs ccs hl _ ih=>exact .tup cs ccs hl ih
 |top cv=>exact .top cv
end Go.Proofs.YtgbiopfghdilnaaGreatDoor
namespace Go.Proofs.YtgbiopfghdilnaaGreatDoor
open Go.RowKit Go.Sort Go.Shelf Go.Lib
def lst(k:Sh)(es:List V):V:=if es.isEmpty=true then .sl k .nil [] else .sl k .free es
theorem bw(k:Sh):lst k []= .sl k .nil []:=rfl
theorem bV{k:Sh}{es:List V}(h:∀L,bI L es)(L:Nat→Prop):(lst k es).names L:=by
 unfold lst;split<;>simp[V.names,h L,bI]
theorem bQ(k:Sh)(es:List V):∃own,lst k es= .sl k own es:=by
 cases es with
 |nil=>exact⟨.nil,rfl⟩
 |cons e es=>exact⟨.free,rfl⟩
theorem CD(k:Sh)(es:List V):(lst k es).aAE=true:=by cases es<;>rfl
def jt(nx:Nat)(h:Hp)(k:Sh)(es:List V)(v:V)(h':Hp):Prop:=
 (es=[]∧v= .sl k .nil []∧h'=h)∨(es≠ []∧∃id,nx≤id∧v= .sl k (.tok id) es∧h'=h.set id .tip)
def rt(nx:Nat)(h:Hp)(k:Sh)(es:List V)(v:V)(h':Hp):Prop:=
 (es=[]∧v= .sl k .nil []∧h'=h)∨(es≠ []∧∃id,nx≤id∧v= .rs id k 0 es.length∧h'=h.set id (.arr k es))
theorem jt.loose{nx:Nat}{h:Hp}{k:Sh}{es:List V}{v:V}{h':Hp}(f:jt nx h k es v h'):v.loose=lst k es:=by
 rcases f with⟨rfl,rfl,_⟩|⟨hne,id,_,rfl,_⟩
 ·rfl
 cases es with
 |nil=>exact absurd rfl hne
 |cons=>rfl
theorem jt.le{nx:Nat}{h:Hp}{k:Sh}{es:List V}{v:V}{h':Hp}(f:jt nx h k es v h')(hd:aS h nx):h.le h':=by
 rcases f with⟨_,_,rfl⟩|⟨_,id,hid,_,rfl⟩
 ·exact Ka _
 exact iP (Ka _) (hd.none hid) _
theorem aY.conv{P:Program}{f:FuncId}{args:List V}{h:Hp}{nx:Nat}{R R':V→Hp→Nat→Prop}(c:aY P f args h nx R)(hc:∀v h' nx',nx≤nx'→aS h' nx'→R v h' nx'→∃h2,h2.le h'∧R' v.loose h2 nx'):aY P f args h nx R':=by
 refine⟨c.1,fun K cargs hl hr hv=>(c.2 K cargs hl hr hv).mono ?_⟩;rintro e w' ⟨K',v,cv,h',nx',rfl,he,hle,hvr,hrel,hlv,hnx,hR⟩;obtain⟨h2,q1,q2⟩:=hc v h' nx' hnx (fun m b hm=>(hlv m (hrel.lt m b hm)).1) hR;exact⟨K',v.loose,cv,h2,nx',rfl,he,hle,hvr.loose,hrel.weaken q1,hlv,hnx,q2⟩
theorem dF{P:Program}{f:FuncId}{args:List V}{h:Hp}{v:V}(hv:∀L,v.names L)(hc:∀h' nx,h.has h'→aY P f args h' nx fun v' h'' _=>v'.loose=v∧h'.le h''):aK P f args h v:=
 aH hv fun h' nx hh=>(hc h' nx hh).conv fun v' h'' nx' _ _ hq=>⟨h',hq.2,hq.1,rfl⟩
theorem aY.aG9{P:Program}{f:FuncId}{args:List V}{h:Hp}{nx:Nat}{k:Sh}{G:List V→Prop}
 (c:aY P f args h nx fun v h' _=>∃es,G es∧rt nx h k es v h'):aY P f args h nx fun v h' _=>∃es,G es∧jt nx h k es v h':=by
 refine⟨c.1,fun K cargs hl hr hv=>(c.2 K cargs hl hr hv).mono ?_⟩;rintro e w' ⟨K',v,cv,h',nx',rfl,he,hle,hvr,hrel,hlv,hnx,es,hG,(⟨rfl,rfl,rfl⟩|⟨hne,n,hn,rfl,rfl⟩)⟩
 ·exact⟨K',_,cv,_,nx',rfl,he,hle,hvr,hrel,hlv,hnx,[],hG, .inl ⟨rfl,rfl,rfl⟩⟩
 have hfr:¬K'.live nx':=fun hh=>Nat.lt_irrefl _ (hlv nx' hh).1;have aAR:(h.set n (.arr k es)) n=some (.arr k es):=by simp[Hp.set]
 obtain⟨K'',q1,q2,q3,q4,q5⟩:=freeze hrel aAR hfr hvr;have aBW:h n=none:=by
  cases hd:h n with
  |none=>rfl
  |some b=>exact absurd (hl n (hr.lt n b hd)) or
 have hh:((h.set n (.arr k es)).del n).set nx' .tip=h.set nx' .tip:=by
  funext x;unfold Hp.set Hp.del;by_cases e1:x=nx'
  ·simp[e1]
  by_cases e2:x=n
  ·subst e2;simp[e1,aBW]
  simp[e1,e2]
 rw[hh] at q5;refine⟨K'',_,cv,_,nx'+1,q1,he,hle.trans q2,q4,q5,fun m hm=>?_,or,es,hG, .inr ⟨hne,nx',hnx,rfl,rfl⟩⟩;rcases q3 m hm with hm|rfl
 ·exact⟨by have:=(hlv m hm).1;omega,(hlv m hm).2⟩
 exact⟨or, .inr hnx⟩
section
variable{P:Program}{α:Type}(e:α→V)
end
end Go.Proofs.YtgbiopfghdilnaaGreatDoor
namespace Go.Proofs.YtgbiopfghdilnaaGreatDoor
open Go.RowKit
def sU(a b:Int):Int:=if a<b then-1 else if b<a then 1 else 0
theorem oe{P:Program}{f:Nat}(hL:aE P f=some LB.aCd)(a:Int)(h:Hp):aK P f [.int .i64 a] h (.bool false):=by
 refine aH (fun L=>trivial) fun h' nx hh=>aB hL fun hd=>?_;refine ZK ?_;refine wl ?_;refine dP (aC h' (Ka _) ⟨?_,rfl⟩);simp[bne]
theorem ja{P:Program}{f f0:Nat}(hL:aE P f=some (LB.aD0 f0))(hL0:aE P f0=some LB.aCd)(a b:Int)(h:Hp):aK P f [.int .i64 a, .int .i64 b] h (.int .i64 (sU a b)):=by
 refine aH (fun L=>trivial) fun h' nx hh=>aB hL fun hd=>?_;refine ZK ?_;refine wl ?_;refine aI (oe hL0 a _) rfl (aL _) ?_;refine Zn ?_;refine wl ?_;refine aI (oe hL0 b _) rfl (aL _) ?_;refine Zn ?_;refine wl ?_;refine dM _ rfl (fun hc=>?_) (fun hc=>?_)
 ·cases hc
 refine wl ?_;refine dM _ rfl (fun hc=>?_) (fun hc=>?_)
 ·cases hc
 refine wl ?_;refine dM _ rfl (fun hc=>?_) (fun hc=>?_)
 ·refine wl ?_;refine dP ?_;repeat (first|with_reducible refine mM ?_|with_reducible refine iQ ?_|with_reducible refine kL ?_|with_reducible refine kM ?_)
  refine aC h' (Ka _) ⟨?_,rfl⟩;have:a<b:=by simpa using hc
  simp only[sU,if_pos this,go_sem,reduceIte,jA,jB,jC,jD,reduceCtorEq,jE,jF]
 refine wl ?_;have h1:¬a<b:=by simpa using hc
 refine dM _ rfl (fun hc2=>?_) (fun hc2=>?_)
 ·refine wl ?_;refine dP ?_;repeat (first|with_reducible refine mM ?_|with_reducible refine iQ ?_|with_reducible refine kL ?_|with_reducible refine kM ?_)
  refine aC h' (Ka _) ⟨?_,rfl⟩;have:b<a:=by simpa using hc2
  simp only[sU,if_neg h1,if_pos this,go_sem,reduceIte,jA,jB,jC,jD,reduceCtorEq,jE,jF]
 refine wl ?_;have h2:¬b<a:=by simpa using hc2
 refine dP (aC h' (Ka _) ⟨?_,rfl⟩);simp only[sU,if_neg h1,if_neg h2,go_sem,reduceIte,jA,jB,jC,jD,reduceCtorEq,jE,jF]
def orI:List Int→Int
 | []=>0
 |x::l=>if x=0 then orI l else x
theorem Cj{P:Program}{f:Nat}(hL:aE P f=some LB.aRJ)(own:Own)(l:List Int)(hl:l.length≤1000000000)(h:Hp):aK P f [.sl .leaf own (l.map (V.int .i64))] h (.int .i64 (orI l)):=by
 refine aH (fun L=>trivial) fun h' nx hh=>aB hL fun hd=>?_;refine ZK ?_;refine wle trivial ?_;refine wC (fun i:Nat=>i≤l.length∧orI l=orI (l.drop i)) (fun i=>⟨aD 18 0 [(0, .sl .leaf own (l.map (V.int .i64))),(3, .int .i64 0),(6, .sl .leaf own (l.map (V.int .i64))),(7, .int .i64 l.length),(8, .int .i64 i)],h',nx⟩) (fun i=>l.length-i) 0 ⟨Kj _,Zm⟩ ?_ ?_
 ·refine A8 (by simp only[WkL,aD,jH,jI,jJ,go_sem,reduceIte,jA,jB,jC,jD,reduceCtorEq,jE,jF]) ?_ ?_
  ·exact Ka _
  omega
 rintro i ⟨hi,hno⟩;refine Zk ?_;refine wl ?_;refine dM _ rfl (fun hc=>?_) (fun hc=>?_)
 ·have hlt:i<l.length:=by simpa using hc
  have hg:=aJ (V.int .i64) l i hlt;refine wle hg ?_;rw[List.drop_eq_getElem_cons hlt] at hno;refine dM _ rfl (fun hc=>?_) (fun hc=>?_)
  ·refine wl ?_;refine dP ?_;repeat (first|with_reducible refine mM ?_|with_reducible refine iQ ?_|with_reducible refine kL ?_|with_reducible refine kM ?_)
   refine aC h' (Ka _) ⟨?_,rfl⟩;have:l[i]≠0:=by simpa using hc
   simp only[hno,orI,if_neg this,go_sem,reduceIte,jA,jB,jC,jD,reduceCtorEq,jE,jF]
  refine wl ?_;have:l[i]=0:=by simpa using hc
  refine nO (i+1) ⟨or,by rw[hno];simp[orI,this]⟩ or ?_;rw[gA or or];refine A8 (by simp only[WkL,aD,jH,jI,jJ,go_sem,reduceIte,jA,jB,jC,jD,reduceCtorEq,jE,jF]) ?_ ?_
  ·exact Ka _
  omega
 have hge:i=l.length:=by have:¬i<l.length:=by simpa using hc
                         omega
 refine qT ?_;repeat (first|with_reducible refine mG ?_|with_reducible refine lF ?_|with_reducible refine lG ?_|with_reducible refine cG ZM ?_|with_reducible refine iV ?_|with_reducible refine aZ ?_)
 refine wl ?_;refine dP (aC h' (Ka _) ⟨?_,rfl⟩);refine Zn ?_;rw[hno,hge,List.drop_length];rfl
section
variable{P:Program}{k:Sh}{α:Type}(e:α→V)(aAL:∀x,(e x).fits k=true)
include aAL
end
def A6(k:Sh)(own:Own)(es:List V)(nx:Nat)(h:Hp)(v:V)(h':Hp):Prop:=(own= .nil∧v= .sl k .nil []∧h'=h)∨(own≠ .nil∧∃id,nx≤id∧v= .sl k (.tok id) es∧h'=h.set id .tip)
theorem zY{P:Program}{k:Sh}{f bs:Nat}(hL:aE P f=some (LB.aHJ k bs))(hbs:bs≤140737)(own:Own)(es:List V)(hl:es.length≤1000000000)(hn:own= .nil→es=[])(h:Hp)(nx:Nat):
 aY P f [.sl k own es] h nx fun v h' _=>A6 k own es nx h v h':=by
 refine aB hL fun hd=>?_;refine ZK ?_;refine wl ?_;by_cases ho:own= .nil
 ·subst ho;refine dM _ rfl (fun hc=>?_) (fun hc=>?_)
  ·refine wl ?_;refine dP ?_;repeat (first|with_reducible refine mM ?_|with_reducible refine iQ ?_|with_reducible refine kL ?_|with_reducible refine kM ?_)
   refine aC h (Ka _) (.inl ⟨rfl,?_,rfl⟩);simp only[go_sem,reduceIte,jA,jB,jC,jD,reduceCtorEq,jE,jF]
  cases hc
 refine dM _ rfl (fun hc=>?_) (fun hc=>?_)
 ·exact absurd (by simpa using hc) ho
 have hb1:es.length*bs≤140737488355328:=sP hl hbs;repeat (first|with_reducible refine bZ ?_|with_reducible refine bL ?_|with_reducible refine cE ?_|with_reducible refine aZ ?_|with_reducible refine aW ?_|with_reducible refine cP ?_|(refine cF rfl (by simp only[dS,hb1,go_sem,reduceIte,jA,jB,jC,jD,reduceCtorEq,jE,jF];try omega) ?_;simp only[dS,hb1,go_sem,reduceIte,jA,jB,jC,jD,reduceCtorEq,jE,jF])|(with_reducible refine bS ?_))
 refine dP (aC (h.set (nx+1) .tip) ?_ (.inr ⟨ho,nx+1,or,?_,rfl⟩))
 ·intro m b e;have hm:∀b,h m=some b→m<nx:=fun b hb=>hd m b hb;simp only[Kc,Hp.aA6] at e⊢;split at e
  ·rename_i e1;rw[if_pos e1];exact e
  rename_i e1;have:=hm _ e;rw[if_neg e1,if_neg or,if_neg or];exact e
 simp only[go_sem,reduceIte,jA,jB,jC,jD,reduceCtorEq,jE,jF]
theorem AS{P:Program}{k:Sh}{f bs:Nat}(hL:aE P f=some (LB.aHJ k bs))(hbs:bs≤140737)(own:Own)(es:List V)(hl:es.length≤1000000000)(hn:own= .nil→es=[])(hnm:∀L,bI L es)(h:Hp):
 aK P f [.sl k own es] h (V.sl k own es).loose:=by
 refine dF (fun L=>by cases own<;>simp[V.loose,V.names,hnm L,bI]) fun h' nx hh=>?_;have c:=zY hL hbs own es hl hn h' nx;refine⟨c.1,fun K cargs hlv hr hv=>((c.mono (R':=fun v' h'' _=>v'.loose=(V.sl k own es).loose∧h'.le h'') ?_).2 K cargs hlv hr hv)⟩;rintro v h'' nx' hnx (⟨rfl,rfl,rfl⟩|⟨ho,id,hid,rfl,rfl⟩)
 ·have he:=hn rfl;subst he;exact⟨rfl,Ka _⟩
 refine⟨(by cases own<;>first|exact absurd rfl ho|rfl),iP (Ka _) (aS.none (fun m b hm=>hlv m (hr.lt m b hm)) hid) _⟩
end Go.Proofs.YtgbiopfghdilnaaGreatDoor
namespace Go.Proofs.YtgbiopfghdilnaaGreatDoor
open Go.RowKit Go.Sort
structure C3{α:Type}(c:α→α→Int):Prop where
 eq:∀x y,c x y=0↔x=y
 aHB:∀x y,c x y<0↔0<c y x
 trans:∀x y z,c x y<0→c y z<0→c x z<0
section
variable{α β:Type}
def orC(a b:Int):Int:=if a=0 then b else a
theorem C3.self{c:α→α→Int}(h:C3 c)(x:α):c x x=0:=(h.eq x x).2 rfl
theorem C3.lex{c:α→α→Int}{d:β→β→Int}(hc:C3 c)(hd:C3 d):C3 fun x y:α×β=>orC (c x.1 y.1) (d x.2 y.2) where
 eq x y:=by
  unfold orC;split
  ·rename_i h;rw[hd.eq,Prod.ext_iff,(hc.eq _ _).1 h];simp
  rename_i h;refine⟨fun e=>absurd e h,fun e=>absurd ((hc.eq _ _).2 (by rw[e])) h⟩
 aHB x y:=by
  unfold orC;by_cases h:c x.1 y.1=0
  ·have e:=(hc.eq _ _).1 h;rw[if_pos h,if_pos (by rw[e];exact hc.self _)];exact hd.aHB _ _
  have e:c y.1 x.1≠0:=fun e=>h ((hc.eq _ _).2 ((hc.eq _ _).1 e).symm);rw[if_neg h,if_neg e];exact hc.aHB _ _
 trans x y z:=by
  unfold orC;by_cases h:c x.1 y.1=0
  ·rw[if_pos h,(hc.eq _ _).1 h];by_cases h2:c y.1 z.1=0
   ·rw[if_pos h2,if_pos h2];exact hd.trans _ _ _
   rw[if_neg h2,if_neg h2];exact fun _ h=>h
  rw[if_neg h];intro h1;by_cases h2:c y.1 z.1=0
  ·rw[if_pos h2];intro _;have e:=(hc.eq _ _).1 h2;rw[←e,if_neg h];exact h1
  rw[if_neg h2];intro h3;have:=hc.trans _ _ _ h1 h3;rw[if_neg or];exact this
theorem C3.on{c:β→β→Int}(hc:C3 c){f:α→β}(hf:∀x y,f x=f y→x=y):C3 fun x y=>c (f x) (f y):=
 ⟨fun x y=>(hc.eq _ _).trans ⟨hf x y,fun e=>by rw[e]⟩,fun x y=>hc.aHB _ _,fun x y z=>hc.trans _ _ _⟩
def eV(c:α→α→Int):List α→List α→Int
 | [],[]=>0
 | [],_::_=>-1
 |_::_,[]=>1
 |a::x,b::y=>orC (c a b) (eV c x y)
theorem BI{c:α→α→Int}(h:C3 c):∀x y,eV c x y=0↔x=y
 | [],[]=>by simp[eV]
 | [],_::_=>by simp[eV]
 |_::_,[]=>by simp[eV]
 |a::x,b::y=>by
  unfold eV orC;split
  ·rename_i e;rw[BI h x y,(h.eq _ _).1 e];simp
  rename_i e;refine⟨fun k=>absurd k e,fun k=>absurd ((h.eq _ _).2 (by injection k)) e⟩
theorem ou{c:α→α→Int}(h:C3 c):∀x y,eV c x y<0↔0<eV c y x
 | [],[]=>by simp[eV]
 | [],_::_=>by simp[eV]
 |_::_,[]=>by simp[eV]
 |a::x,b::y=>by
  unfold eV orC;by_cases k:c a b=0
  ·have e:=(h.eq _ _).1 k;rw[if_pos k,if_pos (by rw[e];exact h.self _)];exact ou h x y
  rw[if_neg k,if_neg fun e=>k ((h.eq _ _).2 ((h.eq _ _).1 e).symm)];exact h.aHB _ _
theorem i8{c:α→α→Int}(h:C3 c):∀x y z,eV c x y<0→eV c y z<0→eV c x z<0
 | [],[],_=>by simp[eV]
 |_::_,[],_=>by simp[eV]
 | [],_::_,[]=>by simp[eV]
 | [],_::_,_::_=>by simp[eV]
 |_::_,_::_,[]=>by simp[eV]
 |a::x,b::y,d::z=>by
  unfold eV orC;by_cases k:c a b=0
  ·rw[if_pos k,(h.eq _ _).1 k];by_cases k2:c b d=0
   ·rw[if_pos k2,if_pos k2];exact i8 h x y z
   rw[if_neg k2,if_neg k2];exact fun _ h=>h
  rw[if_neg k];intro h1;by_cases h2:c b d=0
  ·rw[if_pos h2];intro _;rw[←(h.eq _ _).1 h2,if_neg k];exact h1
  rw[if_neg h2];intro h3;have:=h.trans _ _ _ h1 h3;rw[if_neg or];exact this
theorem C3.list{c:α→α→Int}(h:C3 c):C3 (eV c):=⟨BI h,ou h,i8 h⟩
end
structure Vl where
 k:Int
 n:Int
 s:ByteArray
 deriving DecidableEq
instance:Inhabited Vl:=⟨0,0,⟨#[]⟩⟩
def Vl.v(x:Vl):V:= .agg [.int .i64 x.k, .int .i64 x.n, .str x.s]
theorem Vl.aAK(L:Nat→Prop)(x:Vl):x.v.names L:=by simp[Vl.v,V.names,bI]
theorem Vl.aAA(x:Vl):x.v.fits (.agg 3)=true:=rfl
def i7(a b:UInt8):Int:=sU a.toNat b.toNat
def AR(a b:ByteArray):Int:=eV i7 a.toList b.toList
def rh(a b:Vl):Int:=orC (sU a.k b.k) (orC (sU a.n b.n) (AR a.s b.s))
abbrev mB:List Vl→List Vl→Int:=eV rh
theorem c3I:C3 sU:=by
 refine⟨fun x y=>?_,fun x y=>?_,fun x y z=>?_⟩;all_goals unfold sU;repeat' split
 all_goals omega
theorem pc{a b:ByteArray}(h:a.toList=b.toList):a=b:=by
 rw[ByteArray.toList_eq,ByteArray.toList_eq] at h;cases a;cases b;congr 1;exact Kz.1 h
theorem c3S:C3 AR:=((c3I.on (f:=fun u:UInt8=>(u.toNat:Int)) fun x y e=>UInt8.toNat_inj.1 (by exact_mod_cast e)).list).on fun x y=>pc
theorem c3V:C3 rh:=(c3I.lex (c3I.lex c3S)).on (f:=fun x:Vl=>(x.k,x.n,x.s)) fun x y e=>by
 cases x;cases y;simpa using e
theorem c3T:C3 mB:=c3V.list
theorem je:∀x y:List UInt8,Op.bytesLess x y=decide (eV i7 x y<0)
 | [],[]=>by simp[Op.bytesLess,eV]
 |_::_,[]=>by simp[Op.bytesLess,eV]
 | [],_::_=>by simp[Op.bytesLess,eV]
 |a::x,b::y=>by
  have e:(a<b)=(a.toNat<b.toNat):=rfl;simp only[Op.bytesLess,je x y,eV,orC,i7,sU,e];by_cases h1:a.toNat<b.toNat
  ·have:(a.toNat:Int)<b.toNat:=or;simp[h1,this]
  by_cases h2:b.toNat<a.toNat
  ·have h3:(b.toNat:Int)<a.toNat:=or;have h4:a≠b:=fun e=>by rw[e] at h2;omega
   have h5:¬(a.toNat:Int)<b.toNat:=or;simp[h1,h3,h4,h5]
  have h3:a=b:=UInt8.toNat_inj.1 or;subst h3;simp
theorem dN(a b:ByteArray):(a.toList==b.toList)=decide (a=b):=by
 by_cases h:a=b
 ·subst h;simp
 have:a.toList≠b.toList:=fun e=>h (pc e);simp[h,this]
def BB(a b:Vl):Bool:=decide (rh a b<0)
def qY(a b:List Vl):Bool:=decide (mB a b<0)
def byt(s:ByteArray)(i:Nat):Nat:=(s.data.toList.getD i 0).toNat
theorem BJ(s:ByteArray)(i:Nat):(s.get! i).toNat=byt s i:=by
 cases s with
 |mk d=>
 show(d[i]!).toNat=(d.toList.getD i 0).toNat
 rw[Kh,Kt,getElem!_def];cases d[i]?<;>rfl
theorem rf(s:ByteArray)(i:Nat)(h:byt s i<128):Utf8.decode s i=(byt s i,1):=by
 unfold Utf8.decode;simp only[KD,BJ];rw[if_pos h]
theorem AN(s:ByteArray)(i:Nat)(h:128≤byt s i):128≤(Utf8.decode s i).1:=by
 unfold Utf8.decode;simp only[KD,BJ];rw[if_neg or];repeat' split
 all_goals simp only[Utf8.runeError]
 all_goals (try simp only[ge_iff_le,Kb,decide_eq_true_eq] at*)
 all_goals omega
theorem BD(p:Nat→Bool)(hp:∀x,128≤x→p x=true)(s:ByteArray):∀f pos,s.size≤pos+f→(0≤Lib.idxFuncFrom p true s f pos↔∃i,pos≤i∧i<s.size∧p (byt s i)=true)
 |0,pos,h=>by
  simp only[Lib.idxFuncFrom];refine⟨fun k=>absurd k or,fun⟨i,h1,h2,_⟩=>or⟩
 |f+1,pos,h=>by
  simp only[Lib.idxFuncFrom];by_cases hps:pos<s.size
  ·rw[if_pos hps];by_cases hb:byt s pos<128
   ·rw[rf s pos hb];by_cases hq:p (byt s pos)=true
    ·rw[if_pos hq];exact⟨fun _=>⟨pos,Kd _,hps,hq⟩,fun _=>or⟩
    rw[if_neg hq,BD p hp s f (pos+1) or];constructor
    ·rintro⟨i,h1,h2⟩;exact⟨i,or,h2⟩
    rintro⟨i,h1,h2,h3⟩;refine⟨i,?_,h2,h3⟩;by_cases e:i=pos
    ·subst e;exact absurd h3 hq
    omega
   have h1:=hp _ (AN s pos or);rw[if_pos h1];exact⟨fun _=>⟨pos,Kd _,hps,hp _ or⟩,fun _=>or⟩
  rw[if_neg hps];refine⟨fun k=>absurd k or,fun⟨i,h1,h2,_⟩=>or⟩
def eC(c:Nat):Bool:=decide (97≤c∧c≤122)
def lK(c:Nat):Bool:=decide ((97≤c∧c≤122)∨(48≤c∧c≤57)∨c=95)
def lQ(c:Nat):Bool:= !lK c
theorem s6(x:Nat)(h:128≤x):lQ x=true:=by
 simp only[lQ,lK,Km,decide_eq_false_iff_not];omega
def gV(s:ByteArray):Bool:=decide (1≤s.size∧s.size≤32∧eC (byt s 0)=true∧∀i,i<s.size→lK (byt s i)=true)
theorem s7(s:ByteArray):decide (0≤Lib.idxFunc lQ true s)= !decide (∀i,i<s.size→lK (byt s i)=true):=by
 have:=BD lQ s6 s s.size 0 or;unfold Lib.idxFunc;by_cases h:∀i,i<s.size→lK (byt s i)=true
 ·rw[decide_eq_true h];simp only[Bool.not_true,decide_eq_false_iff_not,this];rintro⟨i,_,h2,h3⟩;simp[lQ,h i h2] at h3
 rw[decide_eq_false h];simp only[Bool.not_false,decide_eq_true_eq,this]
 false_or_by_contra
 rename_i k;refine h fun i hi=>?_;by_cases e:lK (byt s i)=true
 ·exact e
 exact absurd ⟨i,Kj _,hi,by simp[lQ,e]⟩ k
def iB(n:Int):Bool:=decide (-2147483647≤n∧n≤2147483647)
def dL(x:Vl):Bool:=(decide (x.k=1)&&(decide (x.s.size=0)&&iB x.n))||(decide (x.k=2)&&(decide (x.n=0)&&gV x.s))
theorem qb{x:Vl}(h:dL x=true):-2147483647≤x.n∧x.n≤2147483647:=by
 simp only[dL,iB,Ko,Kb,decide_eq_true_eq] at h;omega
section
variable{α:Type}{c:α→α→Int}
end
def eX:Vl:=⟨0,0,⟨#[]⟩⟩
def ofV(n:Int):Vl×Int:=if iB n=true then (⟨1,n,⟨#[]⟩⟩,0) else (eX,10)
def fT(c:Nat):Bool:=decide (65≤c∧c≤90)
def yJ(c:Nat):Bool:=decide (48≤c∧c≤57)
def cK(c:Nat):Bool:=eC c||fT c||yJ c||decide (c=95)
def kF(c:Nat):Bool:=decide (c=9∨c=10∨c=13∨c=32)
def nK(p:Nat→Bool)(s:ByteArray):Nat→Nat→Nat
 |0,i=>i
 |f+1,i=>if i<s.size∧p (byt s i)=true then nK p s f (i+1) else i
def eZ(p:Nat→Bool)(s:ByteArray)(i:Nat):Nat:=nK p s (s.size-i) i
theorem sk(p:Nat→Bool)(s:ByteArray):∀(f i j:Nat),i≤j→j≤s.size→s.size≤i+f→(∀k,i≤k→k<j→p (byt s k)=true)→(j=s.size∨p (byt s j)=false)→nK p s f i=j
 |0,i,j,h1,h2,h3,_,_=>by show i=j;omega
 |f+1,i,j,h1,h2,h3,h4,h5=>by
  unfold nK;by_cases e:i=j
  ·subst e;rw[if_neg];rintro⟨q1,q2⟩;rcases h5 with h5|h5
   ·omega
   rw[q2] at h5;cases h5
  rw[if_pos ⟨or,h4 i (Kd _) or⟩];exact sk p s f (i+1) j or h2 or (fun k hk=>h4 k or) h5
theorem rT{p:Nat→Bool}{s:ByteArray}{i j:Nat}(h1:i≤j)(h2:j≤s.size)(h4:∀k,i≤k→k<j→p (byt s k)=true)(h5:j=s.size∨p (byt s j)=false):eZ p s i=j:=
 sk p s _ i j h1 h2 or h4 h5
theorem dc(p:Nat→Bool)(s:ByteArray):∀(f i:Nat),i≤s.size→s.size≤i+f→i≤nK p s f i∧nK p s f i≤s.size∧(∀k,i≤k→k<nK p s f i→p (byt s k)=true)∧(nK p s f i=s.size∨p (byt s (nK p s f i))=false)
 |0,i,h1,h2=>⟨Kd _,h1,fun k a b=>absurd b (by show¬k<i;omega), .inl (by show i=_;omega)⟩
 |f+1,i,h1,h2=>by
  unfold nK;split
  ·rename_i h;obtain⟨a,b,c,d⟩:=dc p s f (i+1) or or;exact⟨or,b,fun k h3 h4=>by
    by_cases e:k=i
    ·subst e;exact h.2
    exact c k or h4,d⟩
  rename_i h;refine⟨Kd _,h1,fun k a b=>absurd b or,?_⟩;by_cases e:i<s.size
  ·right;cases hp:p (byt s i) with
   |false=>rfl
   |true=>exact absurd ⟨e,hp⟩ h
  left;omega
theorem fB(p:Nat→Bool)(s:ByteArray)(i:Nat)(h:i≤s.size):i≤eZ p s i∧eZ p s i≤s.size∧(∀k,i≤k→k<eZ p s i→p (byt s k)=true)∧(eZ p s i=s.size∨p (byt s (eZ p s i))=false):=
 dc p s _ i h or
def mL(s:ByteArray):Nat→Nat→Nat
 |0,i=>i
 |f+1,i=>if i<s.size then if kF (byt s i)=true then mL s f (i+1) else if byt s i=37 then mL s f (eZ (fun c=>decide (c≠10)) s i) else i else i
def bW(s:ByteArray)(i:Nat):Nat:=mL s (s.size-i) i
theorem sI{s:ByteArray}{i:Nat}(h:i<s.size)(hp:byt s i=37):i<eZ (fun c=>decide (c≠10)) s i∧eZ (fun c=>decide (c≠10)) s i≤s.size:=by
 obtain⟨a,b,c,d⟩:=fB (fun c=>decide (c≠10)) s i or;refine⟨?_,b⟩;rcases KE i (eZ (fun c=>decide (c≠10)) s i) with k|k
 ·exact k
 have e:eZ (fun c=>decide (c≠10)) s i=i:=or;rw[e] at d;rcases d with d|d
 ·omega
 rw[hp] at d;cases d
theorem oW(s:ByteArray):∀(f g i:Nat),s.size≤i+f→s.size≤i+g→mL s f i=mL s g i
 |0,0,_,_,_=>rfl
 |0,g+1,i,h,_=>by unfold mL;rw[if_neg or]
 |f+1,0,i,_,h=>by unfold mL;rw[if_neg or]
 |f+1,g+1,i,h1,h2=>by
  unfold mL;by_cases h:i<s.size
  ·rw[if_pos h,if_pos h];split
   ·exact oW s f g _ or or
   split
   ·rename_i hp;have:=sI h hp;exact oW s f g _ or or
   rfl
  rw[if_neg h,if_neg h]
theorem mF{s:ByteArray}{i:Nat}(h:s.size≤i):bW s i=i:=by
 unfold bW;cases s.size-i with
 |zero=>rfl
 |succ n=>unfold mL;rw[if_neg or]
theorem zE{s:ByteArray}{i:Nat}(h:i<s.size)(hb:kF (byt s i)=true):bW s i=bW s (i+1):=by
 unfold bW;obtain⟨n,hn⟩:∃n,s.size-i=n+1:=⟨s.size-i-1,or⟩;rw[hn,mL,if_pos h,if_pos hb];exact oW s _ _ _ or or
theorem dl{s:ByteArray}{i:Nat}(h:i<s.size)(hb:kF (byt s i)=false)(hp:byt s i=37):bW s i=bW s (eZ (fun c=>decide (c≠10)) s i):=by
 unfold bW;obtain⟨n,hn⟩:∃n,s.size-i=n+1:=⟨s.size-i-1,or⟩;rw[hn,mL,if_pos h,hb,if_neg Zm,if_pos hp];have:=sI h hp;exact oW s _ _ _ or or
theorem tP{s:ByteArray}{i:Nat}(h:i<s.size)(hb:kF (byt s i)=false)(hp:byt s i≠37):bW s i=i:=by
 unfold bW;obtain⟨n,hn⟩:∃n,s.size-i=n+1:=⟨s.size-i-1,or⟩;rw[hn,mL,if_pos h,hb,if_neg Zm,if_neg hp]
theorem vL(s:ByteArray):∀(f i:Nat),i≤mL s f i∧(i≤s.size→mL s f i≤s.size)
 |0,i=>⟨Kd _,id⟩
 |f+1,i=>by
  unfold mL;split
  ·rename_i h;split
   ·have:=vL s f (i+1);exact⟨or,fun _=>this.2 or⟩
   split
   ·rename_i hp;have h1:=sI h hp;have:=vL s f (eZ (fun c=>decide (c≠10)) s i);exact⟨or,fun _=>this.2 h1.2⟩
   exact⟨Kd _,id⟩
  exact⟨Kd _,id⟩
theorem vM(s:ByteArray)(i:Nat):i≤bW s i:=(vL s _ i).1
theorem tc{s:ByteArray}{i:Nat}(h:i≤s.size):bW s i≤s.size:=(vL s _ i).2 h
structure Tk where
 k:Int
 t:ByteArray
 a:Nat
 deriving Inhabited
def gz:List ByteArray:=[⟨[114,101,108].toArray⟩,⟨[105,110,116].toArray⟩,⟨[115,121,109].toArray⟩,⟨[110,111,116].toArray⟩,⟨[99,111,117,110,116].toArray⟩,⟨[115,117,109].toArray⟩,⟨[109,105,110].toArray⟩,⟨[109,97,120].toArray⟩]
def fC:List ByteArray:=[⟨[58,45].toArray⟩,⟨[33,61].toArray⟩,⟨[60,61].toArray⟩,⟨[62,61].toArray⟩,⟨[40].toArray⟩,⟨[41].toArray⟩,⟨[44].toArray⟩,⟨[46].toArray⟩,⟨[61].toArray⟩,⟨[60].toArray⟩,⟨[62].toArray⟩,⟨[43].toArray⟩,⟨[45].toArray⟩,⟨[42].toArray⟩]
def g7(w:ByteArray):Bool:=gz.any fun t=>t.data.toList==w.data.toList
theorem vw(w:ByteArray):g7 w=true↔w∈gz:=by
 simp only[g7,Kx,beq_iff_eq];constructor
 ·rintro⟨t,h1,h2⟩;have:t=w:=by
   cases t;cases w;simp only[Kz] at h2;rw[h2]
  exact this▸h1
 exact fun h=>⟨w,h,rfl⟩
def eY(κ:ByteArray→Int)(w:ByteArray):Int:=
 if g7 w=true then 1 else if gV w=true then 2 else if fT (byt w 0)=true∧w.size≤32 then 3 else κ w
def qM(s t:ByteArray):Bool:=t.data.toList.isPrefixOf s.data.toList
def nB(s:ByteArray):Nat:=eZ cK s 0
def qD(r:ByteArray):Int×ByteArray:=match fC.find? (qM r) with
 |some t=>(5,t)
 |none=>(0,⟨#[]⟩)
def cD(κ:ByteArray→Int)(r:ByteArray):Int×ByteArray:=
 if 0<nB r∧byt r 0≠95 then (eY κ (r.extract 0 (nB r)),r.extract 0 (nB r)) else qD r
def gq(κ:ByteArray→Int)(s:ByteArray):Nat→Nat→List Tk×Option Nat
 |0,_=>([],none)
 |f+1,i=>if i<s.size then
  if (cD κ (s.extract i s.size)).1=0 then ([],some i)
  else (⟨(cD κ (s.extract i s.size)).1,(cD κ (s.extract i s.size)).2,i⟩::(gq κ s f (bW s (i+(cD κ (s.extract i s.size)).2.size))).1,(gq κ s f (bW s (i+(cD κ (s.extract i s.size)).2.size))).2)
  else ([],none)
def fI(κ:ByteArray→Int)(s:ByteArray)(i:Nat):List Tk×Option Nat:=gq κ s (s.size-i) i
def pl(s:ByteArray):Bool:=decide (1≤s.size∧s.size≤32∧fT (byt s 0)=true∧∀i,i<s.size→cK (byt s i)=true)
def zq(s:ByteArray):Bool:=decide (gV s=true∧g7 s=false)
theorem cV(s:ByteArray)(i j:Nat):(s.extract i j).size=min j s.size-i:=by
 rw[←ByteArray.size_data,ByteArray.data_extract,Array.size_extract,ByteArray.size_data]
theorem wS(s:ByteArray):s.extract 0 s.size=s:=by
 apply ByteArray.ext;rw[ByteArray.data_extract,←ByteArray.size_data];exact Array.extract_size
theorem sO{s:ByteArray}{i j k:Nat}(h:i+k<j)(h2:j≤s.size):byt (s.extract i j) k=byt s (i+k):=by
 unfold byt;rw[ByteArray.data_extract];have h2:j≤s.data.size:=h2;congr 1;simp only[Kh,Kt];rw[Array.getElem?_extract,if_pos or]
theorem pw(s:ByteArray):nB s≤s.size:=(fB cK s 0 (Kj _)).2.1
theorem dm(r:ByteArray):qD r=(0,⟨#[]⟩)∨∃t,qD r=(5,t)∧t∈fC∧qM r t=true:=by
 unfold qD;cases h:fC.find? (qM r) with
 |none=>exact .inl rfl
 |some t=>exact .inr ⟨t,rfl,List.mem_of_find?_eq_some h,List.find?_some h⟩
theorem y8:∀t∈fC,0<t.size:=by decide+kernel
theorem Cc{r t:ByteArray}(h:qM r t=true):t.size≤r.size:=by
 have:=(List.isPrefixOf_iff_prefix.1 h).length_le;simpa only[Array.length_toList,ByteArray.size_data] using this
theorem kP{κ:ByteArray→Int}{r:ByteArray}(h:(cD κ r).1≠0):0<(cD κ r).2.size∧(cD κ r).2.size≤r.size:=by
 unfold cD at h⊢;split
 ·rename_i c;have:=pw r;show 0<(r.extract 0 (nB r)).size∧(r.extract 0 (nB r)).size≤r.size;rw[cV];omega
 rename_i c;rw[if_neg c] at h;rcases dm r with e|⟨t,e,h1,h2⟩
 ·rw[e] at h;exact absurd rfl h
 rw[e];exact⟨y8 t h1,Cc h2⟩
theorem np(κ:ByteArray→Int)(s:ByteArray):∀(f g i:Nat),s.size≤i+f→s.size≤i+g→gq κ s f i=gq κ s g i
 |0,0,_,_,_=>rfl
 |0,g+1,i,h,_=>by unfold gq;rw[if_neg or]
 |f+1,0,i,_,h=>by unfold gq;rw[if_neg or]
 |f+1,g+1,i,h1,h2=>by
  unfold gq;by_cases h:i<s.size
  ·rw[if_pos h,if_pos h];split
   ·rfl
   rename_i h0;have h3:=(kP h0).1;have h4:=vM s (i+(cD κ (s.extract i s.size)).2.size);rw[np κ s f g _ or or]
  rw[if_neg h,if_neg h]
theorem jY{κ:ByteArray→Int}{s:ByteArray}{i:Nat}(h:s.size≤i):fI κ s i=([],none):=by
 unfold fI;cases s.size-i with
 |zero=>rfl
 |succ n=>unfold gq;rw[if_neg or]
theorem wF{κ:ByteArray→Int}{s:ByteArray}{i:Nat}(h:i<s.size)(h0:(cD κ (s.extract i s.size)).1=0):fI κ s i=([],some i):=by
 unfold fI;obtain⟨n,hn⟩:∃n,s.size-i=n+1:=⟨s.size-i-1,or⟩;rw[hn,gq,if_pos h,if_pos h0]
theorem oI{κ:ByteArray→Int}{s:ByteArray}{i:Nat}{k:Int}{t:ByteArray}(h:i<s.size)(hn:cD κ (s.extract i s.size)=(k,t))(h0:k≠0):
 fI κ s i=(⟨k,t,i⟩::(fI κ s (bW s (i+t.size))).1,(fI κ s (bW s (i+t.size))).2):=by
 have h1:=kP (κ:=κ) (r:=s.extract i s.size) (by rw[hn];exact h0);rw[hn] at h1;dsimp only at h1;have h4:=vM s (i+t.size);unfold fI;obtain⟨n,hn'⟩:∃n,s.size-i=n+1:=⟨s.size-i-1,or⟩;rw[hn',gq,if_pos h,hn,if_neg h0];dsimp only;rw[np κ s n (s.size-bW s (i+t.size)) _ or or]
theorem At:∀t∈gz,eC (byt t 0)=true:=by decide+kernel
theorem zU{c:Nat}(h:fT c=true):eC c=false:=by
 simp only[fT,eC,decide_eq_true_eq,decide_eq_false_iff_not] at*;omega
theorem Dc{c:Nat}(h:lK c=true):cK c=true:=by
 simp only[lK,cK,eC,fT,yJ,decide_eq_true_eq,Ko] at*;omega
theorem DH{κ:ByteArray→Int}{s:ByteArray}(h:pl s=true):eY κ s=3:=by
 obtain⟨h1,h2,h3,h4⟩:=of_decide_eq_true h;unfold eY;rw[if_neg (fun k=>by have:=At s ((vw s).1 k);rw[zU h3] at this;cases this),if_neg (fun k=>by have:=(of_decide_eq_true k).2.2.1;rw[zU h3] at this;cases this),if_pos ⟨h3,h2⟩]
theorem DU{κ:ByteArray→Int}{s:ByteArray}(h:zq s=true):eY κ s=2:=by
 obtain⟨h1,h2⟩:=of_decide_eq_true h;unfold eY;rw[if_neg (by rw[h2];simp),if_pos h1]
theorem Bz{κ:ByteArray→Int}{s:ByteArray}(h1:1≤s.size)(h2:∀i,i<s.size→cK (byt s i)=true)(h3:byt s 0≠95)(h0:eY κ s≠0):fI κ s (bW s 0)=([⟨eY κ s,s,0⟩],none):=by
 have hw:=h2 0 or;have hb:kF (byt s 0)=false:=by
  simp only[cK,eC,fT,yJ,kF,Ko,decide_eq_true_eq,decide_eq_false_iff_not] at*;omega
 have hp:byt s 0≠37:=by
  simp only[cK,eC,fT,yJ,Ko,decide_eq_true_eq] at hw;omega
 rw[tP or hb hp];have hr:nB s=s.size:=rT (Kj _) (Kd _) (fun k _ hk=>h2 k hk) (.inl rfl);have hn:cD κ (s.extract 0 s.size)=(eY κ s,s):=by
  rw[wS];unfold cD;rw[hr,if_pos ⟨or,h3⟩,wS]
 rw[oI or hn h0,mF or,jY or]
theorem gp{κ:ByteArray→Int}{s:ByteArray}{k:Int}{l:List Tk}{b:Option Nat}{t:Tk}(h:fI κ s (bW s 0)=(t::l,b))(hk:t.k=k)(h5:k≠5)(ht:t.t=s)(hs:0<s.size):
 t.a=0∧eY κ s=k∧byt s 0≠95∧∀i,i<s.size→cK (byt s i)=true:=by
 rcases KE (bW s 0) s.size with hi|hi
 ·obtain⟨k',t',hn⟩:∃k' t',cD κ (s.extract (bW s 0) s.size)=(k',t'):=⟨_,_,rfl⟩;by_cases h0:k'=0
  ·rw[wF hi (by rw[hn];exact h0)] at h;cases h
  have hz:=kP (κ:=κ) (r:=s.extract (bW s 0) s.size) (by rw[hn];exact h0);rw[oI hi hn h0] at h;injection h with h _;injection h with h _;subst h;simp only at ht hk;subst ht hk;rw[hn,cV] at hz;have h00:bW t' 0=0:=by simp only at hz;omega
  rw[h00,wS] at hn;unfold cD at hn;split at hn
  ·rename_i c;injection hn with e1 e2;have hr:nB t'=t'.size:=by
    have:=pw t';have:=congrArg ByteArray.size e2;rw[cV] at this;omega
   rw[hr,wS] at e1;obtain⟨_,_,q,_⟩:=fB cK t' 0 (Kj _);exact⟨h00,e1,c.2,fun i hi=>q i (Kj _) (by show i<nB t';omega)⟩
  rcases dm t' with e|⟨t2,e,_⟩
  ·rw[e] at hn;injection hn with e1;exact absurd e1.symm h0
  rw[e] at hn;injection hn with e1;exact absurd e1.symm h5
 rw[jY hi] at h;cases h
theorem Bk{κ:ByteArray→Int}(hκ:∀w,κ w=0∨κ w=4)(s:ByteArray):fI κ s (bW s 0)=([⟨3,s,0⟩],none)↔pl s=true:=by
 constructor
 ·intro h;have hs:0<s.size:=by
   rcases Kv s.size with e|e
   ·rw[mF or,jY or] at h;cases h
   exact e
  obtain⟨_,hw,_,aAy⟩:=gp h rfl Zm rfl hs;dsimp only at hw;refine decide_eq_true ?_;unfold eY at hw;split at hw
  ·cases hw
  split at hw
  ·cases hw
  split at hw
  ·rename_i c;exact⟨or,c.2,c.1,aAy⟩
  have:=hκ s;omega
 intro h;have hv:=DH (κ:=κ) h;obtain⟨h1,h2,h3,h4⟩:=of_decide_eq_true h;have:=Bz (κ:=κ) h1 h4 (by simp only[fT,decide_eq_true_eq] at h3;omega) (by rw[hv];decide);rw[hv] at this;exact this
theorem Bl{κ:ByteArray→Int}(hκ:∀w,κ w=0∨κ w=4)(s:ByteArray):fI κ s (bW s 0)=([⟨2,s,0⟩],none)↔zq s=true:=by
 constructor
 ·intro h;have hs:0<s.size:=by
   rcases Kv s.size with e|e
   ·rw[mF or,jY or] at h;cases h
   exact e
  obtain⟨_,hw,_,aAy⟩:=gp h rfl Zm rfl hs;dsimp only at hw;refine decide_eq_true ?_;unfold eY at hw;split at hw
  ·cases hw
  split at hw
  ·rename_i c1 c2;exact⟨c2,by simpa using c1⟩
  split at hw
  ·cases hw
  have:=hκ s;omega
 intro h;have hv:=DU (κ:=κ) h;obtain⟨h1,h2⟩:=of_decide_eq_true h;obtain⟨g1,g2,g3,g4⟩:=of_decide_eq_true h1;have:=Bz (κ:=κ) g1 (fun i hi=>Dc (g4 i hi)) (by simp only[eC,decide_eq_true_eq] at g3;omega) (by rw[hv];decide);rw[hv] at this;exact this
structure Tr where
 x:ByteArray
 w:Vl
 deriving DecidableEq
instance:Inhabited Tr:=⟨⟨#[]⟩,default⟩
def Tr.cs(t:Tr):List V:=[.str t.x, .int .i64 t.w.k, .int .i64 t.w.n, .str t.w.s]
def Tr.v(t:Tr):V:= .agg [.str t.x, .int .i64 t.w.k, .int .i64 t.w.n, .str t.w.s]
theorem Tr.aAA(t:Tr):t.v.fits (.agg 4)=true:=rfl
theorem Tr.aAK(L:Nat→Prop)(t:Tr):t.v.names L:=by simp[Tr.v,V.names,bI]
abbrev trs(o:Own)(l:List Tr):V:= .sl (.agg 4) o (l.map Tr.v)
def ry:Tr:=⟨⟨#[]⟩,eX⟩
inductive Ex where
 |mk (op:Int) (t:Tr) (o:Own) (kids:List Ex)
mutual
def Ex.v:Ex→V
 | .mk op t o ks=> .agg [.int .i64 op, .str t.x, .int .i64 t.w.k, .int .i64 t.w.n, .str t.w.s, .sl (.agg 6) o (Ex.vs ks)]
def Ex.vs:List Ex→List V
 | []=>[]
 |e::r=>e.v::Ex.vs r
end
instance:Inhabited Ex:=⟨.mk 0 ry .nil []⟩
theorem Ex.aEg:∀l:List Ex,Ex.vs l=l.map Ex.v
 | []=>rfl
 |e::r=>by rw[Ex.vs,Ex.aEg r];rfl
theorem Ex.aAA(e:Ex):e.v.fits (.agg 6)=true:=by cases e;rfl
def Ex.op:Ex→Int| .mk op _ _ _=>op
def Ex.t:Ex→Tr| .mk _ t _ _=>t
def Ex.o:Ex→Own| .mk _ _ o _=>o
def Ex.kids:Ex→List Ex| .mk _ _ _ ks=>ks
def Ex.cs(e:Ex):List V:=[.int .i64 e.op, .str e.t.x, .int .i64 e.t.w.k, .int .i64 e.t.w.n, .str e.t.w.s, .sl (.agg 6) e.o (e.kids.map Ex.v)]
theorem Ex.aAV(e:Ex):e.v= .agg e.cs:=by cases e;simp[Ex.v,Ex.cs,Ex.aEg,Ex.op,Ex.t,Ex.o,Ex.kids]
structure Am where
 r:ByteArray
 o:Own
 l:List Tr
def Am.v(a:Am):V:= .agg [.str a.r,trs a.o a.l]
structure Li where
 k:Int
 a:Am
 op:Int
 x:Ex
 y:Ex
 at_:Int
def Li.v(l:Li):V:= .agg ([.int .i64 l.k, .str l.a.r,trs l.a.o l.a.l, .int .i64 l.op]++l.x.cs++l.y.cs++[.int .i64 l.at_])
theorem Li.aAA(l:Li):l.v.fits (.agg 17)=true:=rfl
structure Ru where
 h:Am
 g:Int
 c:Int
 o:Own
 b:List Li
 at_:Int
def Ru.v(r:Ru):V:= .agg [.str r.h.r,trs r.h.o r.h.l, .int .i64 r.g, .int .i64 r.c, .sl (.agg 17) r.o (r.b.map Li.v), .int .i64 r.at_]
def nJ(t:Tr):Bool:=decide (t.x.size=0∧t.w.k=0∧t.w.n=0∧t.w.s.size=0)
def ye(w:Vl):Bool:=decide (w.k=0∧w.n=0∧w.s.size=0)
def dV(t:Tr):Bool:=if t.x.size=0 then dL t.w else pl t.x&&ye t.w
def fM:Nat→Ex→Int
 |0, .mk op t _ ks=>if op=0∧ks=[]∧dV t=true then 0 else-1
 |n+1, .mk op t _ ks=>if op=0∧ks=[]∧dV t=true then 0 else
  match ks with
  | [a,b]=>if 1≤op∧op≤3∧nJ t=true then (if fM n a<0∨fM n b<0 then-1 else 1+j1 true (fM n a) (fM n b)) else-1
  |_=>-1
def cR:Nat→Ex→Bool
 |0, .mk op t _ ks=>decide (op=0∧ks=[]∧dV t=true)
 |n+1, .mk op t _ ks=>if op=0 then decide (ks=[]∧dV t=true) else
  match ks with
  | [a,b]=>decide (1≤op∧op≤3∧nJ t=true∧cR n a=true∧cR n b=true)
  |_=>false
theorem oQ:∀(n:Nat) (e:Ex),-1≤fM n e∧fM n e≤n
 |0, .mk op t o ks=>by unfold fM;split<;>omega
 |n+1, .mk op t o ks=>by
  unfold fM;split
  ·omega
  split
  ·rename_i a b _;have h1:=oQ n a;have h2:=oQ n b;split
   ·split
    ·omega
    unfold j1;rw[if_pos rfl];split<;>omega
   omega
  omega
theorem yP:∀(n:Nat) (e:Ex),0≤fM n e↔cR n e=true
 |0, .mk op t o ks=>by
  unfold fM cR;split
  ·rename_i h;simpa using h
  rename_i h;simpa using h
 |n+1, .mk op t o ks=>by
  unfold fM cR;by_cases h0:op=0
  ·by_cases h1:ks=[]∧dV t=true
   ·rw[if_pos ⟨h0,h1⟩,if_pos h0];simpa using h1
   rw[if_neg (fun h=>h1 h.2),if_pos h0,decide_eq_false h1];split
   ·rw[if_neg or];simp
   simp
  rw[if_neg (fun h=>h0 h.1),if_neg h0];split
  ·rename_i a b;have h1:=yP n a;have h2:=yP n b;have g1:=oQ n a;have g2:=oQ n b;rw[decide_eq_true_eq,←h1,←h2];split
   ·rename_i c;split
    ·constructor
     ·intro h;omega
     intro h;omega
    unfold j1;rw[if_pos rfl];exact⟨fun _=>⟨c.1,c.2.1,c.2.2,or,or⟩,fun _=>by split<;>omega⟩
   rename_i c;exact⟨fun h=>or,fun h=>absurd ⟨h.1,h.2.1,h.2.2.1⟩ c⟩
  simp
def jR(e:Ex):Bool:=cR 20 e
def fO(a:Am):Bool:=zq a.r&&decide (a.l.length≤6)&&a.l.all dV
def kJ(e:Ex):Bool:=decide (e.op=0∧e.kids=[])&&nJ e.t
def bG(l:Li):Bool:=
 if l.k=1∨l.k=2 then fO l.a&&decide (l.op=0)&&kJ l.x&&kJ l.y
 else decide (l.k=3∧l.a.r.size=0∧l.a.l=[]∧1≤l.op∧l.op≤6)&&jR l.x&&jR l.y
def jp(r:Ru):Bool:=
 if r.g=0 then decide (r.c=0) else decide (0≤r.g∧r.g≤4∧0≤r.c∧r.c<r.h.l.length∧(r.h.l.getD r.c.toNat ry).x.size≠0)
def bT(r:Ru):Bool:=fO r.h&&jp r&&decide (r.b.length≤8)&&r.b.all bG
def kE:Nat:=140737488351232
def Tr.s47(t:Tr):Prop:=t.x.size≤kE∧t.w.s.size≤kE
mutual
def Ex.s47:Ex→Prop
 | .mk _ t _ ks=>t.s47∧Ex.aHK ks
def Ex.aHK:List Ex→Prop
 | []=>True
 |e::r=>e.s47∧Ex.aHK r
end
theorem Ex.aA9:∀{l:List Ex},Ex.aHK l↔∀e∈l,e.s47
 | []=>by simp[Ex.aHK]
 |e::r=>by simp[Ex.aHK,Ex.aA9 (l:=r)]
def Am.s47(a:Am):Prop:=a.r.size≤kE∧∀t∈a.l,t.s47
def Li.s47(l:Li):Prop:=l.a.s47∧l.x.s47∧l.y.s47
def Ru.s47(r:Ru):Prop:=r.h.s47∧∀l∈r.b,l.s47
def eH(t:Tr):Int:=1+((t.x.size+t.w.s.size)/ 50:Nat)
theorem oR{t:Tr}(h:t.s47):1≤eH t∧eH t≤5629499534050:=by
 obtain⟨h1,h2⟩:=h;unfold kE at h1 h2;unfold eH;omega
mutual
def kU:Ex→Int→Int
 | .mk _ t _ ks,l=>iG ks (l-eH t)
def iG:List Ex→Int→Int
 | [],l=>l
 |k::r,l=>if l<0 then-1 else iG r (kU k l)
end
def gZ:List Tr→Int→Int
 | [],l=>l
 |t::r,l=>if l-eH t<0 then-1 else gZ r (l-eH t)
def fG(a:Am)(l:Int):Int:=gZ a.l (l-(1+(a.r.size / 50:Nat)))
def yD(b:Li)(l:Int):Int:=kU b.y (kU b.x (fG b.a l))
def qV:List Li→Int→Int
 | [],l=>l
 |b::r,l=>if l<0 then-1 else qV r (yD b l)
def tq(r:Ru):Int:=qV r.b (fG r.h 300)
theorem rJ:∀(n:Nat) (e:Ex),SizeOf.sizeOf e≤n→e.s47→∀l:Int,(if l<0 then l else 0)-5629499534050≤kU e l∧(kU e l≤l-1∨kU e l=-1)
 |0, .mk op t o ks,h,_,l=>by simp at h
 |n+1, .mk op t o ks,h,hs,l=>by
  have hc:=oR hs.1;have key:∀(r:List Ex),(∀e∈r,SizeOf.sizeOf e≤n∧e.s47)→∀l:Int,((if l<0 then l else-5629499534050)≤iG r l)∧(iG r l≤l∨iG r l=-1):=by
   intro r;induction r with
   |nil=>intro _ l;unfold iG;refine⟨?_, .inl (KF _)⟩;split<;>omega
   |cons k r ih=>
    intro hr l;unfold iG;by_cases h0:l<0
    ·rw[if_pos h0,if_pos h0];exact⟨or, .inr rfl⟩
    rw[if_neg h0,if_neg h0];obtain⟨a,b⟩:=rJ n k (hr k Ke).1 (hr k Ke).2 l;rw[if_neg h0] at a;obtain⟨c,d⟩:=ih (fun e he=>hr e (Kf _ he)) (kU k l);generalize iG r (kU k l)=z at c d;generalize kU k l=y at a b c d;split at c
    ·omega
    omega
  have hk:∀e∈ks,SizeOf.sizeOf e≤n∧e.s47:=fun e he=>by
   refine⟨?_,Ex.aA9.1 hs.2 e he⟩;have:=Ku he;simp only[Ex.mk.sizeOf_spec] at h;omega
  obtain⟨a,b⟩:=key ks hk (l-eH t);unfold kU;generalize iG ks (l-eH t)=z at a b;split at a<;>split<;>omega
mutual
def Ex.few:Ex→Prop
 | .mk _ _ _ ks=>ks.length≤300∧Ex.aRH ks
def Ex.aRH:List Ex→Prop
 | []=>True
 |e::r=>e.few∧Ex.aRH r
end
theorem Ex.aBp:∀{l:List Ex},Ex.aRH l↔∀e∈l,e.few
 | []=>by simp[Ex.aRH]
 |e::r=>by simp[Ex.aRH,Ex.aBp (l:=r)]
theorem qu:∀(n:Nat) (e:Ex),SizeOf.sizeOf e≤n→e.s47→∀l:Int,l≤300→0≤kU e l→e.few∧0≤l∧kU e l≤l
 |0, .mk op t o ks,h,_,l,_,_=>by simp at h
 |n+1, .mk op t o ks,h,hs,l,hl,h0=>by
  have hc:=oR hs.1;have key:∀(r:List Ex),(∀e∈r,SizeOf.sizeOf e≤n∧e.s47)→∀l:Int,l≤300→0≤iG r l→(∀e∈r,e.few)∧(r.length:Int)≤l-iG r l∧0≤l:=by
   intro r;induction r with
   |nil=>intro _ l hl h0;unfold iG at h0⊢;exact⟨Zm,Zm,h0⟩
   |cons k r ih=>
    intro hr l hl h0;unfold iG at h0⊢;by_cases hl0:l<0
    ·rw[if_pos hl0] at h0;omega
    rw[if_neg hl0] at h0⊢;obtain⟨hk1,hk2⟩:=hr k Ke;obtain⟨_,b⟩:=rJ n k hk1 hk2 l;obtain⟨c1,c2,c3⟩:=ih (fun e he=>hr e (Kf _ he)) (kU k l) or h0;obtain⟨d1,d2,d3⟩:=qu n k hk1 hk2 l hl c3;refine⟨fun e he=>?_,by simp only[Ki];omega,or⟩;rcases Ks.1 he with rfl|he
    ·exact d1
    exact c1 e he
  have hk:∀e∈ks,SizeOf.sizeOf e≤n∧e.s47:=fun e he=>by
   refine⟨?_,Ex.aA9.1 hs.2 e he⟩;have:=Ku he;simp only[Ex.mk.sizeOf_spec] at h;omega
  unfold kU at h0⊢;obtain⟨a,b,c⟩:=key ks hk (l-eH t) or h0;exact⟨⟨or,Ex.aBp.2 a⟩,or,or⟩
theorem sv:∀(r:List Tr),(∀t∈r,t.s47)→∀l:Int,(if l<0 then l-5629499534050 else-5629499534050)≤gZ r l∧(gZ r l≤l∨gZ r l=-1)
 | [],_,l=>by unfold gZ;refine⟨?_, .inl (KF _)⟩;split<;>omega
 |t::r,h,l=>by
  have hc:=oR (h t Ke);unfold gZ;by_cases q:l-eH t<0
  ·rw[if_pos q];refine⟨?_, .inr rfl⟩;split<;>omega
  rw[if_neg q];obtain⟨a,b⟩:=sv r (fun t ht=>h t (Kf _ ht)) (l-eH t);rw[if_neg q] at a;refine⟨?_,or⟩;split<;>omega
theorem xL:∀(r:List Tr),(∀t∈r,t.s47)→∀l:Int,0≤gZ r l→(r.length:Int)≤l-gZ r l
 | [],_,l,_=>by simp[gZ]
 |t::r,h,l,h0=>by
  have hc:=oR (h t Ke);unfold gZ at h0⊢;by_cases q:l-eH t<0
  ·rw[if_pos q] at h0;omega
  rw[if_neg q] at h0⊢;have:=xL r (fun t ht=>h t (Kf _ ht)) (l-eH t) h0;simp only[Ki];omega
theorem wA{a:Am}(h:a.s47):(0:Int)≤(a.r.size / 50:Nat)∧((a.r.size / 50:Nat):Int)≤2814749767024:=by
 have:=h.1;unfold kE at this;omega
theorem xD{a:Am}(h:a.s47)(l:Int):(if l<0 then l else 0)-11258999068100≤fG a l∧(fG a l≤l-1∨fG a l=-1):=by
 have hn:=wA h;obtain⟨x,y⟩:=sv a.l h.2 (l-(1+(a.r.size / 50:Nat)));unfold fG;split at x<;>split<;>omega
theorem GO{b:Li}(h:b.s47)(l:Int):(if l<0 then l else 0)-22517998136200≤yD b l∧(yD b l≤l-1∨yD b l=-1∨yD b l≤-1):=by
 obtain⟨x1,y1⟩:=xD h.1 l;obtain⟨x2,y2⟩:=rJ _ b.x (Kd _) h.2.1 (fG b.a l);obtain⟨x3,y3⟩:=rJ _ b.y (Kd _) h.2.2 (kU b.x (fG b.a l));unfold yD;split at x1<;>split at x2<;>split at x3<;>split<;>omega
def Ru.few(r:Ru):Prop:=r.h.l.length≤300∧r.b.length≤300∧∀b∈r.b,b.a.l.length≤300∧b.x.few∧b.y.few
theorem vd:∀(r:List Li),(∀b∈r,b.s47)→∀l:Int,l≤300→0≤qV r l→(r.length:Int)≤l-qV r l∧0≤l∧∀b∈r,b.a.l.length≤300∧b.x.few∧b.y.few
 | [],_,l,_,h0=>by unfold qV at h0⊢;exact⟨Zm,h0,Zm⟩
 |b::r,h,l,hl,h0=>by
  have hb:=h b Ke;unfold qV at h0⊢;by_cases hl0:l<0
  ·rw[if_pos hl0] at h0;omega
  rw[if_neg hl0] at h0⊢;have hbd:=(GO hb l).2;obtain⟨c1,c2,c3⟩:=vd r (fun b hb=>h b (Kf _ hb)) (yD b l) or h0;unfold yD at c2;obtain⟨x1,y1⟩:=xD hb.1 l;obtain⟨x2,y2⟩:=rJ _ b.x (Kd _) hb.2.1 (fG b.a l);obtain⟨d1,d2,d3⟩:=qu _ b.y (Kd _) hb.2.2 _ or c2;obtain⟨e1,e2,e3⟩:=qu _ b.x (Kd _) hb.2.1 _ or d2;have hn:=wA hb.1;have ft:=xL b.a.l hb.1.2 (l-(1+(b.a.r.size / 50:Nat))) e2;refine⟨by simp only[Ki];omega,or,fun z hz=>?_⟩;rcases Ks.1 hz with rfl|hz
  ·exact⟨by unfold fG at e2;omega,e1,d1⟩
  exact c3 z hz
theorem DS{r:Ru}(h:r.s47)(h0:0≤tq r):r.few:=by
 unfold tq at h0;have hn:=wA h.1;obtain⟨x1,y1⟩:=xD h.1 300;obtain⟨a,b,c⟩:=vd r.b h.2 _ or h0;have ft:=xL r.h.l h.1.2 (300-(1+(r.h.r.size / 50:Nat))) b;unfold fG at b;exact⟨or,or,c⟩
mutual
def Ex.ts:Ex→List Tr
 | .mk _ t _ ks=>if ks.isEmpty then [t] else Ex.tss ks
def Ex.tss:List Ex→List Tr
 | []=>[]
 |e::r=>e.ts++Ex.tss r
end
theorem Ex.aC2:∀l:List Ex,Ex.tss l=l.flatMap Ex.ts
 | []=>rfl
 |e::r=>by rw[Ex.tss,Ex.aC2 r];rfl
theorem Ex.aBr(e:Ex):e.ts=if e.kids=[] then [e.t] else e.kids.flatMap Ex.ts:=by
 obtain⟨op,t,o,ks⟩:=e;rw[Ex.ts,Ex.aC2];cases ks<;>rfl
def rN:Nat→Ex→Bool
 |0, .mk _ _ _ ks=>ks.isEmpty
 |n+1, .mk _ _ _ ks=>match ks with
  | []=>true
  | [a,b]=>rN n a&&rN n b
  |_=>false
theorem rn:∀(n:Nat) (e:Ex),cR n e=true→rN n e=true
 |0, .mk op t o ks,h=>by
  unfold cR at h;obtain⟨_,rfl,_⟩:=of_decide_eq_true h;rfl
 |n+1, .mk op t o ks,h=>by
  unfold cR at h;split at h
  ·obtain⟨rfl,_⟩:=of_decide_eq_true h;rfl
  split at h
  ·rename_i a b;obtain⟨_,_,_,h1,h2⟩:=of_decide_eq_true h;simp only[rN,rn n a h1,rn n b h2,Bool.and_true]
  cases h
theorem rm:∀(n:Nat) (e:Ex),rN n e=true→e.ts.length≤2 ^ n
 |0, .mk op t o ks,h=>by
  cases ks with
  |nil=>simp[Ex.ts]
  |cons a r=>cases h
 |n+1, .mk op t o ks,h=>by
  have hp:1≤2 ^ n:=Nat.one_le_two_pow;match ks,h with
  | [],_=>simp[Ex.ts];omega
  | [a,b],h=>
   simp only[rN,Kb] at h;have g1:=rm n a h.1;have g2:=rm n b h.2;simp[Ex.ts,Ex.tss,Nat.pow_succ];omega
theorem pf{m:Nat}{op:Int}{t:Tr}{o:Own}{ks:List Ex}(h:rN m (.mk op t o ks)=true):ks.length≤2∧∀e∈ks,∃m,rN m e=true:=by
 cases m with
 |zero=>
  cases ks with
  |nil=>simp
  |cons a r=>cases h
 |succ m=>
  match ks,h with
  | [],_=>simp
  | [a,b],h=>
   simp only[rN,Kb] at h;refine⟨Zm,fun e he=>⟨m,?_⟩⟩;simp only[Ks,List.not_mem_nil,or_false] at he;rcases he with rfl|rfl
   ·exact h.1
   exact h.2
abbrev rk(e:Ex):Bool:=rN 20 e
theorem BK{e:Ex}(h:jR e=true):rk e=true:=rn 20 e h
theorem gT{e:Ex}(h:rk e=true):e.ts.length≤1048576:=rm 20 e h
theorem kj{e:Ex}(h:kJ e=true):rk e=true:=by
 unfold kJ at h;simp only[Kb,decide_eq_true_eq] at h;obtain⟨op,t,o,ks⟩:=e;have:ks=[]:=h.1.2;subst this;rfl
def bP(x:ByteArray)(l:List ByteArray):Bool:=l.any fun y=>decide (x=y)
theorem dE{x:ByteArray}{l:List ByteArray}:bP x l=true↔x∈l:=by simp[bP]
theorem jZ{x:ByteArray}{l:List ByteArray}:bP x l=false↔x∉l:=by rw[←dE,Bool.not_eq_true]
def nmT(l:List ByteArray)(t:Tr):List ByteArray:=if (!decide (t.x.size=0)&& !bP t.x l)=true then l++[t.x] else l
def nmL(l:List ByteArray)(ts:List Tr):List ByteArray:=ts.foldl nmT l
def Li.ts(l:Li):List Tr:=l.a.l++(l.x.ts++l.y.ts)
def Li.vars(l:Li):List ByteArray:=nmL [] l.ts
def Ru.vars(r:Ru):List ByteArray:=r.b.foldl (fun o l=>nmL o l.ts) (nmL [] r.h.l)
theorem br(l:List ByteArray)(a b:List Tr):nmL l (a++b)=nmL (nmL l a) b:=Kw ..
theorem FO(l:List ByteArray)(t:Tr):(nmT l t).length≤l.length+1:=by
 unfold nmT;split<;>simp
theorem jU:∀(ts:List Tr) (l:List ByteArray),(nmL l ts).length≤l.length+ts.length
 | [],l=>Kd _
 |t::r,l=>by
  have h1:=jU r (nmT l t);have h2:=FO l t;show(nmL (nmT l t) r).length≤_;simp only[Ki];omega
theorem FQ{x:ByteArray}{l:List ByteArray}{t:Tr}:x∈nmT l t↔x∈l∨(t.x=x∧t.x.size≠0):=by
 unfold nmT;split
 ·rename_i h;simp only[Kb,Km,decide_eq_false_iff_not] at h;rw[KA,Kp];exact⟨fun e=>e.imp_right fun e=>⟨e.symm,h.1⟩,fun e=>e.imp_right fun e=>e.1.symm⟩
 rename_i h;refine⟨.inl,fun e=>e.elim id fun e=>?_⟩;simp only[Kb,Km,decide_eq_false_iff_not,not_and,Bool.not_eq_false] at h;rw[←e.1];exact dE.1 (h e.2)
theorem bv{x:ByteArray}:∀{ts:List Tr} {l:List ByteArray},x∈nmL l ts↔x∈l∨∃t∈ts,t.x=x∧t.x.size≠0
 | [],l=>by simp[nmL]
 |t::r,l=>by
  show x∈nmL (nmT l t) r↔_;rw[bv (ts:=r),FQ];simp only[Ks];constructor
  ·rintro((h|h)|⟨u,h1,h2⟩)
   ·exact .inl h
   ·exact .inr ⟨t, .inl rfl,h⟩
   exact .inr ⟨u, .inr h1,h2⟩
  rintro(h|⟨u,rfl|h1,h2⟩)
  ·exact .inl (.inl h)
  ·exact .inl (.inr h2)
  exact .inr ⟨u,h1,h2⟩
theorem Cl{l:List ByteArray}{t:Tr}(h:l.Nodup):(nmT l t).Nodup:=by
 unfold nmT;split
 ·rename_i e;simp only[Kb,Km,decide_eq_false_iff_not] at e;exact List.nodup_append.2 ⟨h,Zm,fun a ha b hb=>by rw[Kp] at hb;subst hb;rintro rfl;exact jZ.1 e.2 ha⟩
 exact h
theorem sD:∀{ts:List Tr} {l:List ByteArray},l.Nodup→(nmL l ts).Nodup
 | [],l,h=>h
 |t::r,l,h=>sD (ts:=r) (Cl h)
theorem Bo:∀(ts:List Tr) (l:List ByteArray),∃m,nmL l ts=l++m
 | [],l=>⟨[],by simp[nmL]⟩
 |t::r,l=>by
  obtain⟨m,h⟩:=Bo r (nmT l t);show∃m,nmL (nmT l t) r=_;rw[h];unfold nmT;split
  ·exact⟨_,List.append_assoc ..⟩
  exact⟨_,rfl⟩
theorem iL{l:Li}(h:bG l=true):l.a.l.length≤6∧rk l.x=true∧rk l.y=true:=by
 unfold bG at h;split at h
 ·simp only[Kb] at h;obtain⟨⟨⟨h1,_⟩,h2⟩,h3⟩:=h;unfold fO at h1;simp only[Kb,decide_eq_true_eq] at h1;exact⟨h1.1.2,kj h2,kj h3⟩
 simp only[Kb,decide_eq_true_eq] at h;exact⟨by rw[h.1.1.2.2.1];simp,BK h.1.2,BK h.2⟩
theorem fY{l:Li}(h:bG l=true):l.ts.length≤2097158:=by
 obtain⟨h1,h2,h3⟩:=iL h;have e2:=gT h2;have e3:=gT h3;simp only[Li.ts,List.length_append];omega
theorem cM{r:Ru}(h:bT r=true):r.h.l.length≤6∧r.b.length≤8∧(∀l∈r.b,bG l=true):=by
 unfold bT fO at h;simp only[Kb,decide_eq_true_eq,List.all_eq_true] at h;exact⟨h.1.1.1.1.2,h.1.2,h.2⟩
def yX(b:List Li)(o:List ByteArray):List ByteArray:=b.foldl (fun o l=>nmL o l.ts) o
theorem lf:∀(b:List Li) (o:List ByteArray),(∀l∈b,bG l=true)→(yX b o).length≤o.length+b.length*2097158
 | [],o,_=>by simp[yX]
 |l::b,o,h=>by
  have h1:=lf b (nmL o l.ts) fun x hx=>h x (Kf _ hx);have h2:=jU l.ts o;have h3:=fY (h l Ke);show(yX b (nmL o l.ts)).length≤_;simp only[Ki,Nat.add_mul,Nat.one_mul];omega
theorem yj(b:List Li)(o:List ByteArray)(i:Nat)(h:i<b.length):yX (b.take (i+1)) o=nmL (yX (b.take i) o) b[i].ts:=by
 unfold yX;rw[Kg h,Kw];rfl
theorem db{r:Ru}(h:bT r=true)(i:Nat):(yX (r.b.take i) (nmL [] r.h.l)).length≤16777270:=by
 obtain⟨h1,h2,h3⟩:=cM h;have a:=lf (r.b.take i) (nmL [] r.h.l) fun l hl=>h3 l (List.mem_of_mem_take hl);have b:=jU r.h.l [];have c:(r.b.take i).length≤8:=by rw[List.length_take];omega
 simp only[List.length_nil] at b;have d:=Nat.mul_le_mul_right 2097158 c;omega
end Go.Proofs.YtgbiopfghdilnaaGreatDoor
