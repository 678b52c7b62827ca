/-
Texts of this proof,one behind the other. No conditions.
-/
import Derived.Test.YtemjhgboialjpaaGreatKd
import Derived.Test.YtemjhgboialjpaaGreatKh
import Derived.Test.YtemjhgboialjpaaGreatKe
import Derived.Test.YtemjhgboialjpaaGreatKdb
import Derived.Test.YtemjhgboialjpaaGreatKj
open Nat renaming reduceAdd→jA,reduceSub→jB,reduceLT→jC,reduceLeDiff→jD,reduceEqDiff→jE
open Int renaming reduceToNat→jF,toNat_natCast→jG,natCast_add→jH,natCast_one→jI,natCast_zero→jJ
open List renaming length_map→jK,length_cons→jL,length_nil→jM,replicate_succ→jN,replicate_zero→jO,cons_append→jP,nil_append→jQ
set_option linter.unusedSimpArgs false
set_option linter.unusedVariables false
set_option linter.unusedSectionVars false
namespace Go.Proofs.YtemjhgboialjpaaGreat
open Go.RowKit Go.Sort
attribute [local irreducible] IntKind.wrap
namespace LB
abbrev CompactFunc_r0(k:Sh):List aA:=[
 ⟨some 4,none, .val (.move (.const (.sl k .nil [])))⟩]
abbrev CompactFunc_r1:List aA:=[
 ⟨some 8,none, .val (.move (.slot 0))⟩,
 ⟨some 9,none, .val (.len (.slot 8))⟩,
 ⟨some 10,none, .val (.bin .lss (.slot 9) (.const (.int .i64 2)))⟩]
abbrev CompactFunc_r2:List aA:=[
 ⟨some 11,none, .val (.move (.slot 0))⟩,
 ⟨some 4,none, .val (.move (.slot 11))⟩]
abbrev CompactFunc_r3:List aA:=[
 ⟨some 5,none, .val (.move (.const (.int .i64 1)))⟩]
abbrev CompactFunc_r4:List aA:=[
 ⟨some 12,none, .val (.move (.slot 5))⟩,
 ⟨some 13,none, .val (.move (.slot 0))⟩,
 ⟨some 14,none, .val (.len (.slot 13))⟩,
 ⟨some 15,none, .val (.bin .lss (.slot 12) (.slot 14))⟩]
abbrev CompactFunc_r5(k:Sh):List (aA×List Nat):=[
 (⟨some 18,none, .val (.move (.slot 1))⟩,[]),
 (⟨some 19,none, .val (.move (.slot 0))⟩,[]),
 (⟨some 20,none, .val (.move (.slot 5))⟩,[]),
 (⟨some 21,none, .val (.idxA k (.slot 19) (.slot 20))⟩,[1,2]),
 (⟨some 22,none, .val (.load k (.slot 21))⟩,[1,2,3]),
 (⟨some 23,none, .val (.move (.slot 0))⟩,[]),
 (⟨some 24,none, .val (.move (.slot 5))⟩,[]),
 (⟨some 25,none, .val (.bin .sub (.slot 24) (.const (.int .i64 1)))⟩,[6]),
 (⟨some 26,none, .val (.idxA k (.slot 23) (.slot 25))⟩,[5,6,7]),
 (⟨some 27,none, .val (.load k (.slot 26))⟩,[5,6,7,8]),
 (⟨some 28,none, .callv (.slot 18) [(.slot 22),(.slot 27)]⟩,[0,1,2,3,4,5,6,7,8,9])]
abbrev CompactFunc_r5t:List aA:=[]
abbrev CompactFunc_r6(k:Sh):List aA:=[
 ⟨some 29,none, .val (.move (.slot 0))⟩,
 ⟨some 30,none, .val (.move (.slot 5))⟩,
 ⟨some 31,none, .val (.slc k (.slot 29) (.some (.slot 30)) .none .none)⟩,
 ⟨some 6,none, .val (.move (.slot 31))⟩]
abbrev CompactFunc_r7:List aA:=[
 ⟨some 7,none, .val (.move (.const (.int .i64 1)))⟩]
abbrev CompactFunc_r8:List aA:=[
 ⟨some 32,none, .val (.move (.slot 7))⟩,
 ⟨some 33,none, .val (.move (.slot 6))⟩,
 ⟨some 34,none, .val (.len (.slot 33))⟩,
 ⟨some 35,none, .val (.bin .lss (.slot 32) (.slot 34))⟩]
abbrev CompactFunc_r9(k:Sh):List (aA×List Nat):=[
 (⟨some 38,none, .val (.move (.slot 1))⟩,[]),
 (⟨some 39,none, .val (.move (.slot 6))⟩,[]),
 (⟨some 40,none, .val (.move (.slot 7))⟩,[]),
 (⟨some 41,none, .val (.idxA k (.slot 39) (.slot 40))⟩,[1,2]),
 (⟨some 42,none, .val (.load k (.slot 41))⟩,[1,2,3]),
 (⟨some 43,none, .val (.move (.slot 6))⟩,[]),
 (⟨some 44,none, .val (.move (.slot 7))⟩,[]),
 (⟨some 45,none, .val (.bin .sub (.slot 44) (.const (.int .i64 1)))⟩,[6]),
 (⟨some 46,none, .val (.idxA k (.slot 43) (.slot 45))⟩,[5,6,7]),
 (⟨some 47,none, .val (.load k (.slot 46))⟩,[5,6,7,8]),
 (⟨some 48,none, .callv (.slot 38) [(.slot 42),(.slot 47)]⟩,[0,1,2,3,4,5,6,7,8,9]),
 (⟨some 49,none, .val (.not (.slot 48))⟩,[0,1,2,3,4,5,6,7,8,9,10])]
abbrev CompactFunc_r9t:List aA:=[]
abbrev CompactFunc_r10(k:Sh):List aA:=[
 ⟨some 50,none, .val (.move (.slot 0))⟩,
 ⟨some 51,none, .val (.move (.slot 5))⟩,
 ⟨some 52,none, .val (.move (.slot 6))⟩,
 ⟨some 53,none, .val (.move (.slot 7))⟩,
 ⟨some 54,none, .val (.idxA k (.slot 52) (.slot 53))⟩,
 ⟨some 55,none, .val (.load k (.slot 54))⟩,
 ⟨some 56,none, .val (.idxA k (.slot 50) (.slot 51))⟩,
 ⟨none,none, .store k (.slot 56) (.slot 55)⟩]
abbrev CompactFunc_r11:List aA:=[
 ⟨some 57,none, .val (.move (.slot 5))⟩,
 ⟨some 58,none, .val (.bin .add (.slot 57) (.const (.int .i64 1)))⟩,
 ⟨some 5,none, .val (.move (.slot 58))⟩]
abbrev CompactFunc_r12:List aA:=[
 ⟨some 36,none, .val (.move (.slot 7))⟩,
 ⟨some 37,none, .val (.bin .add (.slot 36) (.const (.int .i64 1)))⟩,
 ⟨some 7,none, .val (.move (.slot 37))⟩]
abbrev CompactFunc_l0(k:Sh):aJ:=(.seq (.seq (.ops CompactFunc_r8) (.cond (.slot 35) .skip (.exit 2))) (.seq (.block 3 (.seq (.draw 12 (CompactFunc_r9 k) CompactFunc_r9t) (.cond (.slot 49) (.seq (.ops (CompactFunc_r10 k)) (.ops CompactFunc_r11)) .skip))) (.ops CompactFunc_r12)))
abbrev CompactFunc_r13(k:Sh)(z:V):List aA:=[
 ⟨some 59,none, .val (.move (.slot 0))⟩,
 ⟨some 60,none, .val (.move (.slot 5))⟩,
 ⟨some 61,none, .val (.slc k (.slot 59) (.some (.slot 60)) .none .none)⟩,
 ⟨none,none, .clear k (.slot 61) z⟩]
abbrev CompactFunc_r14(k:Sh):List aA:=[
 ⟨some 62,none, .val (.move (.slot 0))⟩,
 ⟨some 63,none, .val (.move (.slot 5))⟩,
 ⟨some 64,none, .val (.slc k (.slot 62) .none (.some (.slot 63)) .none)⟩,
 ⟨some 4,none, .val (.move (.slot 64))⟩]
abbrev CompactFunc_r15:List aA:=[
 ⟨some 16,none, .val (.move (.slot 5))⟩,
 ⟨some 17,none, .val (.bin .add (.slot 16) (.const (.int .i64 1)))⟩,
 ⟨some 5,none, .val (.move (.slot 17))⟩]
abbrev CompactFunc_l1(k:Sh)(z:V):aJ:=(.seq (.seq (.ops CompactFunc_r4) (.cond (.slot 15) .skip (.exit 0))) (.seq (.block 1 (.seq (.draw 11 (CompactFunc_r5 k) CompactFunc_r5t) (.cond (.slot 28) (.seq (.ops (CompactFunc_r6 k)) (.seq (.seq (.ops CompactFunc_r7) (.block 2 (.loop (CompactFunc_l0 k)))) (.seq (.ops (CompactFunc_r13 k z)) (.seq (.ops (CompactFunc_r14 k)) .ret)))) .skip))) (.ops CompactFunc_r15)))
abbrev CompactFunc_r16:List aA:=[
 ⟨some 65,none, .val (.move (.slot 0))⟩,
 ⟨some 4,none, .val (.move (.slot 65))⟩]
def CompactFunc(k:Sh)(z:V):LFn:=⟨(.seq (.ops (CompactFunc_r0 k)) (.seq (.seq (.ops CompactFunc_r1) (.cond (.slot 10) (.seq (.ops CompactFunc_r2) .ret) .skip)) (.seq (.seq (.ops CompactFunc_r3) (.block 0 (.loop (CompactFunc_l1 k z)))) (.seq (.ops CompactFunc_r16) .ret)))),66,[.slot 4]⟩
end LB
section
variable{P:Program}{α:Type} [Inhabited α](e:α→V){k:Sh}{z:V}
theorem nB(ds:List α)(j:Nat)(h1:0<j)(h2:j<ds.length):ds.take (j+1)=ds.take (j-1)++[ds[j-1],ds[j]]∧ds.take j=ds.take (j-1)++[ds[j-1]]:=by
 have e1:ds.take j=ds.take (j-1)++[ds[j-1]]:=by
  have:=List.take_succ_eq_append_getElem (i:=j-1) (l:=ds) (by omega)
  rwa [show j-1+1=j by omega] at this
 refine⟨?_,e1⟩
 rw[List.take_succ_eq_append_getElem h2,e1,List.append_assoc];rfl
theorem yH{p:α→α→Bool}(ds:List α)(j:Nat)(h1:0<j)(h2:j<ds.length)(he:p ds[j] ds[j-1]=true):cpt p (ds.take (j+1))=cpt p (ds.take j):=by
 rw[(nB ds j h1 h2).1,(nB ds j h1 h2).2,yG,if_pos he,List.append_nil]
theorem aAI{p:α→α→Bool}(ds:List α)(j:Nat)(h1:0<j)(h2:j<ds.length)(he:p ds[j] ds[j-1]=false):cpt p (ds.take (j+1))=cpt p (ds.take j)++[ds[j]]:=by
 rw[(nB ds j h1 h2).1,(nB ds j h1 h2).2,yG,if_neg (by simp[he])]
set_option maxHeartbeats 1000000 in
theorem rY{f:Nat}(hL:aH P f=some (LB.CompactFunc k z))(hz:z.fits k=true)(hfit:∀x,(e x).fits k=true)(g:Nat)(caps:List V)(p:α→α→Bool)(hc0:Hp)(n:Nat)(ds:List α)
 (hp0:∀x∈ds,∀y∈ds,bH P g ([e x,e y]++caps) hc0 (.bool (p x y))) (hlen:ds.length≤1000000) (h:Hp) (nx:Nat) (hh:hc0.has h) (hcn:hc0 n=none) (hn:h n=some (.arr k (ds.map e))):
 aP P f [.rs n k 0 ds.length, .fn (.func g) [] caps] h nx fun v h' _=>∃es m,v= .rs n k 0 m∧m≤es.length∧h'=h.set n (.arr k es)∧es.take m=(cpt p ds).map e:=by
 have hsetn:h.set n (.arr k (ds.map e))=h:=by
  funext x
  unfold Hp.set
  split
  ·rename_i hx;rw[hx,hn]
  rfl
 have hall:cpt p ds=ds→∃es m,V.rs n k 0 ds.length= .rs n k 0 m∧m≤es.length∧h=h.set n (.arr k es)∧es.take m=(cpt p ds).map e:=fun hc=>
  ⟨ds.map e,ds.length,rfl,by simp,hsetn.symm,by rw[hc];exact List.take_of_length_le (by simp)⟩
 have hasX:∀H:Hp,(∀x,x≠n→H x=h x)→hc0.has H:=fun H hH m b e hb=>by
  have:m≠n:=by rintro rfl;rw[hcn] at e;cases e
  rw[hH m this];exact hh m b e hb
 have hpp:∀i j (hi:i<ds.length) (hj:j<ds.length),bH P g ([e ds[i],e ds[j]]++caps) hc0 (.bool (p ds[i] ds[j])):=fun i j hi hj=>hp0 _ (List.getElem_mem _) _ (List.getElem_mem _)
 clear hp0
 refine aF hL fun hd=>?_
 simp only[jL,jM,jA,jB,jN,jO,jP,jQ,V.undef]
 rcases Nat.lt_or_ge ds.length 2 with h2|h2
 ·have hc:decide ((ds.length:Int)<2)=true:=dct
  refine aue hc ?_
  refine aD h (Hp.le_refl _) ?_
  simp only[go_sem,reduceIte,jA,jB,jC,jD,reduceCtorEq,jE,jF]
  refine hall ?_
  match ds,h2 with
  | [],_=>rfl
  | [x],_=>rfl
 have hc:decide ((ds.length:Int)<2)=false:=dcf
 refine aue hc ?_
 refine aY (fun i:Nat=>aC 66 0 [(0, .rs n k 0 ds.length),(1, .fn (.func g) [] caps),(5, .int .i64 i)]) (fun i hp _=>1≤i∧i≤ds.length∧hp=h∧cpt p (ds.take i)=ds.take i) (fun i=>ds.length-i) 1 ⟨Nat.le_refl _,by omega,rfl,?_⟩ ?_ ?_
 ·match ds,h2 with
  |x::l,_=>rfl
 ·simp only[WkL,aC,jH,jI,jJ,go_sem,reduceIte,jA,jB,jC,jD,reduceCtorEq,jE,jF]
 rintro i hp nx1 ⟨hi1,hi,rfl,hcs⟩
 generalize hQ:bU _ _ _ _ _=Q0
 simp only[aC,go_sem,reduceIte,jA,jB,jC,jD,reduceCtorEq,jE,jF]
 rcases Nat.lt_or_ge i ds.length with hlt|hge
 ·have hc:decide ((i:Int)<(ds.length:Int))=true:=dct
  have hg:=aO e ds i hlt
  have hg1:=aO e ds (i-1) (by omega)
  have hw1:IntKind.i64.wrap ((i:Int)-1)=((i-1:Nat):Int):=wrp
  have hw:IntKind.i64.wrap ((i:Int)+1)=((i+1:Nat):Int):=wrp
  have hlt1:i-1<ds.length:=by omega
  have hne:(i=ds.length)=False:=eq_false (by omega)
  have hq:=hpp i (i-1) hlt hlt1
  refine aue (e11 hc hg hg1 hw1 hw hlt hlt1 hn hne hfit (e2 (@jK α V) jG)) ?_
  refine rT rfl hq rfl (hasX _ fun _ _=>rfl) ?_
  simp only[go_sem,reduceIte,jA,jB,jC,jD,reduceCtorEq,jE,jF]
  cases hx:p ds[i] ds[i-1] with
  |true=>
   refine aue (e11 hc hg hg1 hw1 hw hlt hlt1 hn hne hfit (e2 (@jK α V) jG)) ?_
   refine aY (fun q:Nat×Nat×List α=>aC 66 0 [(0, .rs n k 0 ds.length),(1, .fn (.func g) [] caps),(5, .int .i64 q.1),(6, .rs n k i (ds.length-i)),(7, .int .i64 q.2.1)])
    (fun q hp2 _=>i≤q.1∧q.1+1≤i+q.2.1∧1≤q.2.1∧i+q.2.1≤ds.length∧q.2.2.length=ds.length∧q.2.2.take q.1=cpt p (ds.take (i+q.2.1))∧q.2.2.drop q.1=ds.drop q.1∧hp2 n=some (.arr k (q.2.2.map e))∧∀x,x≠n→hp2 x=hp x)
    (fun q=>ds.length-q.2.1) (i,1,ds) ⟨Nat.le_refl _,Nat.le_refl _,Nat.le_refl _,by dsimp only;omega,rfl,?_,rfl,hn,fun _ _=>rfl⟩ ?_ ?_
   ·dsimp only;rw[yH ds i (by omega) hlt hx,hcs]
   ·simp only[WkL,aC,jH,jI,jJ,go_sem,reduceIte,jA,jB,jC,jD,reduceCtorEq,jE,jF]
   rintro⟨m,k2,xs⟩ hp2 nx2 ⟨a1,a2,a3,a4,a5,a6,a7,a8,a9⟩
   generalize hQ2:bU _ _ _ _ _=Q2
   dsimp only at a1 a2 a3 a4 a5 a6 a7 a8
   simp only[aC,go_sem,reduceIte,jA,jB,jC,jD,reduceCtorEq,jE,jF]
   have hat:∀j,m≤j→(hj:j<ds.length)→xs[j]'(by omega)=ds[j]:=fun j hm hj=>by
    have e1:xs[j]'(by omega)=(xs.drop m)[j-m]'(by simp;omega):=by simp[show m+(j-m)=j by omega]
    have e2:ds[j]=(ds.drop m)[j-m]'(by simp;omega):=by simp[show m+(j-m)=j by omega]
    rw[e1,e2]
    congr 1
   rcases Nat.lt_or_ge k2 (ds.length-i) with hlt2|hge2
   ·have hcc:decide ((k2:Int)<((ds.length-i:Nat):Int))=true:=dct
    have hj:i+k2<ds.length:=by omega
    have hj1:i+k2-1<ds.length:=by omega
    have g1:(xs.map e).getD (i+k2) (.tup [])=e ds[i+k2]:=by rw[aO e xs (i+k2) (by omega),hat _ (by omega) hj]
    have g2:(xs.map e).getD (i+(k2-1)) (.tup [])=e ds[i+k2-1]:=by
     rw[aO e xs (i+(k2-1)) (by omega)]
     rw[show e xs[i+(k2-1)]=e (xs[i+k2-1]'(by omega)) by congr 2;omega,hat _ (by omega) (by omega)]
    have w1:IntKind.i64.wrap ((k2:Int)-1)=((k2-1:Nat):Int):=wrp
    have w2:IntKind.i64.wrap ((k2:Int)+1)=((k2+1:Nat):Int):=wrp
    have w3:IntKind.i64.wrap ((m:Int)+1)=((m+1:Nat):Int):=wrp
    have b1:i+(k2-1)<ds.length:=by omega
    have b2:k2-1<ds.length-i:=by omega
    have b3:m<ds.length:=by omega
    have hq2:=hpp (i+k2) (i+k2-1) hj hj1
    have E:=e14 hcc g1 g2 w1 w2 w3 hj b1 b2 b3 hlt2 a8 a5 (e3 hfit (@jK α V) jG)
    refine aue E ?_
    refine rT rfl hq2 rfl (hasX _ a9) ?_
    simp only[go_sem,reduceIte,jA,jB,jC,jD,reduceCtorEq,jE,jF]
    cases hy:p ds[i+k2] ds[i+k2-1] with
    |false=>
     refine aue (e3 E Bool.not_false Bool.not_true) ?_
     rw[←hQ2]
     refine aM (m+1,k2+1,xs.set m ds[i+k2]) (by dsimp only;omega) ⟨by dsimp only;omega,by dsimp only;omega,by dsimp only;omega,by dsimp only;omega,by simpa using a5,?_,?_,?_,?_⟩ ?_
     ·dsimp only
      rw[show i+(k2+1)=(i+k2)+1 by omega,aAI ds (i+k2) (by omega) hj hy,←a6,List.take_succ_eq_append_getElem (by simp;omega),List.getElem_set_self,List.take_set_of_le (Nat.le_refl _)]
     ·dsimp only
      rw[List.drop_set_of_lt (by omega)]
      have:=congrArg (List.drop 1) a7
      rwa [List.drop_drop,List.drop_drop] at this
     ·simp only[go_sem,reduceIte,jA,jB,jC,jD,reduceCtorEq,jE,jF]
      rw[List.map_set,aO e xs m (by omega),aN (hfit _) (hfit _)]
     ·intro x hx
      simp only[hx,go_sem,reduceIte,jA,jB,jC,jD,reduceCtorEq,jE,jF]
      exact a9 x hx
     simp only[WkL,aC,jH,jI,jJ,w2,go_sem,reduceIte,jA,jB,jC,jD,reduceCtorEq,jE,jF]
    |true=>
     refine aue (e3 E Bool.not_false Bool.not_true) ?_
     rw[←hQ2]
     refine aM (m,k2+1,xs) (by dsimp only;omega) ⟨a1,by dsimp only;omega,by dsimp only;omega,by dsimp only;omega,a5,?_,a7,a8,a9⟩ ?_
     ·dsimp only
      rw[show i+(k2+1)=(i+k2)+1 by omega,yH ds (i+k2) (by omega) hj hy,a6]
     simp only[WkL,aC,jH,jI,jJ,w2,go_sem,reduceIte,jA,jB,jC,jD,reduceCtorEq,jE,jF]
   have hcc:decide ((k2:Int)<((ds.length-i:Nat):Int))=false:=dcf
   have hend:i+k2=ds.length:=by omega
   rw[hend,List.take_length] at a6
   have hm1:m<ds.length:=by omega
   have hml:(m=ds.length)=False:=eq_false (by omega)
   refine aue hcc ?_
   rw[←hQ2]
   refine aue (ee5 hml hm1 a8 a5 hz) ?_
   rw[←hQ]
   refine au ?_
   refine aD _ (Hp.le_refl _) ⟨(xs.map e).take m++List.replicate (ds.length-m) z++(xs.map e).drop (m+(ds.length-m)),m,?_,?_,?_,?_⟩
   ·simp only[Nat.sub_zero,go_sem,reduceIte,jA,jB,jC,jD,reduceCtorEq,jE,jF]
   ·simp;omega
   ·funext x
    by_cases hx:x=n
    ·subst hx;simp only[go_sem,reduceIte,jA,jB,jC,jD,reduceCtorEq,jE,jF]
    simp only[hx,go_sem,reduceIte,jA,jB,jC,jD,reduceCtorEq,jE,jF];exact a9 x hx
   rw[List.append_assoc,List.take_append_of_le_length (by simp;omega),List.take_take,Nat.min_self,←List.map_take,a6]
  |false=>
   refine aue (e11 hc hg hg1 hw1 hw hlt hlt1 hn hne hfit (e2 (@jK α V) jG)) ?_
   rw[←hQ]
   refine aM (i+1) (by omega) ⟨by omega,by omega,rfl,?_⟩ ?_
   ·rw[aAI ds i (by omega) hlt hx,hcs,←List.take_succ_eq_append_getElem hlt]
   simp only[WkL,aC,jH,jI,jJ,hw,go_sem,reduceIte,jA,jB,jC,jD,reduceCtorEq,jE,jF]
 have hc:decide ((i:Int)<(ds.length:Int))=false:=dcf
 refine aue hc ?_
 rw[←hQ]
 refine au ?_
 refine aD hp (Hp.le_refl _) ?_
 simp only[go_sem,reduceIte,jA,jB,jC,jD,reduceCtorEq,jE,jF]
 refine hall ?_
 rw[show i=ds.length by omega,List.take_length] at hcs
 exact hcs
end
end Go.Proofs.YtemjhgboialjpaaGreat
namespace Go.Proofs.YtemjhgboialjpaaGreat
open Go.RowKit Go.Sort Go.Shelf Go.Lib
theorem aBN{P:Program}{k:Sh}{f bs:Nat}(hL:aH P f=some (LB.Clone k bs))(hbs:bs≤140737)(own:Own)(es:List V)(hl:es.length≤1000000000)(hn:own≠ .nil)(hne:es≠ [])(h:Hp)(nx:Nat):
 aP P f [.sl k own es] h nx fun v h' _=>∃id,nx≤id∧v= .rs id k 0 es.length∧h'=h.set id (.arr k es):=by
 refine aF hL fun hd=>?_
 simp only[jL,jM,jA,jB,jN,jO,jP,jQ,V.undef]
 refine wl ?_
 refine cA _ rfl (fun hc=>?_) (fun hc=>?_)
 ·exact absurd (by simpa using hc) hn
 have hb1:es.length*bs≤140737488355328:=lQ hl hbs
 repeat (first|with_reducible refine dR ?_|with_reducible refine cU ?_|with_reducible refine fC ?_|with_reducible refine bM ?_|with_reducible refine bI ?_|with_reducible refine dS ?_|with_reducible refine dN ?_)
 refine fS (by simp) ?_
 simp only[go_sem,reduceIte,jA,jB,jC,jD,reduceCtorEq,jE,jF]
 refine eI 1 rfl (by simp only[go_sem,reduceIte,jA,jB,jC,jD,reduceCtorEq,jE,jF]) ?_
 simp only[go_sem,reduceIte,jA,jB,jC,jD,reduceCtorEq,jE,jF]
 refine jT (es:=[]) (ys:=es) rfl (by simp only[go_sem,reduceIte,jA,jB,jC,jD,reduceCtorEq,jE,jF]) (by simp) (by simp only[go_sem,reduceIte,jA,jB,jC,jD,reduceCtorEq,jE,jF]) hne (by simpa using hb1) ?_
 simp only[go_sem,reduceIte,jA,jB,jC,jD,reduceCtorEq,jE,jF]
 refine eI 1 rfl (by simp only[go_sem,reduceIte,jA,jB,jC,jD,reduceCtorEq,jE,jF]) ?_
 simp only[go_sem,reduceIte,jA,jB,jC,jD,reduceCtorEq,jE,jF]
 repeat (first|with_reducible refine dR ?_|with_reducible refine cU ?_|with_reducible refine fC ?_|with_reducible refine bM ?_|with_reducible refine bI ?_|with_reducible refine dS ?_|with_reducible refine dN ?_)
 refine bN (aD (h.set (nx+1) (.arr k es)) ?_ ⟨nx+1,by omega,?_,rfl⟩)
 ·intro m b e
  have hm:∀b,h m=some b→m<nx:=fun b hb=>hd m b hb
  simp only[Hp.set_app,Hp.del_app] at e⊢
  split at e
  ·rename_i e1;rw[if_pos e1];exact e
  rename_i e1
  have:=hm _ e
  rw[if_neg e1,if_neg (by omega),if_neg (by omega)];exact e
 simp only[go_sem,reduceIte,jA,jB,jC,jD,reduceCtorEq,jE,jF]
end Go.Proofs.YtemjhgboialjpaaGreat
namespace Go.Proofs.YtemjhgboialjpaaGreat
open Go.RowKit Go.Sort
attribute [local irreducible] IntKind.wrap
namespace LB
abbrev AggSet_r0(k:Sh):List aA:=[
 ⟨some 3,none, .box .leaf (.slot 1)⟩,
 ⟨some 4,none, .val (.move (.const (.sl k .nil [])))⟩]
abbrev AggSet_r1(f0:Nat)(f1:Nat):List (aA×List Nat):=[
 (⟨some 6,none, .val (.move (.slot 0))⟩,[]),
 (⟨some 7,none, .call f0 [(.slot 6)]⟩,[0]),
 (⟨some 8,none, .val (.load .leaf (.slot 3))⟩,[]),
 (⟨some 9,none, .call f1 [(.slot 7),(.slot 8)]⟩,[0,1,2]),
 (⟨some 5,none, .val (.move (.slot 9))⟩,[0,1,2,3])]
abbrev AggSet_r1t:List aA:=[]
abbrev AggSet_r2(f2:Nat)(f3:Nat):List aA:=[
 ⟨some 10,none, .val (.move (.slot 5))⟩,
 ⟨some 11,none, .val (.mkfn (.func f3) [] [(.slot 3)])⟩,
 ⟨some 12,none, .call f2 [(.slot 10),(.slot 11)]⟩,
 ⟨some 4,none, .val (.move (.slot 12))⟩]
def AggSet(k:Sh)(f0:Nat)(f1:Nat)(f2:Nat)(f3:Nat):LFn:=⟨(.seq (.ops (AggSet_r0 k)) (.seq (.draw 5 (AggSet_r1 f0 f1) AggSet_r1t) (.seq (.ops (AggSet_r2 f2 f3)) .ret))),13,[.slot 4]⟩
end LB
section
variable{P:Program}{α:Type} [Inhabited α](e:α→V){k:Sh}{z:V}
theorem wL{f:Nat}(hL:aH P f=some (LB.CompactFunc k z))(fv:V)(h:Hp)(nx:Nat):aP P f [.sl k .nil [],fv] h nx fun v h' _=>v= .sl k .nil []∧h'=h:=by
 refine aF hL fun hd=>?_
 simp only[List.length_cons,List.length_nil,Nat.reduceAdd,Nat.reduceSub,List.replicate_succ,List.replicate_zero,List.cons_append,List.nil_append,V.undef]
 have hc:decide ((0:Int)<2)=true:=by decide
 refine aue (e2 hc Int.natCast_zero) ?_
 exact aD h (Hp.le_refl _) ⟨rfl,rfl⟩
def aEv(k:Sh)(cf:α→α→Int)(xs:List α)(nx:Nat)(h:Hp)(v:V)(h':Hp):Prop:=∃ys:List α,ys.Perm xs∧eE cf ys∧
 ((xs=[]∧v= .sl k .nil []∧h'=h)∨(xs≠ []∧∃id es m,nx≤id∧v= .rs id k 0 m∧m≤es.length∧h'=h.set id (.arr k es)∧es.take m=(cpt (fun x y=>decide (cf x y=0)) ys).map e))
set_option maxHeartbeats 2000000 in
theorem tE{f f0 f1 f2 f3 it gc:Nat}(hL:aH P f=some (LB.AggSet k f0 f1 f2 f3))(hC:aH P f2=some (LB.CompactFunc k z))(hz:z.fits k=true)(hfit:∀x,(e x).fits k=true)(cf:α→α→Int)(o:Own)(xs:List α)(hl:xs.length≤1000000)
 (hV:∀h,bH P f0 [.sl k o (xs.map e)] h (.fn (.func it) [] [.ept .leaf [(V.sl k o (xs.map e)).loose] 0 0]))
 (hS:∀h nx,aP P f1 [.fn (.func it) [] [.ept .leaf [(V.sl k o (xs.map e)).loose] 0 0], .fn (.func gc) [] []] h nx fun v h'' _=>∃es,(∃ys:List α,ys.Perm xs∧eE cf ys∧es=ys.map e)∧wP nx h k es v h'')
 (hcl:∀x y (hb:Hp) b,hb b=some (.arr .leaf [.fn (.func gc) [] []])→bH P f3 [e x,e y, .ptr b .leaf 0 0] hb (.bool (decide (cf x y=0)))) (h':Hp) (nx:Nat):
 aP P f [.sl k o (xs.map e), .fn (.func gc) [] []] h' nx fun v h'' _=>aEv e k cf xs nx h' v h'':=by
 refine aF hL fun hd=>?_
 simp only[List.length_cons,List.length_nil,Nat.reduceAdd,Nat.reduceSub,List.replicate_succ,List.replicate_zero,List.cons_append,List.nil_append,V.undef]
 refine aus ?_
 refine tR ?_
 obtain⟨X,hX⟩:∃X,X=h'.set nx (.arr .leaf [.fn (.func gc) [] []]):=⟨_,rfl⟩
 have hXb:X nx=some (.arr .leaf [.fn (.func gc) [] []]):=by rw[hX];simp[Hp.set]
 obtain⟨I,hI⟩:∃I,I=(.fn (.func it) [] [.ept .leaf [(V.sl k o (xs.map e)).loose] 0 0]:V):=⟨_,rfl⟩
 obtain⟨A,hA⟩:∃A,A=V.sl k o (xs.map e):=⟨_,rfl⟩
 rw[←hI] at hS
 simp only[←hI,←hA] at hV
 rw[←hA,←hX]
 obtain⟨F,hF⟩:∃F:(Nat→Bool)→V→List V,∀D v9,F D v9=[A, .fn (.func gc) [] [], .tup [], .ptr nx .leaf 0 0, .sl k .nil [],if D 4=true then v9 else .tup [],if D 0=true then A else .tup [],if D 1=true then I else .tup [],if D 2=true then .fn (.func gc) [] [] else .tup [],if D 3=true then v9 else .tup [], .tup [], .tup [], .tup []]:=⟨_,fun _ _=>rfl⟩
 refine⟨fun D s'=>∃v9 h9 nx',s'=⟨F D v9,if D 3=true then h9 else X,nx'⟩∧nx+1≤nx'∧(D 3=true→∃es,(∃ys:List α,ys.Perm xs∧eE cf ys∧es=ys.map e)∧wP (nx+1) X k es v9 h9),⟨.tup [],X,nx+1,by simp[hF,V.undef],Nat.le_refl _,by simp⟩,?_,?_⟩
 ·rintro D i oo deps s' hi hDi hdeps hcl' ⟨v9,h9,nx',rfl,hnx,k3⟩
  have d3:D 3=true→∀d,d<3→D d=true:=fun h d hd=>hcl' 3 _ _ rfl h d (by simp;omega)
  have d4:D 4=true→D 3=true:=fun h=>hcl' 4 _ _ rfl h 3 (by simp)
  rcases i with _|_|_|_|_|i
  all_goals first|(injection hi with hi;injection hi with q1 q2;subst q1;subst q2)|skip
  all_goals try simp only[List.mem_cons,List.not_mem_nil,or_false,forall_eq_or_imp,forall_eq,false_implies,implies_true] at hdeps
  ·refine⟨v9,h9,nx',?_,hnx,by simpa using k3⟩
   simp[bC,hF,hDi,aG.ev]
  ·refine bA (hV _) (by simp[hF,hdeps,aG.ev]) (aV _) ?_
   exact⟨v9,h9,nx',by simp[bC,hF,hI,hA],hnx,by simpa using k3⟩
  ·have n3:D 3=false:=by
    cases h:D 3 with
    |false=>rfl
    |true=>have:=d3 h 2 (by omega);rw[hDi] at this;cases this
   simp only[aW,LOp.run,aS.sem,aG.ev,hF,n3,hXb,List.getD_cons_succ,List.getD_cons_zero,Bool.false_eq_true,if_false]
   exact⟨trivial,by simp,by simp[bV],v9,h9,nx',by simp[bC,hF,n3,bK,V.cell,V.cells],hnx,by simp[n3]⟩
  ·have n4:D 4=false:=by
    cases h:D 4 with
    |false=>rfl
    |true=>have:=d4 h;rw[hDi] at this;cases this
   refine bD ?_
   simp only[hF,hDi,hdeps,aG.ev,List.map_cons,List.map_nil,List.getD_cons_succ,List.getD_cons_zero,Bool.false_eq_true,if_false,if_true]
   refine(hS _ _).mono ?_
   rintro v h3 nx3 hnx3 ⟨es,hys,hfr⟩
   refine⟨v,h3,nx3,by simp[bC,hF,n4,hDi,hdeps],Nat.le_trans hnx hnx3,fun _=>⟨es,hys,?_⟩⟩
   rcases hfr with h|⟨q1,id,q2,q3⟩
   ·exact .inl h
   exact .inr ⟨q1,id,by omega,q3⟩
  ·refine⟨v9,h9,nx',?_,hnx,by simpa using k3⟩
   simp[bC,hF,hDi,aG.ev,hdeps]
  simp[LB.AggSet_r1] at hi
 rintro D s' hD ⟨v9,h9,nx',rfl,hnx,k3⟩
 have dd:=fun i (h:i<5)=>hD i h
 rw[hF]
 simp only[dd 0 (by omega),dd 1 (by omega),dd 2 (by omega),dd 3 (by omega),dd 4 (by omega),if_true]
 obtain⟨es,⟨ys,hp,hs,rfl⟩,hfr⟩:=k3 (dd 3 (by omega))
 have hyl:ys.length=xs.length:=hp.length_eq
 rcases hfr with⟨hn,rfl,rfl⟩|⟨hne,id,hid,rfl,rfl⟩
 ·have hxn:xs=[]:=by
   have:ys=[]:=by simpa using hn
   subst this
   exact List.length_eq_zero_iff.1 (by simpa using hyl.symm)
  refine au ?_
  refine bD ((wL hC _ _ _).mono ?_)
  rintro v h3 nx3 _ ⟨rfl,rfl⟩
  unfold dK
  simp only[go_sem,reduceIte,Nat.reduceAdd,Nat.reduceSub,Nat.reduceLT,Nat.reduceLeDiff,reduceCtorEq,Nat.reduceEqDiff,Int.reduceToNat]
  refine au ?_
  refine aD h' (by rw[hX];exact leo hd) ⟨ys,hp,hs, .inl ⟨hxn,rfl,rfl⟩⟩
 have hxn:xs≠ []:=fun h=>by
  subst h
  exact hne (by simpa using hyl)
 have hlm:(ys.map e).length=ys.length:=List.length_map ..
 rw[hlm]
 refine au ?_
 refine bD ((rY e hC hz hfit f3 [.ptr nx .leaf 0 0] (fun x y=>decide (cf x y=0)) (Hp.none.set nx (.arr .leaf [.fn (.func gc) [] []])) id ys (fun x _ y _=>hcl x y _ nx (by simp[Hp.set])) (by omega) _ _ ?_ ?_ ?_).mono ?_)
 ·intro m b e1 _
  simp only[Hp.set_app] at e1⊢
  split at e1
  ·rename_i e2;subst e2;rw[if_neg (by omega),hXb];exact e1
  cases e1
 ·simp only[Hp.set];rw[if_neg (by omega)]
  try rfl
 ·simp[Hp.set]
 rintro v h3 nx3 _ ⟨es,m,rfl,hm,rfl,htk⟩
 unfold dK
 simp only[go_sem,reduceIte,Nat.reduceAdd,Nat.reduceSub,Nat.reduceLT,Nat.reduceLeDiff,reduceCtorEq,Nat.reduceEqDiff,Int.reduceToNat]
 refine au ?_
 refine aD (h'.set id (.arr k es)) ?_ ⟨ys,hp,hs, .inr ⟨hxn,id,es,m,by omega,rfl,hm,rfl,htk⟩⟩
 intro q b e1
 simp only[Hp.set_app,hX] at e1⊢
 split at e1
 ·rename_i e2;rw[if_pos e2];exact e1
 rename_i e2
 have:=hd _ _ e1
 rw[if_neg e2,if_neg e2,if_neg (by omega)];exact e1
end
end Go.Proofs.YtemjhgboialjpaaGreat
namespace Go.Proofs.YtemjhgboialjpaaGreat
open Go.RowKit Go.Sort Go.Shelf Go.Lib
namespace LB
abbrev AppendSeqL_r0:List aA:=[
 ⟨some 2,none, .box .leaf (.slot 0)⟩,
 ⟨some 4,none, .val (.move (.const (.sl .leaf .nil [])))⟩]
abbrev AppendSeqL_r1:List aA:=[
 ⟨some 6,none, .val (.move (.slot 1))⟩]
abbrev AppendSeqL_r2:List aA:=[
 ⟨some 5,none, .val (.move (.slot 7))⟩]
abbrev AppendSeqL_r3(bs:Nat):List aA:=[
 ⟨some 8,none, .val (.load .leaf (.slot 2))⟩,
 ⟨some 9,none, .val (.move (.slot 5))⟩,
 ⟨some 10,none, .bslice .leaf [(.slot 9)]⟩,
 ⟨some 11,none, .append .leaf bs (.slot 8) (.slot 10)⟩,
 ⟨none,none, .store .leaf (.slot 2) (.slot 11)⟩]
abbrev AppendSeqL_b0(bs:Nat):aJ:=(.block 1 (.ops (AppendSeqL_r3 bs)))
abbrev AppendSeqL_r4:List aA:=[
 ⟨some 12,none, .val (.load .leaf (.slot 2))⟩,
 ⟨some 4,none, .val (.move (.slot 12))⟩]
def AppendSeqL(bs:Nat):LFn:=⟨(.seq (.ops AppendSeqL_r0) (.seq (.seq (.ops AppendSeqL_r1) (.block 0 (.range (.slot 6) [7] (.ops AppendSeqL_r2) (AppendSeqL_b0 bs)))) (.seq (.ops AppendSeqL_r4) .ret))),13,[.slot 4]⟩
abbrev ValuesItL_r0:List aA:=[
 ⟨some 5,none, .val (.load .leaf (.slot 1))⟩,
 ⟨some 6,none, .val (.len (.slot 5))⟩,
 ⟨some 7,none, .val (.move (.const (.int .i64 0)))⟩]
abbrev ValuesItL_r1:List aA:=[
 ⟨some 8,none, .val (.bin .lss (.slot 7) (.slot 6))⟩]
abbrev ValuesItL_r2:List aA:=[
 ⟨some 9,none, .val (.idxA .leaf (.slot 5) (.slot 7))⟩,
 ⟨some 10,none, .val (.load .leaf (.slot 9))⟩,
 ⟨some 4,none, .val (.move (.slot 10))⟩]
abbrev ValuesItL_r3:List aA:=[
 ⟨some 11,none, .val (.move (.slot 0))⟩,
 ⟨some 12,none, .val (.move (.slot 4))⟩,
 ⟨some 13,none, .callv (.slot 11) [(.slot 12)]⟩,
 ⟨some 14,none, .val (.not (.slot 13))⟩]
abbrev ValuesItL_r4:List aA:=[
 ⟨some 15,none, .val (.bin .add (.slot 7) (.const (.int .i64 1)))⟩,
 ⟨some 7,none, .val (.move (.slot 15))⟩]
abbrev ValuesItL_l0:aJ:=(.seq (.ops ValuesItL_r1) (.seq (.cond (.slot 8) .skip (.exit 0)) (.seq (.block 1 (.seq (.ops ValuesItL_r2) (.seq (.ops ValuesItL_r3) (.cond (.slot 14) .ret .skip)))) (.ops ValuesItL_r4))))
def ValuesItL:LFn:=⟨(.seq (.ops ValuesItL_r0) (.block 0 (.loop ValuesItL_l0))),16,[]⟩
end LB
section
variable{P:Program}{α:Type}(e:α→V)(hfit:∀x,(e x).fits .leaf=true)
include hfit
theorem sL{f:Nat}(hL:aH P f=some LB.ValuesItL)(own:Own)(l:List α)(hl:l.length≤1000000000):
 wO P f [.ept .leaf [.sl .leaf own (l.map e)] 0 0] Hp.none (l.map fun x=>[e x]):=by
 intro yn J D hbJ hnJ hnD hJ h0 nx0 h0J hd0
 simp only[jK]
 refine aF hL fun hd=>?_
 simp only[jL,jM,jA,jB,jN,jO,jP,jQ,V.undef]
 refine wle trivial ?_
 refine kM (fun p:Nat×Hp×Nat=>p.1≤l.length∧J p.1 p.2.1 p.2.2∧aX p.2.1 p.2.2) (fun p=>⟨aC 16 0 [(0, .yld yn),(5, .sl .leaf own (l.map e)),(6, .int .i64 l.length),(7, .int .i64 p.1)],p.2.1,p.2.2⟩) (fun p=>l.length-p.1) (0,h0,nx0) ⟨Nat.zero_le _,h0J,hd0⟩ ?_ ?_
 ·refine pH (by simp only[WkL,aC,jH,jI,jJ,go_sem,reduceIte,jA,jB,jC,jD,reduceCtorEq,jE,jF]) ?_ ?_
  ·exact Hp.le_refl _
  exact Nat.le_refl _
 rintro⟨i,h,nx⟩ ⟨hi,hj,hdm⟩
 simp only at hi hj hdm
 simp only[aC,go_sem,reduceIte,jA,jB,jC,jD,reduceCtorEq,jE,jF]
 refine wl ?_
 refine cA _ rfl (fun hc=>?_) (fun hc=>?_)
 ·have hlt:i<l.length:=by simpa using hc
  have hg:=aO e l i hlt
  repeat (first|with_reducible refine dR ?_|with_reducible refine cU ?_|with_reducible refine fC ?_|with_reducible refine bM ?_|with_reducible refine bI ?_|with_reducible refine dS ?_|(refine fE rfl (by simp only[jK,jG,hg,hfit,aL (hfit _),go_sem,reduceIte,jA,jB,jC,jD,reduceCtorEq,jE,jF];try omega) ?_;simp only[jK,jG,hg,hfit,aL (hfit _),go_sem,reduceIte,jA,jB,jC,jD,reduceCtorEq,jE,jF])|(with_reducible refine dN ?_))
  refine rB rfl ?_
  have hy:=(hJ i (by simpa using hlt) h nx hj hdm).dom
  simp only[List.getElem_map] at hy
  refine(hy.weaken ?_).mono ?_
  ·exact Hp.le_refl _
  rintro v h' nx' hnx ⟨hq,hdm',_⟩
  unfold dK
  rcases hq with⟨rfl,hj'⟩|⟨rfl,hD⟩
  ·simp only[go_sem,reduceIte,jA,jB,jC,jD,reduceCtorEq,jE,jF]
   refine wl ?_
   refine cA _ rfl (fun hc=>?_) (fun hc=>?_)
   ·cases hc
   refine wl ?_
   refine fL (i+1,h',nx') ⟨hlt,hj',hdm'⟩ (by simp only;omega) ?_
   rw[mY (by omega) (by omega)]
   refine pH (by simp only[WkL,aC,jH,jI,jJ,go_sem,reduceIte,jA,jB,jC,jD,reduceCtorEq,jE,jF]) ?_ ?_
   ·exact Hp.le_refl _
   exact Nat.le_refl _
  simp only[go_sem,reduceIte,jA,jB,jC,jD,reduceCtorEq,jE,jF]
  refine wl ?_
  refine cA _ rfl (fun hc=>?_) (fun hc=>?_)
  ·refine bN ?_
   repeat (first|with_reducible refine eY ?_|with_reducible refine eC ?_|with_reducible refine eS ?_|with_reducible refine dY ?_)
   exact⟨h',Hp.le_refl _, .inr hD⟩
  cases hc
 have hge:i=l.length:=by have:¬i<l.length:=by simpa using hc
                         omega
 subst hge
 refine kN ?_
 repeat (first|with_reducible refine iL ?_|with_reducible refine gW ?_|with_reducible refine dZ ?_|with_reducible refine cM (by decide) ?_|with_reducible refine eD ?_|with_reducible refine bM ?_)
 exact⟨h,Hp.le_refl _, .inl hj⟩
theorem sG{f bs:Nat}(hL:aH P f=some (LB.AppendSeqL bs))(hbs:bs≤140737)(g:Nat)(caps:List V)(hb:Hp)(xs:List α)(hit:wO P g caps hb (xs.map fun x=>[e x]))(hl:xs.length≤100000000)
 (h':Hp) (nx:Nat) (hh:hb.has h'):
 aP P f [.sl .leaf .nil [], .fn (.func g) [] caps] h' nx fun v h'' _=>(xs=[]∧v= .sl .leaf .nil []∧h''=h')∨(xs≠ []∧∃id,nx≤id∧v= .rs id .leaf 0 xs.length∧h''=h'.set id (.arr .leaf (xs.map e))):=by
 have hlf:∀x,(e x).leafy=true:=fun x=>by have:=hfit x;rwa [gA] at this
 refine aF hL fun hd=>?_
 simp only[jL,jM,jA,jB,jN,jO,jP,jQ,V.undef]
 refine wl ?_
 have hnone:∀n,nx≤n→h' n=none:=fun n hn=>aX.none hd hn
 obtain⟨I,hI⟩:∃I:Nat→Hp→Nat→Prop,∀i h nx1,I i h nx1↔(h'.le h∧∃acc,h nx=some (.arr .leaf [acc])∧((i=0∧acc= .sl .leaf .nil [])∨(0<i∧∃id,nx≤id∧id≠nx∧id≠nx+1∧acc= .rs id .leaf 0 i∧h id=some (.arr .leaf ((xs.take i).map e))))):=⟨_,fun _ _ _=>Iff.rfl⟩
 refine kK hit rfl (by simp) (aX.set hd (by simp) (by simp) _) I (fun _ _ _=>False) ?_ ?_ ?_ (fun _ _ _ _ h=>h.elim) (fun _ _ _ _ h=>h.elim) ?_ ?_ ?_ (fun _ _ _ h=>h.elim)
 ·intro i h nx1 hi
  exact lK hh (aCA ((hI _ _ _).1 hi).1)
 ·exact fun i h nx1 nx2 hi _=>(hI _ _ _).2 ((hI _ _ _).1 hi)
 ·intro i h nx1 b hi
  obtain⟨hle,acc,h1,h2⟩:=(hI _ _ _).1 hi
  refine(hI _ _ _).2 ⟨fT hle (hnone _ (by simp)) b,acc,?_,?_⟩
  ·simp only[Hp.set_app]
   rw[if_neg (by simp)];exact h1
  rcases h2 with h2|⟨hi,id,h3,h4,h5,h6,h7⟩
  ·exact .inl h2
  refine .inr ⟨hi,id,h3,h4,h5,h6,?_⟩
  simp only[Hp.set_app]
  rw[if_neg h5];exact h7
 ·exact(hI _ _ _).2 ⟨fT (Hp.le_refl _) (hnone _ (by simp)) _, .sl .leaf .nil [],by simp[Hp.set_app], .inl ⟨rfl,rfl⟩⟩
 ·intro i hi h nx1 X hii hnx hX hdm
  obtain⟨hle,acc,h1,h2⟩:=(hI _ _ _).1 hii
  simp only at hnx hX
  have hi':i<xs.length:=by simpa using hi
  have hnx0:nx<nx1:=by omega
  have e1:(nx=nx1)=False:=by simp;omega
  have e2:(nx+1=nx1)=False:=by simp;omega
  have e4:(nx1=nx+1)=False:=by simp;omega
  have e6:(nx1=nx)=False:=by simp;omega
  have e7:(nx=nx1)=False:=by simp;omega
  have e8:(nx+1=nx1)=False:=by simp;omega
  have e9:(nx=nx1+1)=False:=by simp;omega
  have e10:(nx+1=nx1+1)=False:=by simp;omega
  have hx:(xs.map fun x=>[e x])[i]=[e xs[i]]:=by simp
  simp only[putAll,hx,List.set_cons_succ,List.set_cons_zero]
  refine wle (ee4 hlf e1 e2 e4) ?_
  refine pR (by simp only[e1,e2,e4,go_sem,reduceIte,jA,jB,jC,jD,reduceCtorEq,jE,jF];exact hX) fun X'=>?_
  simp only[go_sem,reduceIte,jA,jB,jC,jD,reduceCtorEq,jE,jF]
  refine cU (dS ?_)
  have hone:∀(h'':Hp) (nx2 id:Nat),h'.le h''→nx1≤id→h'' nx=some (.arr .leaf [.rs id .leaf 0 (i+1)])→h'' (nx+1)=some X'→h'' id=some (.arr .leaf ((xs.take (i+1)).map e))→∀sl,cK 1 (oV (nx+1) X' (I (i+1)) (fun _ _ _=>False)) .normal ⟨sl,h'',nx2⟩:=by
   intro h'' nx2 id q1 q2 q3 q4 q5 sl
   exact bI (lZ q4 ((hI _ _ _).2 ⟨q1,_,q3, .inr ⟨by omega,id,by omega,by omega,by omega,rfl,q5⟩⟩))
  generalize hQ:cK 1 (oV (nx+1) X' (I (i+1)) (fun _ _ _=>False)) .normal=Qn at hone⊢
  have hle2:∀n b,nx1≤n→∀{h2:Hp},h'.le h2→h'.le (h2.set n b):=fun n b hn h2 q=>fT q (hnone n (by omega)) b
  have hle3:∀n,nx≤n→∀{h2:Hp},h'.le h2→∀b,h'.le (h2.set n b):=fun n hn h2 q b=>fT q (hnone n hn) b
  rcases h2 with⟨rfl,rfl⟩|⟨hpos,id,h3,h4,h5,rfl,h7⟩
  ·refine eI 3 rfl (by simp only[h1,hlf,e1,e2,e4,e6,go_sem,reduceIte,jA,jB,jC,jD,reduceCtorEq,jE,jF]) ?_
   simp only[h1,hlf,e1,e2,e4,e6,go_sem,reduceIte,jA,jB,jC,jD,reduceCtorEq,jE,jF]
   refine jS rfl rfl (by simp) (by simp only[jL,jM];omega) ?_
   refine fE rfl (by simp only[h1,hlf,e1,e2,e4,e6,e7,e8,e9,e10,go_sem,reduceIte,jA,jB,jC,jD,reduceCtorEq,jE,jF];try omega) ?_
   simp only[h1,hlf,e1,e2,e4,e6,e7,e8,e9,e10,go_sem,reduceIte,jA,jB,jC,jD,reduceCtorEq,jE,jF]
   refine hone _ _ (nx1+1) ?_ (by omega) ?_ ?_ ?_ _
   ·repeat (first|exact hle|refine hle3 _ (by omega) ?_ _)
   ·simp only[h1,e1,e2,e4,e6,e7,e8,e9,e10,go_sem,reduceIte,jA,jB,jC,jD,reduceCtorEq,jE,jF]
   ·simp only[h1,e1,e2,e4,e6,e7,e8,e9,e10,go_sem,reduceIte,jA,jB,jC,jD,reduceCtorEq,jE,jF]
   have:xs.take (0+1)=[xs[0]]:=by
    cases xs with
    |nil=>simp at hi'
    |cons x l=>simp
   rw[this]
   simp only[List.map_cons,List.map_nil,go_sem,reduceIte,jA,jB,jC,jD,reduceCtorEq,jE,jF]
   have:(nx1+1=nx)=False:=by simp;omega
   simp only[this,go_sem,reduceIte,jA,jB,jC,jD,reduceCtorEq,jE,jF]
  have hid:id<nx1:=hdm _ _ h7
  have f1:(id=nx1)=False:=by simp;omega
  have f2:(id=nx1)=False:=by simp;omega
  have f3:(id=nx)=False:=by simp;omega
  have f4:(id=nx+1)=False:=by simp;omega
  have f5:(id=nx1+1)=False:=by simp;omega
  have f6:(nx=id)=False:=by simp;omega
  have f7:(nx+1=id)=False:=by simp;omega
  have f8:(nx1+1=id)=False:=by simp;omega
  have hlen:((xs.take i).map e).length=i:=by simp;omega
  have hb1:(i+1)*bs≤140737488355328:=lQ (by omega) hbs
  refine fE rfl (by simp only[h1,h7,hlen,hb1,hlf,e1,e2,e4,e6,e7,e8,e9,e10,f1,f2,f3,f4,f5,f6,f7,f8,go_sem,reduceIte,jA,jB,jC,jD,reduceCtorEq,jE,jF];try omega) ?_
  simp only[h1,h7,hlen,hb1,hlf,e1,e2,e4,e6,e7,e8,e9,e10,f1,f2,f3,f4,f5,f6,f7,f8,go_sem,reduceIte,jA,jB,jC,jD,reduceCtorEq,jE,jF]
  refine hone _ _ (nx1+1) ?_ (by omega) ?_ ?_ ?_ _
  ·repeat (first|exact hle|refine hle3 _ (by omega) ?_ _|refine kP ?_ (hnone _ h3))
  ·simp only[h1,e1,e2,e4,e6,e7,e8,e9,e10,go_sem,reduceIte,jA,jB,jC,jD,reduceCtorEq,jE,jF]
  ·simp only[h1,e1,e2,e4,e6,e7,e8,e9,e10,f6,f7,go_sem,reduceIte,jA,jB,jC,jD,reduceCtorEq,jE,jF]
  have:(nx1+1=nx)=False:=by simp;omega
  rw[List.take_succ_eq_append_getElem hi',List.map_append]
  simp only[this,List.map_cons,List.map_nil,go_sem,reduceIte,jA,jB,jC,jD,reduceCtorEq,jE,jF]
 intro h nx1 hii hnx hdm
 obtain⟨hle,acc,h1,h2⟩:=(hI _ _ _).1 hii
 simp only at hnx
 have e1:(nx=nx+1)=False:=by simp
 refine wle (ee2 h1 e1) ?_
 rcases h2 with⟨h2,rfl⟩|⟨hpos,id,h3,h4,h5,rfl,h7⟩
 ·refine bN (aD h' ?_ (.inl ⟨?_,?_,rfl⟩))
  ·exact kP hle (hnone _ (by simp))
  ·cases xs with
   |nil=>rfl
   |cons x l=>simp at h2
  simp only[go_sem,reduceIte,jA,jB,jC,jD,reduceCtorEq,jE,jF]
 have hne:xs≠ []:=by rintro rfl;simp at hpos
 refine bN (aD (h'.set id (.arr .leaf (xs.map e))) ?_ (.inr ⟨hne,id,h3,?_,rfl⟩))
 ·refine tD (kP hle (hnone _ (by simp))) ?_
  simp only[Hp.del_app]
  rw[if_neg h5,h7]
  simp
 simp only[jK,go_sem,reduceIte,jA,jB,jC,jD,reduceCtorEq,jE,jF]
theorem wM{f f0 bs:Nat}(hL:aH P f=some (LB.Collect .leaf f0))(hL0:aH P f0=some (LB.AppendSeqL bs))(hbs:bs≤140737)(g:Nat)(caps:List V)(hb:Hp)(xs:List α)(hit:wO P g caps hb (xs.map fun x=>[e x]))(hl:xs.length≤100000000)
 (h':Hp) (nx:Nat) (hh:hb.has h'):
 aP P f [.fn (.func g) [] caps] h' nx fun v h'' _=>(xs=[]∧v= .sl .leaf .nil []∧h''=h')∨(xs≠ []∧∃id,nx≤id∧v= .rs id .leaf 0 xs.length∧h''=h'.set id (.arr .leaf (xs.map e))):=by
 refine aF hL fun hd=>?_
 simp only[jL,jM,jA,jB,jN,jO,jP,jQ,V.undef]
 refine wl ?_
 refine bD ((sG e hfit hL0 hbs g caps hb xs hit hl _ _ hh).mono ?_)
 intro v h'' nx' hnx hv
 unfold dK
 simp only[go_sem,reduceIte,jA,jB,jC,jD,reduceCtorEq,jE,jF]
 refine wl ?_
 exact bN (aD h'' (Hp.le_refl _) hv)
end
theorem oR{P:Program}{α:Type}(e:α→V){ρ:Ren}(L:SlLaysF.n6 P ρ)(hfit:∀x,(e x).fits .leaf=true)(hen:eJ P (ρ.f 6)=true)
 {f f0 f1 f2 bs:Nat} (hL:aH P f=some (LB.SortedFunc .leaf f0 f1)) (hL0:aH P f0=some (LB.Collect .leaf f2)) (hL2:aH P f2=some (LB.AppendSeqL bs)) (hbs:bs≤140737) (hf1:f1=ρ.f 6)
 (g:Nat) (caps:List V) (hb:Hp) (xs:List α) (hit:wO P g caps hb (xs.map fun x=>[e x])) (hl:xs.length≤100000000)
 (cf:α→α→Int) (hO:SWO (ltOf cf)) (gc:Nat) (capc:List V) (hcmp:∀x y,bH P gc ([e x,e y]++capc) Hp.none (.int .i64 (cf x y))) (h':Hp) (nx:Nat) (hh:hb.has h'):
 aP P f [.fn (.func g) [] caps, .fn (.func gc) [] capc] h' nx fun v h'' _=>∃es,(∃ys:List α,ys.Perm xs∧eE cf ys∧es=ys.map e)∧wP nx h' .leaf es v h'':=by
 refine aF hL fun hd=>?_
 simp only[jL,jM,jA,jB,jN,jO,jP,jQ,V.undef]
 refine wl ?_
 refine bD ((wM e hfit hL0 hL2 hbs g caps hb xs hit hl _ _ hh).mono ?_)
 intro v h'' nx' hnx hv
 unfold dK
 rcases hv with⟨rfl,rfl,rfl⟩|⟨hne,id,hid,rfl,rfl⟩
 ·simp only[go_sem,reduceIte,jA,jB,jC,jD,reduceCtorEq,jE,jF]
  refine wl ?_
  refine bD ?_
  subst hf1
  refine(lX {L with} hen .leaf _ _ _).mono ?_
  rintro v h'' nx'' _ ⟨rfl,rfl⟩
  unfold dK
  simp only[go_sem,reduceIte,jA,jB,jC,jD,reduceCtorEq,jE,jF]
  refine wl ?_
  exact bN (aD h'' (Hp.le_refl _) ⟨[],⟨[],List.Perm.refl _,List.Pairwise.nil,rfl⟩, .inl ⟨rfl,rfl,rfl⟩⟩)
 simp only[go_sem,reduceIte,jA,jB,jC,jD,reduceCtorEq,jE,jF]
 refine wl ?_
 refine bD ?_
 subst hf1
 refine(yZ L hen e hfit cf hO gc capc hcmp id xs hne _ _ (by simp[Hp.set]) (by omega)).mono ?_
 rintro v h'' nx'' _ ⟨rfl,rfl,ys,hp,hs,rfl⟩
 unfold dK
 simp only[go_sem,reduceIte,jA,jB,jC,jD,reduceCtorEq,jE,jF]
 refine wl ?_
 have hlen:ys.length=xs.length:=hp.length_eq
 refine bN (aD _ (Hp.le_refl _) ⟨ys.map e,⟨ys,hp,hs,rfl⟩, .inr ⟨?_,id,hid,?_,?_⟩⟩)
 ·intro hys
  have:ys=[]:=by simpa using hys
  subst this
  exact hne (List.length_eq_zero_iff.1 (by simpa using hlen.symm))
 ·simp only[jK,hlen,go_sem,reduceIte,jA,jB,jC,jD,reduceCtorEq,jE,jF]
 funext m;simp only[Hp.set_app];split<;>rfl
end Go.Proofs.YtemjhgboialjpaaGreat
