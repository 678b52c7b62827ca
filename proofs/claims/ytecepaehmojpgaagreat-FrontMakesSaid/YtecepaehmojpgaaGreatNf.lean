/-
Texts of this proof,one behind the other. No conditions.
-/
import Derived.Test.YtecepaehmojpgaaGreatNLow
import Derived.Test.YtecepaehmojpgaaGreatNe
import Derived.Test.YtecepaehmojpgaaGreatNd
open Go.Proofs.YtecepaehmojpgaaGreat.Hp renaming le_refl→Ka,same→Kc
open Go.Proofs.YtecepaehmojpgaaGreat.V renaming undef→Kb,names→Kd,fits→Kg
open List renaming take_succ_eq_append_getElem→Ke,getD_eq_getElem?_getD→Kf,getElem_mem→Kh,take_length→Ki,getElem?_eq_getElem→Kj,map_cons→Kk,map_append→Km,length_filter_le→Kp,range→Kq,append_nil→Ks,findIdx?_eq_some_iff_getElem→Ku,range_succ→Kw,map_nil→Kx,filter_append→Kz,findIdx?_eq_none_iff→KB,getElem?_eq_some_iff→KC,filter_nil→KE,length_set→KF,replicate→KG,map_congr_left→KH,filterMap_cons→KI,map_replicate→KK,map_map→KL,sum_nil→KM,map_set→KN,any_eq_true→KO,filter_cons→KQ,mem_append→KR,sum_append→KS,take_zero→KT,sum_cons→KU,mem_map→KV,map_id→KW
open Nat renaming zero_le→Ko,lt_or_ge→Kt,le_trans→Ky,le_refl→KP
open Bool renaming and_eq_true→Kv,eq_iff_iff→KD,false_eq_true→KJ
open Nat renaming reduceAdd→jA,reduceSub→jB,reduceLT→jC,reduceLeDiff→jD,reduceEqDiff→jE
open Int renaming reduceToNat→jF,toNat_natCast→jG,natCast_add→jH,natCast_one→jI,natCast_zero→jJ
open List renaming length_map→jK,length_cons→jL,length_nil→jM,replicate_succ→jN,replicate_zero→jO,cons_append→jP,nil_append→jQ
set_option linter.unusedSimpArgs false
set_option linter.unusedVariables false
set_option linter.unusedSectionVars false
set_option maxHeartbeats 8000000
namespace Go.Proofs.YtecepaehmojpgaaGreat
open Go.RowKit
attribute [local go_sem] qE jV aA.ok aA.next LOp.ok LOp.next bL.ok bL.out aO.ev bN kv lZ kZ sC Kg V.aAD V.cells V.cell Kb cR bV bU Sh.size Hp.set Hp.del oU iN pT dZ aA.dok aA.aDx LOp.dok LOp.aFr nm fi kG cU zS Hp.aBO veq iP iQ List.take_succ_cons KT List.take_nil List.drop_succ_cons List.drop_zero List.drop_nil List.set_cons_succ List.set_cons_zero List.getD_cons_succ List.getD_cons_zero jL jM Kk Kx List.all_cons List.all_nil List.mem_cons List.not_mem_nil jN jO jP jQ Ks List.isEmpty_cons List.isEmpty_nil fW fE tI Option.getD_some Option.isSome_some Option.isSome_none Nat.add_eq Nat.zero_add Nat.add_zero true_and and_true and_self true_implies implies_true false_implies forall_const forall_eq forall_eq_or_imp ne_eq not_false_eq_true not_true_eq_false Bool.not_true Bool.not_false decide_true decide_false Bool.and_true Bool.true_and Bool.and_false Bool.false_and true_or or_true false_or or_false eq_self KJ CD yk mF aB eA fB iC rM oO rL iZ kP eJ jG Int.toNat_zero Ki
structure Tm where
 e:Int
 r:Int
 deriving DecidableEq,Inhabited
def Tm.v(t:Tm):V:= .agg [.int .i64 t.e, .int .i64 t.r]
theorem Tm.aAM(L:Nat→Prop)(t:Tm):t.v.names L:=by simp[Tm.v,Kd,bP]
def Tm.le(a b:Tm):Bool:=decide (a.e≤b.e)&&decide (a.r≤b.r)
def Tm.ok(t:Tm):Bool:=decide (0≤t.e)&&decide (t.e≤1048576)&&(decide (0≤t.r)&&decide (t.r≤1048576))
def Tm.less(a b:Tm):Bool:=decide (a.e<b.e)||(decide (a.e=b.e)&&decide (a.r<b.r))
theorem qN(n m:Int)(h:Hp):aX Tryz.prog 104 [.int .i64 n, .int .i64 m] h (.bool (decide (0≤n)&&decide (n≤m))):=by
 refine aP (fun L=>trivial) fun h' nx hh=>aD L.aU6 fun hd=>?_;simp only[jL,jM,jA,jB,jN,jO,jP,jQ,Kb];by_cases h0:0≤n
 all_goals
  refine bH (bM ?_);refine aZ 1 rfl (by simp only[L.aEw,go_sem,reduceIte,jA,jB,jC,jD,reduceCtorEq,jE,jF];try omega) ?_;simp only[L.aEw,go_sem,reduceIte,jA,jB,jC,jD,reduceCtorEq,jE,jF];refine aM (bH (bM ?_));refine aZ 8 rfl (by simp only[L.aEv,h0,go_sem,reduceIte,jA,jB,jC,jD,reduceCtorEq,jE,jF];try omega) ?_;simp only[L.aEv,h0,go_sem,reduceIte,jA,jB,jC,jD,reduceCtorEq,jE,jF];exact aM (bT ⟨h',Ka _,rfl,rfl⟩)
theorem zQ(a b:Tm)(h:Hp):aX Tryz.prog 84 [a.v,b.v] h (.bool (a.le b)):=by
 refine aP (fun L=>trivial) fun h' nx hh=>aD L.aVT fun hd=>?_;simp only[jL,jM,jA,jB,jN,jO,jP,jQ,Kb];by_cases h0:a.e≤b.e
 all_goals
  refine bH (bM ?_);refine aZ 3 rfl (by simp only[L.aE2,Tm.v,go_sem,reduceIte,jA,jB,jC,jD,reduceCtorEq,jE,jF];try omega) ?_;simp only[L.aE2,Tm.v,go_sem,reduceIte,jA,jB,jC,jD,reduceCtorEq,jE,jF];refine aM (bH (bM ?_));refine aZ 13 rfl (by simp only[L.aE1,Tm.v,h0,go_sem,reduceIte,jA,jB,jC,jD,reduceCtorEq,jE,jF];try omega) ?_;simp only[L.aE1,Tm.v,h0,go_sem,reduceIte,jA,jB,jC,jD,reduceCtorEq,jE,jF];refine aM (bT ⟨h',aH hd (aH hd (Ka _) or _) or _,?_,rfl⟩);simp[Tm.le,h0,mF]
theorem vT(a b:Tm)(h:Hp):aX Tryz.prog 86 [a.v,b.v] h (.bool (a.le b)):=by
 refine aP (fun L=>trivial) fun h' nx hh=>aD L.aVS fun hd=>?_;simp only[jL,jM,jA,jB,jN,jO,jP,jQ,Kb];by_cases h0:b.e<a.e
 all_goals
  refine bH (bM ?_);refine aZ 3 rfl (by simp only[L.aE0,Tm.v,go_sem,reduceIte,jA,jB,jC,jD,reduceCtorEq,jE,jF];try omega) ?_;simp only[L.aE0,Tm.v,go_sem,reduceIte,jA,jB,jC,jD,reduceCtorEq,jE,jF];refine aM (bH (bM ?_));refine aZ 15 rfl (by simp only[L.aEz,Tm.v,h0,go_sem,reduceIte,jA,jB,jC,jD,reduceCtorEq,jE,jF];try omega) ?_;simp only[L.aEz,Tm.v,h0,go_sem,reduceIte,jA,jB,jC,jD,reduceCtorEq,jE,jF];refine aM (bT ⟨h',aH hd (aH hd (Ka _) or _) or _,?_,rfl⟩);simp[Tm.le,h0,mF];try (rw[KD];simp)
  try omega
theorem pC(t:Tm)(h:Hp):aX Tryz.prog 66 [t.v] h (.bool t.ok):=by
 refine aP (fun L=>trivial) fun h' nx hh=>aD L.aVn fun hd=>?_;simp only[jL,jM,jA,jB,jN,jO,jP,jQ,Kb];refine bH (bM ?_);refine aZ 2 rfl (by simp only[L.aE8,Tm.v,go_sem,reduceIte,jA,jB,jC,jD,reduceCtorEq,jE,jF];try omega) ?_;simp only[L.aE8,Tm.v,go_sem,reduceIte,jA,jB,jC,jD,reduceCtorEq,jE,jF];refine aM (bH (bM ?_));refine aZ 2 rfl (by simp only[L.aBA,Tm.v,go_sem,reduceIte,jA,jB,jC,jD,reduceCtorEq,jE,jF];try omega) ?_;simp only[L.aBA,Tm.v,go_sem,reduceIte,jA,jB,jC,jD,reduceCtorEq,jE,jF];refine aQ (qN _ _ _) rfl (aU _) ?_;refine Zn ?_;generalize h0:(decide (0≤t.e)&&decide (t.e≤1048576))=c;cases c
 ·refine aZ 3 rfl (by simp only[L.aBA,go_sem,reduceIte,jA,jB,jC,jD,reduceCtorEq,jE,jF];try omega) ?_;simp only[L.aBA,go_sem,reduceIte,jA,jB,jC,jD,reduceCtorEq,jE,jF];refine tW rfl (fun h=>by cases h) (fun _=>?_);refine aZ 2 rfl (by simp only[L.aBA,go_sem,reduceIte,jA,jB,jC,jD,reduceCtorEq,jE,jF];try omega) ?_;simp only[L.aBA,go_sem,reduceIte,jA,jB,jC,jD,reduceCtorEq,jE,jF];refine aM (bT (aG h' (aH hd (Ka _) or _) ⟨?_,rfl⟩));simp[Tm.ok,h0]
 refine aZ 3 rfl (by simp only[L.aBA,go_sem,reduceIte,jA,jB,jC,jD,reduceCtorEq,jE,jF];try omega) ?_;simp only[L.aBA,go_sem,reduceIte,jA,jB,jC,jD,reduceCtorEq,jE,jF];refine tW rfl (fun _=>?_) (fun h=>absurd rfl h);refine aQ (qN _ _ _) rfl (aU _) ?_;refine Zn ?_;refine aZ 2 rfl (by simp only[L.aBA,go_sem,reduceIte,jA,jB,jC,jD,reduceCtorEq,jE,jF];try omega) ?_;simp only[L.aBA,go_sem,reduceIte,jA,jB,jC,jD,reduceCtorEq,jE,jF];refine aM (bT (aG h' (aH hd (Ka _) or _) ⟨?_,rfl⟩));simp[Tm.ok,h0]
theorem u6(t:Tm)(h:Hp):aX Tryz.prog 56 [t.v] h t.v:=by
 refine aP (fun L=>t.aAM L) fun h' nx hh=>aD L.aVr fun hd=>?_;simp only[jL,jM,jA,jB,jN,jO,jP,jQ,Kb];refine bH (bM ?_);refine aZ 2 rfl (by simp only[L.aFB,Tm.v,go_sem,reduceIte,jA,jB,jC,jD,reduceCtorEq,jE,jF];try omega) ?_;simp only[L.aFB,Tm.v,go_sem,reduceIte,jA,jB,jC,jD,reduceCtorEq,jE,jF];refine aM (bH (bM ?_));refine aZ 2 rfl (by simp only[L.aFA,Tm.v,go_sem,reduceIte,jA,jB,jC,jD,reduceCtorEq,jE,jF];try omega) ?_;simp only[L.aFA,Tm.v,go_sem,reduceIte,jA,jB,jC,jD,reduceCtorEq,jE,jF];refine aM (bT (vS (by simp only[go_sem,reduceIte,jA,jB,jC,jD,reduceCtorEq,jE,jF]) h' (aH hd (aH hd (aH hd (Ka _) or _) or _) or _) ⟨?_,rfl⟩));simp only[Tm.v,go_sem,reduceIte,jA,jB,jC,jD,reduceCtorEq,jE,jF]
abbrev tms(own:Own)(l:List Tm):V:= .sl (.agg 2) own (l.map Tm.v)
theorem si{α:Type} [Inhabited α](f:α→V)(l:List α)(k:Nat)(h:k<l.length):(l.map f).getD k (.tup [])=f l[k]:=by
 rw[Kf,Kj (by simpa using h)];simp
theorem gq(own:Own)(l:List Tm)(t:Tm)(h:Hp)(hl:l.length≤1000000):aX Tryz.prog 54 [tms own l,t.v] h (.bool (l.any fun x=>x.le t)):=by
 refine aP (fun L=>trivial) fun h' nx hh=>aD L.aVt fun hd=>?_;simp only[jL,jM,jA,jB,jN,jO,jP,jQ,Kb];refine bH (bM ?_);refine aZ 2 rfl (by simp only[L.aFI,Tm.v,go_sem,reduceIte,jA,jB,jC,jD,reduceCtorEq,jE,jF];try omega) ?_;simp only[L.aFI,Tm.v,go_sem,reduceIte,jA,jB,jC,jD,reduceCtorEq,jE,jF];refine aM (bH (bH (bM ?_)));refine aZ 1 rfl (by simp only[L.aFH,go_sem,reduceIte,jA,jB,jC,jD,reduceCtorEq,jE,jF];try omega) ?_;simp only[L.aFH,go_sem,reduceIte,jA,jB,jC,jD,reduceCtorEq,jE,jF];refine aM (dN (mP (fun k:Nat=>k≤l.length∧(l.take k).any (fun x=>x.le t)=false) (fun k=>⟨aB 18 0 [(0,tms own l),(3, .ptr nx (.agg 2) 0 0),(5, .int .i64 k)],h'.set nx (.arr (.agg 2) [t.v]),nx+1+6*k⟩) (fun k=>l.length-k) 0 ⟨Ko _,Zm⟩ ?_ ?_))
 ·refine kI (by simp only[WkL,aB,jH,jI,jJ,Tm.v,tms,go_sem,reduceIte,jA,jB,jC,jD,reduceCtorEq,jE,jF]) ?_ ?_
  ·exact Ka _
  omega
 rintro k ⟨hk,hno⟩;simp only[aB,go_sem,reduceIte,jA,jB,jC,jD,reduceCtorEq,jE,jF];refine bH (bH (bM ?_));refine aZ 4 rfl (by simp only[L.aFG,tms,jK,go_sem,reduceIte,jA,jB,jC,jD,reduceCtorEq,jE,jF];try omega) ?_;simp only[L.aFG,tms,jK,go_sem,reduceIte,jA,jB,jC,jD,reduceCtorEq,jE,jF];refine aM (cH _ rfl (fun hc=>?_) (fun hc=>?_))
 ·have hlt:k<l.length:=by simpa using hc
  refine eG (aM (bH (dN (bH (dJ rfl ?_)))));have hg:=si Tm.v l k hlt;refine AF 5 (by simp only[L.aFF,tms,jK,jG,hg,Tm.v,go_sem,reduceIte,jA,jB,jC,jD,reduceCtorEq,jE,jF];try omega) ?_;simp only[L.aFF,tms,jK,jG,hg,Tm.v,go_sem,reduceIte,jA,jB,jC,jD,reduceCtorEq,jE,jF];refine bJ (vT l[k] t _) rfl (aU _) ?_;refine Zn ?_;refine cD (cQ ?_);refine Zn ?_;refine aM (cH _ rfl (fun hc=>?_) (fun hc=>?_))
  ·refine bH (bM ?_);refine aZ 1 rfl (by simp only[L.aFE,go_sem,reduceIte,jA,jB,jC,jD,reduceCtorEq,jE,jF];try omega) ?_;simp only[L.aFE,go_sem,reduceIte,jA,jB,jC,jD,reduceCtorEq,jE,jF];refine aM ?_;refine bT ?_;repeat (first|refine gV ?_|refine eS ?_|refine fG ?_)
   refine aG h' (aH hd (Ka _) or _) ⟨?_,rfl⟩;refine Zn ?_;congr 1;exact(KO.2 ⟨l[k],Kh _,hc⟩).symm
  refine eG (cC (aM (bM ?_)));refine aZ 3 rfl (by simp only[L.aFD,go_sem,reduceIte,jA,jB,jC,jD,reduceCtorEq,jE,jF];try omega) ?_;simp only[L.aFD,go_sem,reduceIte,jA,jB,jC,jD,reduceCtorEq,jE,jF];refine gM (k+1) ⟨or,?_⟩ or ?_
  ·rw[Ke hlt,List.any_append,hno];simp[hc]
  rw[aY or or];refine kI (by simp only[WkL,aB,jH,jI,jJ,Tm.v,tms,go_sem,reduceIte,jA,jB,jC,jD,reduceCtorEq,jE,jF]) ?_ ?_
  ·exact Ka _
  omega
 have hge:k=l.length:=by have:¬k<l.length:=by simpa using hc
                         omega
 refine fT ?_;repeat (first|refine eC ?_|refine dM ?_|refine bG ZM ?_)
 refine cZ ?_;refine aM (bH (bM ?_));refine aZ 1 rfl (by simp only[L.aFC,go_sem,reduceIte,jA,jB,jC,jD,reduceCtorEq,jE,jF];try omega) ?_;simp only[L.aFC,go_sem,reduceIte,jA,jB,jC,jD,reduceCtorEq,jE,jF];refine aM (bT (aG h' (aH hd (Ka _) or _) ⟨?_,rfl⟩));refine Zn ?_;rw[hge,Ki] at hno;rw[hno]
theorem lF(t:Tm)(h:Hp):aX Tryz.prog 53 [t.v] h (.bool t.ok):=by
 refine aP (fun L=>trivial) fun h' nx hh=>aD L.aVu fun hd=>?_;simp only[jL,jM,jA,jB,jN,jO,jP,jQ,Kb];by_cases h0:0≤t.e<;>by_cases h1:0≤t.r<;>by_cases h2:t.e≤1048576
 all_goals
  refine bH (bM ?_);refine aZ 2 rfl (by simp only[L.aFK,Tm.v,go_sem,reduceIte,jA,jB,jC,jD,reduceCtorEq,jE,jF];try omega) ?_;simp only[L.aFK,Tm.v,go_sem,reduceIte,jA,jB,jC,jD,reduceCtorEq,jE,jF];refine aM (bH (bM ?_));refine aZ 19 rfl (by simp only[L.aFJ,Tm.v,h0,h1,h2,go_sem,reduceIte,jA,jB,jC,jD,reduceCtorEq,jE,jF];try omega) ?_;simp only[L.aFJ,Tm.v,h0,h1,h2,go_sem,reduceIte,jA,jB,jC,jD,reduceCtorEq,jE,jF];refine aM (bT (aG h' (aH hd (Ka _) or _) ⟨?_,rfl⟩));simp[Tm.ok,h0,h1,h2]
theorem bq(a b:Tm)(h:Hp):aX Tryz.prog 120 [a.v,b.v] h (.bool (a.less b)):=by
 refine aP (fun L=>trivial) fun h' nx hh=>aD L.aUl fun hd=>?_;simp only[jL,jM,jA,jB,jN,jO,jP,jQ,Kb];by_cases h0:a.e<b.e
 ·refine bH (bM ?_);refine aZ 3 rfl (by simp only[L.aBi,Tm.v,go_sem,reduceIte,jA,jB,jC,jD,reduceCtorEq,jE,jF];try omega) ?_;simp only[L.aBi,Tm.v,go_sem,reduceIte,jA,jB,jC,jD,reduceCtorEq,jE,jF];refine aM (bH (bM ?_));refine aZ 20 rfl (by simp only[L.aBh,Tm.v,h0,go_sem,reduceIte,jA,jB,jC,jD,reduceCtorEq,jE,jF];try omega) ?_;simp only[L.aBh,Tm.v,h0,go_sem,reduceIte,jA,jB,jC,jD,reduceCtorEq,jE,jF];refine aM (bT (aG h' (aH hd (aH hd (Ka _) or _) or _) ⟨?_,rfl⟩));simp[Tm.less,h0]
 by_cases h1:a.e=b.e
 ·refine bH (bM ?_);refine aZ 3 rfl (by simp only[L.aBi,Tm.v,go_sem,reduceIte,jA,jB,jC,jD,reduceCtorEq,jE,jF];try omega) ?_;simp only[L.aBi,Tm.v,go_sem,reduceIte,jA,jB,jC,jD,reduceCtorEq,jE,jF];refine aM (bH (bM ?_));have hb:(a.e==b.e)=true:=by simp[h1]
  refine aZ 20 rfl (by simp only[L.aBh,Tm.v,h0,hb,go_sem,reduceIte,jA,jB,jC,jD,reduceCtorEq,jE,jF];try omega) ?_;simp only[L.aBh,Tm.v,h0,hb,go_sem,reduceIte,jA,jB,jC,jD,reduceCtorEq,jE,jF];refine aM (bT (aG h' (aH hd (aH hd (Ka _) or _) or _) ⟨?_,rfl⟩));simp[Tm.less,h0,h1]
 refine bH (bM ?_);refine aZ 3 rfl (by simp only[L.aBi,Tm.v,go_sem,reduceIte,jA,jB,jC,jD,reduceCtorEq,jE,jF];try omega) ?_;simp only[L.aBi,Tm.v,go_sem,reduceIte,jA,jB,jC,jD,reduceCtorEq,jE,jF];refine aM (bH (bM ?_));have hb:(a.e==b.e)=false:=by simp[h1]
 refine aZ 20 rfl (by simp only[L.aBh,Tm.v,h0,hb,go_sem,reduceIte,jA,jB,jC,jD,reduceCtorEq,jE,jF];try omega) ?_;simp only[L.aBh,Tm.v,h0,hb,go_sem,reduceIte,jA,jB,jC,jD,reduceCtorEq,jE,jF];refine aM (bT (aG h' (aH hd (aH hd (Ka _) or _) or _) ⟨?_,rfl⟩));simp[Tm.less,h0,h1]
def sf(p:Tm→Bool)(l:List Tm):Int:=match l.findIdx? p with
 |some i=>i
 |none=>-1
theorem di(p:Tm→Bool)(own:Own)(l:List Tm)(g:Nat)(aAg:List V)(h:Hp)(hp:∀x:Tm,aX Tryz.prog g ([x.v]++aAg) h (.bool (p x)))(hl:l.length≤1000000):
 aX Tryz.prog 111 [tms own l, .fn (.func g) [] aAg] h (.int .i64 (sf p l)):=by
 refine aP (fun L=>trivial) fun h' nx hh=>aD L.aU3 fun hd=>?_;simp only[jL,jM,jA,jB,jN,jO,jP,jQ,Kb];refine bH (bM ?_);refine aZ 1 rfl (by simp only[L.aEu,go_sem,reduceIte,jA,jB,jC,jD,reduceCtorEq,jE,jF];try omega) ?_;simp only[L.aEu,go_sem,reduceIte,jA,jB,jC,jD,reduceCtorEq,jE,jF];refine aM (bH (bH (bM ?_)));refine aZ 3 rfl (by simp only[L.aEt,tms,jK,go_sem,reduceIte,jA,jB,jC,jD,reduceCtorEq,jE,jF];try omega) ?_;simp only[L.aEt,tms,jK,go_sem,reduceIte,jA,jB,jC,jD,reduceCtorEq,jE,jF];refine aM (dN (mP (fun k:Nat=>k≤l.length∧∀x∈l.take k,p x=false) (fun k=>⟨aB 19 0 [(0,tms own l),(1, .fn (.func g) [] aAg),(7, .int .i64 l.length),(8, .int .i64 k)],h',nx⟩) (fun k=>l.length-k) 0 ⟨Ko _,Zm⟩ ?_ ?_))
 ·refine kI (by simp only[WkL,aB,jH,jI,jJ,Tm.v,tms,go_sem,reduceIte,jA,jB,jC,jD,reduceCtorEq,jE,jF]) ?_ ?_
  ·exact Ka _
  omega
 rintro k ⟨hk,hno⟩;simp only[aB,go_sem,reduceIte,jA,jB,jC,jD,reduceCtorEq,jE,jF];refine bH (bM ?_);refine aZ 1 rfl (by simp only[L.aEs,go_sem,reduceIte,jA,jB,jC,jD,reduceCtorEq,jE,jF];try omega) ?_;simp only[L.aEs,go_sem,reduceIte,jA,jB,jC,jD,reduceCtorEq,jE,jF];refine aM (bH (cH _ rfl (fun hc=>?_) (fun hc=>?_)))
 ·have hlt:k<l.length:=by simpa using hc
  have hg:=si Tm.v l k hlt;refine eG (aM (bH (dN (bH (bM ?_)))));refine aZ 2 rfl (by simp only[L.aEr,go_sem,reduceIte,jA,jB,jC,jD,reduceCtorEq,jE,jF];try omega) ?_;simp only[L.aEr,go_sem,reduceIte,jA,jB,jC,jD,reduceCtorEq,jE,jF];refine aM (bH (bM ?_));refine aZ 5 rfl (by simp only[L.aEq,tms,jK,jG,hg,Tm.v,go_sem,reduceIte,jA,jB,jC,jD,reduceCtorEq,jE,jF];try omega) ?_;simp only[L.aEq,tms,jK,jG,hg,Tm.v,go_sem,reduceIte,jA,jB,jC,jD,reduceCtorEq,jE,jF];refine pL rfl (hp l[k]) (by simp only[Tm.v,go_sem,reduceIte,jA,jB,jC,jD,reduceCtorEq,jE,jF]) (by assumption) ?_;refine Zn ?_;refine aM (cH _ rfl (fun hc=>?_) (fun hc=>?_))
  ·refine bH (bM ?_);refine aZ 2 rfl (by simp only[L.aEp,go_sem,reduceIte,jA,jB,jC,jD,reduceCtorEq,jE,jF];try omega) ?_;simp only[L.aEp,go_sem,reduceIte,jA,jB,jC,jD,reduceCtorEq,jE,jF];refine aM ?_;refine bT ?_;repeat (first|refine gV ?_|refine eS ?_|refine fG ?_)
   refine aG h' (Ka _) ⟨?_,rfl⟩;refine Zn ?_;have:l.findIdx? p=some k:=by
    rw[Ku];refine⟨hlt,hc,fun j hj=>?_⟩;have:=hno l[j] (List.mem_take_iff_getElem.2 ⟨j,or,rfl⟩);simp[this]
   simp only[sf,this]
  refine eG (cC (aM (bM ?_)));refine aZ 2 rfl (by simp only[L.aEo,go_sem,reduceIte,jA,jB,jC,jD,reduceCtorEq,jE,jF];try omega) ?_;simp only[L.aEo,go_sem,reduceIte,jA,jB,jC,jD,reduceCtorEq,jE,jF];refine gM (k+1) ⟨or,?_⟩ or ?_
  ·intro x hx;rw[Ke hlt,KR,List.mem_singleton] at hx;rcases hx with hx|rfl
   ·exact hno x hx
   exact hc
  rw[aY or or];refine kI (by simp only[WkL,aB,jH,jI,jJ,Tm.v,tms,go_sem,reduceIte,jA,jB,jC,jD,reduceCtorEq,jE,jF]) ?_ ?_
  ·exact Ka _
  omega
 have hge:k=l.length:=by have:¬k<l.length:=by simpa using hc
                         omega
 refine fT ?_;repeat (first|refine eC ?_|refine dM ?_|refine bG ZM ?_)
 refine cZ ?_;refine aM (bH (bM ?_));refine aZ 1 rfl (by simp only[L.aEn,go_sem,reduceIte,jA,jB,jC,jD,reduceCtorEq,jE,jF];try omega) ?_;simp only[L.aEn,go_sem,reduceIte,jA,jB,jC,jD,reduceCtorEq,jE,jF];refine aM (bT (aG h' (Ka _) ⟨?_,rfl⟩));refine Zn ?_;rw[hge,Ki] at hno;have:l.findIdx? p=none:=by
  rw[KB];exact fun x hx=>hno x hx
 simp only[sf,this]
theorem Ar(p:Tm→Bool)(l:List Tm):decide (0≤sf p l)=l.any p:=by
 unfold sf;cases hf:l.findIdx? p with
 |none=>
  rw[KB] at hf;have:l.any p=false:=by
   rw[List.any_eq_false];intro x hx;simp[hf x hx]
  simp[this]
 |some i=>
  rw[Ku] at hf;obtain⟨h1,h2,_⟩:=hf;have:l.any p=true:=KO.2 ⟨l[i],Kh _,h2⟩;simp[this]
theorem wY(p:Tm→Bool)(own:Own)(l:List Tm)(g:Nat)(aAg:List V)(h:Hp)(hp:∀x:Tm,aX Tryz.prog g ([x.v]++aAg) h (.bool (p x)))(hl:l.length≤1000000):
 aX Tryz.prog 76 [tms own l, .fn (.func g) [] aAg] h (.bool (l.any p)):=by
 refine aP (fun L=>trivial) fun h' nx hh=>aD L.aVa fun hd=>?_;simp only[jL,jM,jA,jB,jN,jO,jP,jQ,Kb];refine bH (bM ?_);refine aZ 1 rfl (by simp only[L.aE6,go_sem,reduceIte,jA,jB,jC,jD,reduceCtorEq,jE,jF];try omega) ?_;simp only[L.aE6,go_sem,reduceIte,jA,jB,jC,jD,reduceCtorEq,jE,jF];refine aM (bH (bM ?_));refine aZ 2 rfl (by simp only[L.aCi,go_sem,reduceIte,jA,jB,jC,jD,reduceCtorEq,jE,jF];try omega) ?_;simp only[L.aCi,go_sem,reduceIte,jA,jB,jC,jD,reduceCtorEq,jE,jF];refine aQ (di p own l g aAg h hp hl) rfl (by assumption) ?_;refine Zn ?_;refine aZ 2 rfl (by simp only[L.aCi,go_sem,reduceIte,jA,jB,jC,jD,reduceCtorEq,jE,jF];try omega) ?_;simp only[L.aCi,go_sem,reduceIte,jA,jB,jC,jD,reduceCtorEq,jE,jF];refine aM (bT (aG h' (Ka _) ⟨?_,rfl⟩));refine Zn ?_;rw[←Ar]
end Go.Proofs.YtecepaehmojpgaaGreat
namespace Go.Proofs.YtecepaehmojpgaaGreat
open Go.RowKit
theorem pK:aJ Tryz.prog 125=some (LB.aHH 148):=Zz
theorem af:aJ Tryz.prog 148=some LB.aFZ:=Zz
theorem xZ:aJ Tryz.prog 124=some LB.aMo:=Zz
end Go.Proofs.YtecepaehmojpgaaGreat
namespace Go.Proofs.YtecepaehmojpgaaGreat
open Go.RowKit
attribute [local irreducible] IntKind.wrap
def Pa.v(p:Pa):V:= .agg [.bool p.n, .int .i64 p.a]
theorem Pa.aAM(L:Nat→Prop)(p:Pa):p.v.names L:=by simp[Pa.v,Kd,bP]
theorem Pa.aAC(p:Pa):p.v.fits (.agg 2)=true:=by simp[Pa.v,Kg,V.aAD]
def Pa.of(p:Pa)(t:Tm):Tm×Int:=
 if (!p.ok|| !t.ok)=true then (⟨0,0⟩,2)
 else if Tm.ok ⟨t.e,if p.n=true then p.a else p.a+t.r⟩=false then (⟨0,0⟩,1) else (⟨t.e,if p.n=true then p.a else p.a+t.r⟩,0)
def Pa.rof(p:Pa)(t:Tm):Tm×Int:=
 if (!p.ok|| !t.ok)=true then (⟨0,0⟩,2)
 else if 1048576<(if p.n=true then 0 else t.r)+p.a then (⟨0,0⟩,1) else (⟨t.e,(if p.n=true then 0 else t.r)+p.a⟩,0)
theorem Pa.aI8(p:Pa)(t:Tm):p.rof t=p.of t:=by
 unfold Pa.rof Pa.of
 split
 ·rfl
 rename_i h;simp only[Bool.or_eq_true,Bool.not_eq_true',not_or,Bool.not_eq_false] at h;obtain⟨h1,h2⟩:=h;obtain⟨n,a⟩:=p;obtain⟨e,r⟩:=t;cases n<;>simp[Pa.ok,Tm.ok] at h1 h2⊢
 ·have e1:r+a=a+r:=or;rw[e1];split<;>split<;>first|rfl|(exfalso;omega)
 split<;>split<;>first|rfl|(exfalso;omega)
def eF(n:Int):V:=if n=0 then .nilIface else .iface 64 (.int .i64 n)
theorem Dx:eF 0= .nilIface:=rfl
theorem mI(p:Pa)(h:Hp):aX Tryz.prog 117 [p.v] h (.bool p.ok):=by
 refine aP (fun L=>trivial) fun h' nx hh=>aD L.aUn fun hd=>?_;simp only[jL,jM,jA,jB,jN,jO,jP,jQ,Kb]
 (repeat' (first|(with_reducible first|refine stp ?_|refine bG ZM ?_|refine iI (fun _=>?_) (fun _=>?_))|((first|(with_reducible refine fO ?_;first|refine eH rfl ?_ ?_|refine aQ (qN _ _ _) rfl (aU _) ?_|refine Zx ?_)|(with_reducible refine fP ?_;first|refine bY rfl ?_ ?_|refine ZX ?_)|refine Zy ?_)<;>try simp only[Pa.v,go_sem,reduceIte,jA,jB,jC,jD,reduceCtorEq,jE,jF])|refine ZY ?_|omega))
 exact aG h' (by repeat (first|exact Ka _|refine aH hd ?_ or _|refine aL hd ?_ or)) ⟨rfl,rfl⟩
theorem jT(p:Pa)(h:Hp):aX Tryz.prog 113 [p.v] h (.bool p.ok):=by
 refine aP (fun L=>trivial) fun h' nx hh=>aD L.aU1 fun hd=>?_;simp only[jL,jM,jA,jB,jN,jO,jP,jQ,Kb]
 (repeat' (first|(with_reducible first|refine stp ?_|refine bG ZM ?_|refine iI (fun _=>?_) (fun _=>?_))|((first|(with_reducible refine fO ?_;first|refine eH rfl ?_ ?_|refine Zx ?_)|(with_reducible refine fP ?_;first|refine bY rfl ?_ ?_|refine ZX ?_)|refine Zy ?_)<;>try simp only[Pa.v,go_sem,reduceIte,jA,jB,jC,jD,reduceCtorEq,jE,jF])|refine ZY ?_|omega))
 all_goals refine aG h' (by repeat (first|exact Ka _|refine aH hd ?_ or _|refine aL hd ?_ or)) ⟨?_,rfl⟩
 all_goals ((try simp_all [Pa.ok])<;>(try omega))
theorem u7(p:Pa)(h:Hp):aX Tryz.prog 79 [p.v] h p.v:=by
 refine aP (fun L=>p.aAM L) fun h' nx hh=>aD L.aVY fun hd=>?_;simp only[jL,jM,jA,jB,jN,jO,jP,jQ,Kb];refine aue Pa.v.eq_1 ?_;refine vS (by simp only[go_sem,reduceIte,jA,jB,jC,jD,reduceCtorEq,jE,jF]) h' (by repeat (first|exact Ka _|refine aH hd ?_ or _|refine aL hd ?_ or)) ⟨?_,rfl⟩;simp only[Pa.v,go_sem,reduceIte,jA,jB,jC,jD,reduceCtorEq,jE,jF]
theorem uV(L:Nat→Prop)(n:Int):(eF n).names L:=by unfold eF;split<;>simp[Kd]
theorem yj(p:Pa)(t:Tm)(h1:p.ok=true)(h2:t.ok=true):IntKind.i64.wrap (p.a+t.r)=p.a+t.r∧IntKind.i64.wrap (t.r+p.a)=t.r+p.a∧IntKind.i64.wrap (0+p.a)=p.a:=by
 simp only[Pa.ok,Tm.ok,Kv,decide_eq_true_eq] at h1 h2;refine⟨aY ?_ ?_,aY ?_ ?_,?_⟩<;>try omega
 rw[aY]<;>omega
theorem yX(p:Pa)(t:Tm)(h:Hp):aX Tryz.prog 83 [p.v,t.v] h (.tup [(p.of t).1.v,eF (p.of t).2]):=by
 refine aP (fun L=>by simp[Kd,bP,Tm.v,uV]) fun h' nx hh=>aD L.aVU fun hd=>?_;obtain⟨n,a⟩:=p;obtain⟨e,r⟩:=t;have hw:=yj ⟨n,a⟩ ⟨e,r⟩;simp only[jL,jM,jA,jB,jN,jO,jP,jQ,Kb]
 (repeat' (first|(with_reducible first|refine stp ?_|refine bG ZM ?_|refine iI (fun _=>?_) (fun _=>?_))|((first|(with_reducible refine fO ?_;first|refine eH rfl ?_ ?_|refine aQ (mI ⟨_,_⟩ _) rfl (aU _) ?_|refine aQ (pC ⟨_,_⟩ _) rfl (aU _) ?_|refine Zx ?_)|(with_reducible refine fP ?_;first|refine bY rfl ?_ ?_|refine ZX ?_)|refine Zy ?_)<;>try simp only[Pa.v,Tm.v,go_sem,reduceIte,jA,jB,jC,jD,reduceCtorEq,jE,jF])|refine ZY ?_|omega))
 all_goals refine cI (by simp only[go_sem,reduceIte,jA,jB,jC,jD,reduceCtorEq,jE,jF]) h' (by repeat (first|exact Ka _|refine aH hd ?_ or _|refine aL hd ?_ or)) ⟨?_,rfl⟩
 all_goals simp only[go_sem,reduceIte,jA,jB,jC,jD,reduceCtorEq,jE,jF]
 all_goals cases hp:Pa.ok ⟨n,a⟩<;>cases ht:Tm.ok ⟨e,r⟩<;>simp_all [Pa.of,eF]
theorem mg(p:Pa)(t:Tm)(h:Hp):aX Tryz.prog 88 [p.v,t.v] h (.tup [(p.of t).1.v, .int .i64 (p.of t).2]):=by
 rw[←Pa.aI8];refine aP (fun L=>by simp[Kd,bP,Tm.v]) fun h' nx hh=>aD L.aVQ fun hd=>?_;obtain⟨n,a⟩:=p;obtain⟨e,r⟩:=t;have hw:=yj ⟨n,a⟩ ⟨e,r⟩;simp only[jL,jM,jA,jB,jN,jO,jP,jQ,Kb]
 (repeat' (first|(with_reducible first|refine stp ?_|refine bG ZM ?_|refine iI (fun _=>?_) (fun _=>?_))|((first|(with_reducible refine fO ?_;first|refine eH rfl ?_ ?_|refine aQ (jT ⟨_,_⟩ _) rfl (aU _) ?_|refine aQ (lF ⟨_,_⟩ _) rfl (aU _) ?_|refine Zx ?_)|(with_reducible refine fP ?_;first|refine bY rfl ?_ ?_|refine ZX ?_)|refine Zy ?_)<;>try simp only[Pa.v,Tm.v,go_sem,reduceIte,jA,jB,jC,jD,reduceCtorEq,jE,jF])|refine ZY ?_|omega))
 all_goals refine cI (by simp only[go_sem,reduceIte,jA,jB,jC,jD,reduceCtorEq,jE,jF]) h' (by repeat (first|exact Ka _|refine aH hd ?_ or _|refine aL hd ?_ or)) ⟨?_,rfl⟩
 all_goals simp only[go_sem,reduceIte,jA,jB,jC,jD,reduceCtorEq,jE,jF]
 all_goals cases hp:Pa.ok ⟨n,a⟩<;>cases ht:Tm.ok ⟨e,r⟩<;>simp_all [Pa.rof,eF]
 all_goals (split<;>first|(exfalso;omega)|simp)
theorem iE(n:Int):veq (.iface true) (eF n) .nilIface=some (decide (n=0)):=by
 unfold eF;split<;>simp_all [veq]
end Go.Proofs.YtecepaehmojpgaaGreat
namespace Go.Proofs.YtecepaehmojpgaaGreat
open Go.RowKit Go.Sort
structure Wy where
 f:Int
 t:Int
 p:Pa
 deriving DecidableEq,Inhabited
def num(b:Bool):Int:=if b=true then 1 else 0
def Wy.cmp(a b:Wy):Int:=orI [lA a.f b.f,lA a.t b.t,lA (num a.p.n) (num b.p.n),lA a.p.a b.p.a]
def Wy.less(a b:Wy):Bool:=decide (a.f<b.f∨(a.f=b.f∧(a.t<b.t∨(a.t=b.t∧(num a.p.n<num b.p.n∨(num a.p.n=num b.p.n∧a.p.a<b.p.a))))))
theorem al(a b:Int):lA a b<0↔a<b:=by unfold lA;(repeat' split)<;>omega
theorem am(a b:Int):lA a b=0↔a=b:=by unfold lA;(repeat' split)<;>omega
theorem Cx:orI []=0:=rfl
theorem Bt(x:Int)(l:List Int):orI (x::l)=if x=0 then orI l else x:=by
 rw[orI]
theorem Wy.aMm(a b:Wy):a.cmp b<0↔a.less b=true:=by
 unfold Wy.cmp Wy.less;simp only[Bt,Cx,decide_eq_true_eq];have h1:=al a.f b.f;have k1:=am a.f b.f;have h2:=al a.t b.t;have k2:=am a.t b.t;have h3:=al (num a.p.n) (num b.p.n);have k3:=am (num a.p.n) (num b.p.n);have h4:=al a.p.a b.p.a;have k4:=am a.p.a b.p.a
 (repeat' split)<;>omega
theorem Wy.aHR(a b:Wy):ltOf Wy.cmp a b=a.less b:=by
 unfold ltOf;rw[KD];simp[Wy.aMm]
theorem Wy.ord:Ord Wy.less where
 irr x:=by simp[Wy.less]
 trans x y z h1 h2:=by simp only[Wy.less,decide_eq_true_eq] at*;omega
 tot x y h1 h2:=by
  obtain⟨f,t,n,a⟩:=x;obtain⟨f',t',n',a'⟩:=y;simp only[Wy.less,decide_eq_false_iff_not] at*;have e:num n=num n'∧f=f'∧t=t'∧a=a':=or;have en:n=n':=by cases n<;>cases n'<;>simp[num] at e⊢
  simp[e,en]
theorem Wy.swo:SWO (ltOf Wy.cmp):=by
 refine⟨fun x=>?_,fun x y z=>?_,fun x y z=>?_⟩<;>simp only[Wy.aHR,Wy.less,decide_eq_true_eq,decide_eq_false_iff_not]<;>omega
theorem Wy.tot(x y:Wy)(h1:ltOf Wy.cmp x y=false)(h2:ltOf Wy.cmp y x=false):x=y:=by
 rw[Wy.aHR] at h1 h2;exact Wy.ord.tot x y h1 h2
def bZ(l:List Wy):List Wy:=cs (dV Wy.cmp l)
theorem mY(l:List Wy):bZ l=kO Wy.less l:=by
 refine Aq Wy.ord (dU Wy.cmp l) ?_;have:=iS Wy.swo l;exact this.imp fun{x y} h=>by rw[←Wy.aHR];exact h
theorem mW(l:List Wy)(x:Wy):x∈bZ l↔x∈l:=by
 rw[mY];have:=(pP Wy.ord l [] List.Pairwise.nil).2 x;unfold kO;simpa using this
theorem fw(l:List Wy):Inc Wy.less (bZ l):=by
 rw[mY];exact(pP Wy.ord l [] List.Pairwise.nil).1
theorem mX(l:List Wy):(bZ l).length≤l.length:=by
 have:=aDl (dV Wy.cmp l);rw[(dU Wy.cmp l).length_eq] at this;exact this
def We.wy(w:We):Wy:=⟨w.f,w.t,w.p⟩
def Wy.we(w:Wy):We:=⟨w.f.toNat,w.t.toNat,w.p⟩
def Wy.fit(P:Int)(w:Wy):Bool:=decide (0≤w.f)&&(decide (w.f<P)&&(decide (0≤w.t)&&(decide (w.t<P)&&w.p.ok)))
theorem Wy.aFu{P:Int}{w:Wy}(h:w.fit P=true):w.we.wy=w:=by
 obtain⟨f,t,p⟩:=w;simp only[Wy.fit,Kv,decide_eq_true_eq] at h;simp only[Wy.we,We.wy,Wy.mk.injEq,and_true];omega
def xI(n:Nat)(l:List We):Prop:=∀w∈l,w.f<n∧w.t<n∧w.p.ok=true
theorem dw{P:Int}{ws:List Wy}(h:∀w∈ws,w.fit P=true):ws=(ws.map Wy.we).map We.wy∧xI P.toNat (ws.map Wy.we):=by
 constructor
 ·rw[KL];have:ws.map (We.wy∘Wy.we)=ws.map id:=KH fun w hw=>Wy.aFu (h w hw);rw[this,KW]
 intro w hw;obtain⟨v,hv,rfl⟩:=KV.1 hw;have:=h v hv;simp only[Wy.fit,Kv,decide_eq_true_eq] at this;refine⟨?_,?_,this.2.2.2.2⟩
 ·show v.f.toNat<P.toNat;omega
 show v.t.toNat<P.toNat;omega
def zE(l:List We):List (Nat×Nat):=l.filterMap fun w=>if w.p.a=0 then some (w.f,w.t) else none
theorem A0(l:List We)(e:Nat×Nat):e∈zE l↔∃w∈l,w.p.a=0∧(w.f,w.t)=e:=by
 unfold zE;simp only[List.mem_filterMap];constructor
 ·rintro⟨w,hw,h⟩;split at h
  ·rename_i h0;injection h with h;exact⟨w,hw,h0,h⟩
  cases h
 rintro⟨w,hw,h0,rfl⟩;exact⟨w,hw,by rw[if_pos h0]⟩
theorem zh(a b:List We):zE (a++b)=zE a++zE b:=List.filterMap_append
theorem C8{n:Nat}{l:List We}(h:xI n l):∀e∈zE l,e.1<n∧e.2<n:=by
 intro e he;obtain⟨w,hw,_,rfl⟩:=(A0 l e).1 he;exact⟨(h w hw).1,(h w hw).2.1⟩
def ip(l:List We):Prop:=∃y,fF (fun a b=>(a,b)∈zE l) y y
def rQ(l:List We):Prop:=∃w∈l,w.p.n=true∧(w.t=w.f∨fF (vH l) w.t w.f)
theorem b8(l:List We):vE l↔¬rQ l:=by
 constructor
 ·rintro h ⟨w,h1,h2,h3⟩;exact h w h1 h2 h3
 intro h w h1 h2 h3;exact h ⟨w,h1,h2,h3⟩
def eW(l:List Wy):Int:=(l.map fun w=>w.p.a).sum
open Classical in
noncomputable def cM(P:Int)(ws:List Wy):(Int×List Wy)×Int:=
 if P<0∨200<P∨∃w∈ws,w.fit P=false then ((0,[]),1)
 else if 1048576<eW (bZ ws) then ((0,[]),1)
 else if ip ((bZ ws).map Wy.we)∨rQ ((bZ ws).map Wy.we) then ((0,[]),9)
 else ((P,bZ ws),0)
structure nB(P:Int)(ws:List Wy)(n:Nat)(l:List We):Prop where
 pl:P=n
 le:n≤200
 eq:ws=l.map We.wy
 fit:xI n l
 idle:¬ip l
 aBO:vE l
 sum:eW ws≤1048576
 canon:bZ ws=ws
open Classical in
noncomputable def eK(P:Int)(ws:List Wy):Bool:=decide ((cM P ws).2=0∧(cM P ws).1.2=ws)
theorem jX(P:Int)(ws:List Wy):eK P ws=true↔∃n l,nB P ws n l:=by
 unfold eK;rw[decide_eq_true_eq];constructor
 ·rintro⟨h1,h2⟩;unfold cM at h1 h2;split at h1
  ·cases h1
  rename_i h3;rw[if_neg h3] at h2;split at h1
  ·cases h1
  rename_i h4;rw[if_neg h4] at h2;split at h1
  ·cases h1
  rename_i h5;rw[if_neg h5] at h2;have h2:bZ ws=ws:=h2;have aAH:∀w∈ws,w.fit P=true:=fun w hw=>by
   cases e:w.fit P with
   |true=>rfl
   |false=>exact absurd (.inr (.inr ⟨w,hw,e⟩)) h3
  have hP:0≤P∧P≤200:=by
   constructor
   ·exact Classical.byContradiction fun h=>h3 (.inl or)
   exact Classical.byContradiction fun h=>h3 (.inr (.inl or))
  rw[h2] at h4 h5;obtain⟨k1,k2⟩:=dw aAH;refine⟨P.toNat,ws.map Wy.we,or,or,k1,k2,fun h=>h5 (.inl h),(b8 _).2 fun h=>h5 (.inr h),or,h2⟩
 rintro⟨n,l,h⟩;obtain⟨h1,h2,h3,h4,h5,h6,h7,h8⟩:=h;have hwe:ws.map Wy.we=l:=by
  rw[h3,KL];have:l.map (Wy.we∘We.wy)=l.map id:=KH fun w _=>by obtain⟨f,t,p⟩:=w;simp[We.wy,Wy.we]
  rw[this,KW]
 have hno:¬(P<0∨200<P∨∃w∈ws,w.fit P=false):=by
  rintro(h|h|⟨w,hw,h⟩)
  ·omega
  ·omega
  rw[h3] at hw;obtain⟨v,hv,rfl⟩:=KV.1 hw;have:=h4 v hv;have ht:(We.wy v).fit P=true:=by
   have h3:=this.1;have h4:=this.2.1;have h5:=this.2.2;show(decide ((0:Int)≤v.f)&&(decide ((v.f:Int)<P)&&(decide ((0:Int)≤v.t)&&(decide ((v.t:Int)<P)&&v.p.ok))))=true;rw[h5,decide_eq_true or,decide_eq_true or,decide_eq_true or,decide_eq_true or];rfl
  rw[ht] at h;cases h
 unfold cM;rw[if_neg hno,h8,if_neg or,hwe,if_neg (fun h=>h.elim h5 (fun h=>(b8 l).1 h6 h))];exact⟨rfl,rfl⟩
end Go.Proofs.YtecepaehmojpgaaGreat
namespace Go.Proofs.YtecepaehmojpgaaGreat
open Go.RowKit Go.Sort
attribute [local irreducible] IntKind.wrap
def Wy.v(w:Wy):V:= .agg [.int .i64 w.f, .int .i64 w.t, .bool w.p.n, .int .i64 w.p.a]
theorem Wy.aAM(L:Nat→Prop)(w:Wy):w.v.names L:=by simp[Wy.v,Kd,bP]
theorem Wy.aAC(w:Wy):w.v.fits (.agg 4)=true:=by simp[Wy.v,Kg,V.aAD]
abbrev wys(own:Own)(l:List Wy):V:= .sl (.agg 4) own (l.map Wy.v)
abbrev pas(own:Own)(l:List Pa):V:= .sl (.agg 2) own (l.map Pa.v)
theorem lR:aJ Tryz.prog 96=some (LB.aAj (.agg 4) 127):=Zz
theorem oH:aJ Tryz.prog 127=some (LB.aAe (.agg 4)):=Zz
theorem wG:aJ Tryz.prog 98=some (LB.aBD (.agg 4) 128 129):=Zz
theorem c5:aJ Tryz.prog 128=some (LB.Collect (.agg 4) 149):=Zz
theorem yB:aJ Tryz.prog 149=some (LB.aAy (.agg 4) (.agg [.int .i64 0, .int .i64 0, .bool false, .int .i64 0]) 32):=Zz
theorem g0:aJ Tryz.prog 99=some (LB.aFW (.agg 4) 130):=Zz
theorem zX:aJ Tryz.prog 130=some (LB.aCG (.agg 4) (.agg [.int .i64 0, .int .i64 0, .bool false, .int .i64 0])):=Zz
theorem m6:aJ Tryz.prog 57=some (LB.Equal (.agg 4) (.plain (.agg 4) [.int, .int, .bool, .int])):=Zz
theorem wI:aJ Tryz.prog 107=some (LB.Clone (.agg 2) 16):=Zz
theorem fN:aJ Tryz.prog 85=some (LB.aAj (.agg 2) 118):=Zz
theorem eM:aJ Tryz.prog 118=some (LB.aAe (.agg 2)):=Zz
theorem yZ(b:Bool)(h:Hp):aX Tryz.prog 131 [.bool b] h (.int .i64 (num b)):=by
 refine aP (fun L=>trivial) fun h' nx hh=>aD L.aUj fun hd=>?_;simp only[jL,jM,jA,jB,jN,jO,jP,jQ,Kb];cases b<;>(repeat' (first|(with_reducible first|refine stp ?_|refine bG ZM ?_|refine iI (fun _=>?_) (fun _=>?_))|((first|(with_reducible refine fO ?_;first|refine eH rfl ?_ ?_|refine Zx ?_)|(with_reducible refine fP ?_;first|refine bY rfl ?_ ?_|refine ZX ?_)|refine Zy ?_)<;>try simp only[ go_sem,reduceIte,jA,jB,jC,jD,reduceCtorEq,jE,jF])|refine ZY ?_|omega))<;>exact aG h' (by repeat (first|exact Ka _|refine aH hd ?_ or _|refine aL hd ?_ or)) ⟨rfl,rfl⟩
theorem vt(a b:Wy):aX Tryz.prog 100 [a.v,b.v] Hp.none (.int .i64 (a.cmp b)):=by
 refine aP (fun L=>trivial) fun h' nx hh=>aD L.aVK fun hd=>?_;simp only[jL,jM,jA,jB,jN,jO,jP,jQ,Kb]
 (repeat' (first|(with_reducible first|refine stp ?_|refine bG ZM ?_|refine iI (fun _=>?_) (fun _=>?_))|((first|(with_reducible refine fO ?_;first|refine eH rfl ?_ ?_|refine Zx ?_)|(with_reducible refine fP ?_;first|refine bY rfl ?_ ?_|refine bJ (pX pK af _ _ _) rfl (bK _) ?_|refine bJ (yZ _ _) rfl (bK _) ?_|refine bJ (xV xZ _ [lA a.f b.f,lA a.t b.t,lA (num a.p.n) (num b.p.n),lA a.p.a b.p.a] Zm _) rfl (bK _) ?_|refine ZX ?_)|refine Zy ?_)<;>try simp only[Wy.v,go_sem,reduceIte,jA,jB,jC,jD,reduceCtorEq,jE,jF])|refine ZY ?_|omega))
 exact aG h' (by repeat (first|exact Ka _|refine aH hd ?_ or _|refine aL hd ?_ or)) ⟨rfl,rfl⟩
theorem mr(w:Wy)(P:Int)(h:Hp):aX Tryz.prog 95 [w.v, .int .i64 P] h (.bool (w.fit P)):=by
 refine aP (fun L=>trivial) fun h' nx hh=>aD L.aVM fun hd=>?_;obtain⟨f,t,n,a⟩:=w;simp only[jL,jM,jA,jB,jN,jO,jP,jQ,Kb]
 (repeat' (first|(with_reducible first|refine stp ?_|refine bG ZM ?_|refine iI (fun _=>?_) (fun _=>?_))|((first|(with_reducible refine fO ?_;first|refine eH rfl ?_ ?_|refine aQ (mI ⟨_,_⟩ _) rfl (aU _) ?_|refine Zx ?_)|(with_reducible refine fP ?_;first|refine bY rfl ?_ ?_|refine ZX ?_)|refine Zy ?_)<;>try simp only[Wy.v,go_sem,reduceIte,jA,jB,jC,jD,reduceCtorEq,jE,jF])|refine ZY ?_|omega))
 all_goals refine aG h' (by repeat (first|exact Ka _|refine aH hd ?_ or _|refine aL hd ?_ or)) ⟨?_,rfl⟩
 all_goals ((try simp_all [Wy.fit])<;>(try omega))
def We.v(w:We):V:= .agg [.int .i64 w.f, .int .i64 w.t, .bool w.p.n, .int .i64 w.p.a]
theorem We.aAC(w:We):w.v.fits (.agg 4)=true:=by simp[We.v,Kg,V.aAD]
theorem ul(l:List We):(l.map We.wy).map Wy.v=l.map We.v:=by rw[KL];rfl
abbrev wes(own:Own)(l:List We):V:= .sl (.agg 4) own (l.map We.v)
theorem du(l:List Int)(i:Nat)(h:i<l.length):(l.map (V.int .i64)).getD i (.tup [])= .int .i64 (l.getD i 0):=by
 rw[bI (V.int .i64) l i h,Kf,Kj h];rfl
theorem Av(l:List Bool)(i:Nat)(h:i<l.length):(l.map V.bool).getD i (.tup [])= .bool (l.getD i false):=by
 rw[bI V.bool l i h,Kf,Kj h];rfl
theorem xw(own:Own)(l:List Wy)(hl:l.length≤1000)(hb:∀w∈l,0≤w.p.a∧w.p.a≤1048576)(h:Hp):aX Tryz.prog 101 [wys own l] h (.int .i64 (eW l)):=by
 refine aP (fun L=>trivial) fun h' nx hh=>aD L.aVJ fun hd=>?_;simp only[jL,jM,jA,jB,jN,jO,jP,jQ,Kb];refine aue trivial ?_;have aIp:∀i,i≤l.length→0≤eW (l.take i)∧eW (l.take i)≤1048576*i:=by
  intro i hi;induction i with
  |zero=>simp[eW]
  |succ i ih=>
   have ih:=ih or;have:=hb l[i] (Kh _);rw[Ke or];simp only[eW,Km,Kk,Kx,KS,KU,KM] at ih⊢;omega
 refine aT (fun i:Nat=>aB 19 0 [(3, .int .i64 (eW (l.take i))),(6,wys own l),(7, .int .i64 l.length),(8, .int .i64 i)]) (fun i hp nx1=>i≤l.length∧nx≤nx1∧Kc nx h' hp) (fun i=>l.length-i) 0 ⟨Ko _,KP _,Hp.same.aBI⟩ ?_ ?_
 ·simp only[WkL,aB,jH,jI,jJ,wys,eW,KT,Kx,KM,go_sem,reduceIte,jA,jB,jC,jD,reduceCtorEq,jE,jF]
 rintro i hp nx1 ⟨hi,hnx,hsm⟩;generalize hQ:bO _ _ _ _ _=Q0;simp only[aB,go_sem,reduceIte,jA,jB,jC,jD,reduceCtorEq,jE,jF];rcases Kt i l.length with hlt|hge
 ·have hc:decide ((i:Int)<(l.length:Int))=true:=decide_eq_true or;have hg:(l.map Wy.v).getD i (.tup [])= .agg [.int .i64 l[i].f, .int .i64 l[i].t, .bool l[i].p.n, .int .i64 l[i].p.a]:=bI Wy.v l i hlt;have hs1:=aIp i hi;have hs2:=aIp (i+1) or;have hb1:=hb l[i] (Kh _);have hsn:eW (l.take (i+1))=eW (l.take i)+l[i].p.a:=by
   rw[Ke hlt];simp only[eW,Km,Kk,Kx,KS,KU,KM];omega
  have hw:IntKind.i64.wrap ((i:Int)+1)=((i+1:Nat):Int):=by rw[aY]<;>omega
  have hw2:IntKind.i64.wrap (eW (l.take i)+l[i].p.a)=eW (l.take (i+1)):=by rw[hsn,aY]<;>omega
  refine aue (ee5 hc hg hw hw2 hlt) ?_;rw[←hQ];refine aF (i+1) or ⟨hlt,or,(by(try dsimp only);repeat (first|exact hsm|refine aV ?_ or _|refine aW ?_ or))⟩ ?_;simp only[WkL,aB,jH,jI,jJ,wys,go_sem,reduceIte,jA,jB,jC,jD,reduceCtorEq,jE,jF]
 have hc:decide ((i:Int)<(l.length:Int))=false:=decide_eq_false or;refine aue hc ?_;rw[←hQ];refine au ?_;refine aG h' (hsm.le hd (Ka _)) ⟨?_,rfl⟩;refine Zn ?_;rw[show i=l.length by omega,Ki]
open Classical in
noncomputable def qT(l:List We)(a b:Nat):Bool:=decide (b=a∨fF (vH l) a b)
open Classical in
theorem tP(l:List We)(a b:Nat):qT l a b=true↔(b=a∨fF (vH l) a b):=by unfold qT;exact decide_eq_true_iff
theorem mn{l:List We}{a b:Nat}(h:¬(b=a∨fF (vH l) a b)):qT l a b=false:=by
 cases e:qT l a b with
 |false=>rfl
 |true=>exact absurd ((tP l a b).1 e) h
theorem Dv(m:Nat):decide ((0:Int)<((m+1:Nat):Int))=true:=decide_eq_true or
theorem w7(m:Nat):(0:Int)<((m+1:Nat):Int):=or
abbrev gS(id:Nat)(l:List Nat):V:= .sl .leaf (.tok id) (l.map fun x:Nat=> .int .i64 (x:Int))
set_option maxHeartbeats 1000000 in
theorem gz(own:Own)(n:Nat)(l:List We)(a b:Nat)(aAH:xI n l)(ha:a<n)(hn:n≤200)(hl:l.length≤1000)(h:Hp):aX Tryz.prog 133 [.int .i64 n,wes own l, .int .i64 a, .int .i64 b] h (.bool (qT l a b)):=by
 refine aP (fun L=>trivial) fun h' nx hh=>aD L.aUh fun hd=>?_;simp only[jL,jM,jA,jB,jN,jO,jP,jQ,Kb];refine aue trivial ?_
 refine aT (fun q:List Bool×List Nat×Nat=>aB 57 0 [(1,wes own l),(3, .int .i64 b),(9, .rs nx .leaf 0 n),(10,gS q.2.2 q.2.1)])
  (fun q hp nx1=>nx<q.2.2∧q.2.2<nx1∧hp nx=some (.arr .leaf (q.1.map V.bool))∧hp q.2.2=some .tip∧Kc nx h' hp∧Bfs n (vH l) a b q.1 q.2.1∧mE q.1+q.2.1.length≤n+1)
  (fun q=>mE q.1+q.2.1.length) (KG n false,[a],nx+1) ⟨Zw,Zw,?_,?_,(by(try dsimp only);repeat (first|exact Hp.same.aBI|refine aV ?_ or _|refine aW ?_ or)),Bfs.first ha,?_⟩ ?_ ?_
 ·simp only[KK,go_sem,reduceIte,jA,jB,jC,jD,reduceCtorEq,jE,jF]
 ·simp only[go_sem,reduceIte,jA,jB,jC,jD,reduceCtorEq,jE,jF]
 ·have:mE (KG n false)≤n:=Ky (Kp _ _) Zm;simp;omega
 ·simp only[WkL,aB,jH,jI,jJ,gS,go_sem,reduceIte,jA,jB,jC,jD,reduceCtorEq,jE,jF]
 rintro⟨seen,todo,id⟩ hp nx1 ⟨q1,q2,q3,q4,q5,q6,q7⟩;generalize hQ:bO _ _ _ _ _=Q0;dsimp only at q1 q2 q3 q4 q6 q7;simp only[aB,go_sem,reduceIte,jA,jB,jC,jD,reduceCtorEq,jE,jF];cases todo with
 |nil=>
  have hc:decide ((0:Int)<((0:Nat):Int))=false:=ZM
  (repeat' (first|(with_reducible first|refine stp ?_|refine bG ZM ?_|refine iI (fun _=>?_) (fun _=>?_))|((first|(with_reducible refine fO ?_;first|refine eH rfl ?_ ?_|refine Zx ?_)|(with_reducible refine fP ?_;first|refine bY rfl ?_ ?_|refine ZX ?_)|refine Zy ?_)<;>try simp only[gS,hc,jK,go_sem,reduceIte,jA,jB,jC,jD,reduceCtorEq,jE,jF])|refine ZY ?_|omega))
  rw[←hQ];refine au ?_;refine aG h' (q5.le hd (Ka _)) ⟨?_,rfl⟩;refine Zn ?_;rw[mn q6.no]
 |cons k rest=>
  by_cases hkb:k=b
  ·have hcb:((k:Int)==(b:Int))=true:=by simp[hkb]
   (repeat' (first|(with_reducible first|refine stp ?_|refine bG ZM ?_|refine iI (fun _=>?_) (fun _=>?_))|((first|(with_reducible refine fO ?_;first|refine eH rfl ?_ ?_|refine Zx ?_)|(with_reducible refine fP ?_;first|refine bY rfl ?_ ?_|refine ZX ?_)|refine Zy ?_)<;>try simp only[gS,Dv,w7,hcb,jK,go_sem,reduceIte,jA,jB,jC,jD,reduceCtorEq,jE,jF])|refine ZY ?_|omega))
   rw[←hQ];refine au ?_;refine aG h' (q5.le hd (Ka _)) ⟨?_,rfl⟩;refine Zn ?_;subst hkb;rw[(tP l a k).2 q6.yes]
  have hcb:((k:Int)==(b:Int))=false:=by simp;omega
  (repeat' (first|(with_reducible first|refine stp ?_|refine bG ZM ?_|refine iI (fun _=>?_) (fun _=>?_))|((first|(with_reducible refine fO ?_;first|refine eH rfl ?_ ?_|refine Zx ?_)|(with_reducible refine fP ?_;first|refine bY rfl ?_ ?_|refine ZX ?_)|refine Zy ?_)<;>try simp only[gS,Dv,w7,hcb,jK,go_sem,reduceIte,jA,jB,jC,jD,reduceCtorEq,jE,jF])|refine ZY ?_|omega))
  refine aT (fun q:Nat×List Bool×List Nat×Nat=>aB 57 0 [(1,wes own l),(3, .int .i64 b),(9, .rs nx .leaf 0 n),(10,gS q.2.2.2 (k::q.2.2.1)),(27,wes own l),(28, .int .i64 l.length),(29, .int .i64 q.1)])
   (fun q hp2 nx2=>q.1≤l.length∧nx<q.2.2.2∧q.2.2.2<nx2∧hp2 nx=some (.arr .leaf (q.2.1.map V.bool))∧hp2 q.2.2.2=some .tip∧Kc nx h' hp2∧tL n (vH l) a b k (fun y=>∃w∈l.take q.1,w.f=k∧w.t=y) q.2.1 q.2.2.1∧mE q.2.1+q.2.2.1.length≤mE seen+rest.length)
   (fun q=>l.length-q.1) (0,seen,rest,id) ⟨Ko _,q1,Zw,q3,q4,q5,(q6.aI5 hkb).more (fun y hy=>by simp at hy),KP _⟩ ?_ ?_
  ·simp only[WkL,aB,jH,jI,jJ,gS,wes,Kk,go_sem,reduceIte,jA,jB,jC,jD,reduceCtorEq,jE,jF]
  rintro⟨j,aCY,aB4,id2⟩ hp2 nx2 ⟨r1,r2,r3,r4,r5,r6,r7,r8⟩;generalize hQ2:bO _ _ _ _ _=Q2;dsimp only at r1 r2 r3 r4 r5 r7 r8;simp only[aB,go_sem,reduceIte,jA,jB,jC,jD,reduceCtorEq,jE,jF];rcases Kt j l.length with hlt|hge
  ·have hc:decide ((j:Int)<(l.length:Int))=true:=decide_eq_true or;have hg:(l.map We.v).getD j (.tup [])= .agg [.int .i64 l[j].f, .int .i64 l[j].t, .bool l[j].p.n, .int .i64 l[j].p.a]:=bI We.v l j hlt;have hw:IntKind.i64.wrap ((j:Int)+1)=((j+1:Nat):Int):=by rw[aY]<;>omega
   have htn:l[j].t<n:=(aAH l[j] (Kh _)).2.1;have hgs:=Av aCY l[j].t (by rw[r7.len];exact htn);have hsl:=r7.len;have hl1:nx<nx2:=or;have htk:l.take (j+1)=l.take j++[l[j]]:=Ke hlt;have aAW:(aB4.length+1+1)*8≤140737488355328:=by simp only[jL] at q7;omega
   have hDD:∀y,(∃w∈l.take (j+1),w.f=k∧w.t=y)→(∃w∈l.take j,w.f=k∧w.t=y)∨(l[j].f=k∧y=l[j].t):=by
    rintro y ⟨w,hw,h1,h2⟩;rw[htk] at hw;rcases KR.1 hw with hw|hw
    ·exact .inl ⟨w,hw,h1,h2⟩
    simp at hw;subst hw;exact .inr ⟨h1,h2.symm⟩
   by_cases hfk:l[j].f=k
   ·have hcf:((l[j].f:Int)==(k:Int))=true:=by simp[hfk]
    cases hs:aCY.getD l[j].t false with
    |true=>
     (repeat' (first|(with_reducible first|refine stp ?_|refine bG ZM ?_|refine iI (fun _=>?_) (fun _=>?_))|((first|(with_reducible refine fO ?_;first|refine eH rfl ?_ ?_|refine Zx ?_)|(with_reducible refine fP ?_;first|refine bY rfl ?_ ?_|refine ZX ?_)|refine Zy ?_)<;>try simp only[gS,w7,hc,hg,hw,hlt,htn,hgs,hs,hsl,hl1,hcf,r4,jK,jG,go_sem,reduceIte,jA,jB,jC,jD,reduceCtorEq,jE,jF])|refine ZY ?_|omega))
     rw[←hQ2];refine aF (j+1,aCY,aB4,id2) Zw ⟨hlt,r2,Zw,?_,?_,(by(try dsimp only);repeat (first|exact r6|refine aV ?_ or _|refine aW ?_ or)),r7.more (fun y hy=>(hDD y hy).imp (fun h=>h) fun⟨_,e⟩=>by rw[e];exact hs),r8⟩ ?_
     ·simp only[r4,hl1,go_sem,reduceIte,jA,jB,jC,jD,reduceCtorEq,jE,jF]
     ·simp only[r5,r3,go_sem,reduceIte,jA,jB,jC,jD,reduceCtorEq,jE,jF]
     simp only[WkL,aB,jH,jI,jJ,gS,wes,Kk,go_sem,reduceIte,jA,jB,jC,jD,reduceCtorEq,jE,jF]
    |false=>
     have hun:=bf aCY l[j].t (by rw[hsl];exact htn) hs
     (repeat' (first|(with_reducible first|refine stp ?_|refine bG ZM ?_|refine iI (fun _=>?_) (fun _=>?_))|((first|(with_reducible refine fO ?_;first|refine eH rfl ?_ ?_|refine rC rfl rfl (by simp only[ gS,w7,hc,hg,hw,hlt,htn,hgs,hs,hsl,hl1,hcf,r4,r5,r2,r3,aAW,jK,jG,go_sem,reduceIte,jA,jB,jC,jD,reduceCtorEq,jE,jF];try omega) ?_|refine Zx ?_)|(with_reducible refine fP ?_;first|refine bY rfl ?_ ?_|refine ZX ?_)|refine Zy ?_)<;>try simp only[gS,w7,hc,hg,hw,hlt,htn,hgs,hs,hsl,hl1,hcf,r4,r5,r2,r3,aAW,jK,jG,go_sem,reduceIte,jA,jB,jC,jD,reduceCtorEq,jE,jF])|refine ZY ?_|omega))
     rw[←hQ2];have aTk:mE (aCY.set l[j].t true)+(aB4++[l[j].t]).length≤mE seen+rest.length:=by simp only[List.length_append,jL,jM];omega
     refine aF (j+1,aCY.set l[j].t true,aB4++[l[j].t],nx2+18) Zw ⟨hlt,Zw,Zw,?_,?_,(by(try dsimp only);repeat (first|exact r6|refine aV ?_ or _|refine aW ?_ or)),(r7.one htn ⟨l[j],Kh _,hfk,rfl⟩).more (fun y hy=> .inl ((hDD y hy).imp (fun h=>h) fun h=>h.2)),aTk⟩ ?_
     ·have e1:(nx=id2)=False:=eq_false or;simp only[e1,r4,hl1,hsl,htn,hgs,KN,cG,go_sem,reduceIte,jA,jB,jC,jD,reduceCtorEq,jE,jF]
     ·simp only[go_sem,reduceIte,jA,jB,jC,jD,reduceCtorEq,jE,jF]
     simp only[WkL,aB,jH,jI,jJ,gS,wes,Kk,Km,go_sem,reduceIte,jA,jB,jC,jD,reduceCtorEq,jE,jF]
   have hcf:((l[j].f:Int)==(k:Int))=false:=by simp;omega
   (repeat' (first|(with_reducible first|refine stp ?_|refine bG ZM ?_|refine iI (fun _=>?_) (fun _=>?_))|((first|(with_reducible refine fO ?_;first|refine eH rfl ?_ ?_|refine Zx ?_)|(with_reducible refine fP ?_;first|refine bY rfl ?_ ?_|refine ZX ?_)|refine Zy ?_)<;>try simp only[gS,w7,hc,hg,hw,hlt,htn,hgs,hsl,hl1,hcf,r4,jK,jG,go_sem,reduceIte,jA,jB,jC,jD,reduceCtorEq,jE,jF])|refine ZY ?_|omega))
   rw[←hQ2];refine aF (j+1,aCY,aB4,id2) Zw ⟨hlt,r2,Zw,?_,?_,(by(try dsimp only);repeat (first|exact r6|refine aV ?_ or _|refine aW ?_ or)),r7.more (fun y hy=>(hDD y hy).imp (fun h=>h) fun⟨e,_⟩=>absurd e hfk),r8⟩ ?_
   ·simp only[r4,hl1,go_sem,reduceIte,jA,jB,jC,jD,reduceCtorEq,jE,jF]
   ·simp only[r5,r3,go_sem,reduceIte,jA,jB,jC,jD,reduceCtorEq,jE,jF]
   simp only[WkL,aB,jH,jI,jJ,gS,wes,Kk,go_sem,reduceIte,jA,jB,jC,jD,reduceCtorEq,jE,jF]
  have hc:decide ((j:Int)<(l.length:Int))=false:=decide_eq_false or;refine aue hc ?_;rw[←hQ2]
  (repeat' (first|(with_reducible first|refine stp ?_|refine bG ZM ?_|refine iI (fun _=>?_) (fun _=>?_))|((first|(with_reducible refine fO ?_;first|refine eH rfl ?_ ?_|refine Zx ?_)|(with_reducible refine fP ?_;first|refine bY rfl ?_ ?_|refine ZX ?_)|refine Zy ?_)<;>try simp only[gS,jK,go_sem,reduceIte,jA,jB,jC,jD,reduceCtorEq,jE,jF])|refine ZY ?_|omega))
  rw[←hQ];have hfl:List.take aB4.length (aB4.map fun x:Nat=>V.int .i64 (x:Int))=aB4.map fun x:Nat=>V.int .i64 (x:Int):=List.take_of_length_le Zm;rw[hfl];refine aF (aCY,aB4,id2) (by simp only[jL];omega) ⟨r2,r3,r4,r5,r6,(r7.more (D':=vH l k) fun y hy=> .inl ?_).finish,?_⟩ ?_
  ·obtain⟨w,h1,h2,h3⟩:=hy;exact⟨w,by rw[show j=l.length by omega,Ki];exact h1,h2,h3⟩
  ·simp only[jL] at q7;dsimp only;omega
  simp only[WkL,aB,jH,jI,jJ,gS,go_sem,reduceIte,jA,jB,jC,jD,reduceCtorEq,jE,jF]
open Classical in
noncomputable def sg(l:List We):Bool:=decide (ip l)
open Classical in
theorem yG(l:List We):sg l=true↔ip l:=by unfold sg;exact decide_eq_true_iff
theorem A1(l:List We):(zE l).length≤l.length:=List.length_filterMap_le _ _
theorem ld(l:List We)(j:Nat)(h:j<l.length):zE (l.take (j+1))=zE (l.take j)++(if l[j].p.a=0 then [(l[j].f,l[j].t)] else []):=by
 rw[Ke h,zh];simp only[zE,KI,List.filterMap_nil];split<;>simp_all
theorem Ck(l:List We)(j:Nat)(h:j<l.length):zE (l.drop j)=(if l[j].p.a=0 then [(l[j].f,l[j].t)] else [])++zE (l.drop (j+1)):=by
 rw[List.drop_eq_getElem_cons h];simp only[zE,KI];split<;>simp_all
abbrev lV(o:Own)(l:List Nat):V:= .sl .leaf o (l.map fun x:Nat=> .int .i64 (x:Int))
theorem BN(l:List Nat)(i k:Nat)(h:l[i]?=some k):(l.map fun x:Nat=>V.int .i64 (x:Int)).getD i (.tup [])= .int .i64 (k:Int):=by
 rw[Kf,List.getElem?_map,h];rfl
theorem g9(l:List V)(t:Nat)(v:V)(h:t<l.length):(l.set t v).getD t (.tup [])=v:=by
 rw[Kf,List.getElem?_set_self h];rfl
set_option maxRecDepth 100000 in
set_option maxHeartbeats 4000000 in
theorem As(own:Own)(n:Nat)(l:List We)(aAH:xI n l)(hn:n≤200)(hl:l.length≤1000)(h:Hp):aX Tryz.prog 102 [.int .i64 n,wes own l] h (.bool (sg l)):=by
 refine aP (fun L=>trivial) fun h' nx hh=>aD L.aVI fun hd=>?_;simp only[jL,jM,jA,jB,jN,jO,jP,jQ,Kb];refine aue trivial ?_
 refine aT (fun q:Nat×List Int=>aB 96 0 [(0, .int .i64 n),(1,wes own l),(5, .rs nx .leaf 0 n),(16,wes own l),(17, .int .i64 l.length),(18, .int .i64 q.1)])
  (fun q hp nx1=>q.1≤l.length∧nx+1≤nx1∧hp nx=some (.arr .leaf (q.2.map (V.int .i64)))∧Kc nx h' hp∧q.2.length=n∧(∀j,j<n→q.2.getD j 0=(((zE (l.take q.1)).filter fun e=>decide (e.2=j)).length:Int))∧aK hp nx1)
  (fun q=>l.length-q.1) (0,KG n 0) ⟨Ko _,KP _,?_,(by(try dsimp only);repeat (first|exact Hp.same.aBI|refine aV ?_ or _|refine aW ?_ or)),Zm,?_,(by(try dsimp only);repeat (first|exact aK.up hd or|refine aK.aAh ?_ or _|refine aK.del ?_|refine aK.aAb ?_ _))⟩ ?_ ?_
 ·simp only[KK,go_sem,reduceIte,jA,jB,jC,jD,reduceCtorEq,jE,jF]
 ·intro j hj;simp[zE,Kf,hj]
 ·simp only[WkL,aB,jH,jI,jJ,wes,go_sem,reduceIte,jA,jB,jC,jD,reduceCtorEq,jE,jF]
 rintro⟨i,bW⟩ hp nx1 ⟨q1,q2,q3,q4,q5,q6,q7⟩;generalize hQ:bO _ _ _ _ _=Q0;dsimp only at q1 q3 q5 q6;simp only[aB,go_sem,reduceIte,jA,jB,jC,jD,reduceCtorEq,jE,jF];rcases Kt i l.length with hlt|hge
 ·have hc:decide ((i:Int)<(l.length:Int))=true:=decide_eq_true or;have hg:(l.map We.v).getD i (.tup [])= .agg [.int .i64 l[i].f, .int .i64 l[i].t, .bool l[i].p.n, .int .i64 l[i].p.a]:=bI We.v l i hlt;have hw:IntKind.i64.wrap ((i:Int)+1)=((i+1:Nat):Int):=by rw[aY]<;>omega
  have htn:l[i].t<n:=(aAH l[i] (Kh _)).2.1;have hga:=du bW l[i].t or;have hl1:nx<nx1:=or;have aFq:=q6 l[i].t htn;have hle:((zE (l.take i)).filter fun e=>decide (e.2=l[i].t)).length≤1000:=Ky (Kp _ _) (Ky (A1 _) (by simp;omega));have hw2:IntKind.i64.wrap (bW.getD l[i].t 0+1)=bW.getD l[i].t 0+1:=by rw[aY]<;>omega
  by_cases h0:l[i].p.a=0
  ·have hc0:(l[i].p.a==(0:Int))=true:=by simp[h0]
   refine aue (ei hc hg hw hlt htn hga hl1 hw2 hc0 q3 q5) ?_;rw[←hQ];refine aF (i+1,bW.set l[i].t (bW.getD l[i].t 0+1)) Zw ⟨hlt,or,?_,(by(try dsimp only);repeat (first|exact q4|refine aV ?_ or _|refine aW ?_ or)),by simpa using q5,?_,(by(try dsimp only);repeat (first|exact aK.up q7 or|refine aK.aAh ?_ or _|refine aK.del ?_|refine aK.aAb ?_ _))⟩ ?_
   ·simp only[hl1,hga,KN,go_sem,reduceIte,jA,jB,jC,jD,reduceCtorEq,jE,jF]
   ·intro j hj;dsimp only;rw[sh _ _ _ _ or,ld l i hlt,if_pos h0,Kz];split
    ·rename_i e;rw[e,aFq];simp
    rename_i e;have e':¬l[i].t=j:=fun h=>e h.symm;rw[q6 j hj];simp[e']
   simp only[WkL,aB,jH,jI,jJ,wes,go_sem,reduceIte,jA,jB,jC,jD,reduceCtorEq,jE,jF]
  have hc0:(l[i].p.a==(0:Int))=false:=by simp[h0]
  refine aue (ee7 hc hg hw hlt htn hl1 hc0) ?_;rw[←hQ];refine aF (i+1,bW) Zw ⟨hlt,or,?_,(by(try dsimp only);repeat (first|exact q4|refine aV ?_ or _|refine aW ?_ or)),q5,?_,(by(try dsimp only);repeat (first|exact aK.up q7 or|refine aK.aAh ?_ or _|refine aK.del ?_|refine aK.aAb ?_ _))⟩ ?_
  ·simp only[hl1,q3,go_sem,reduceIte,jA,jB,jC,jD,reduceCtorEq,jE,jF]
  ·intro j hj;dsimp only;rw[ld l i hlt,if_neg h0,Ks];exact q6 j hj
  simp only[WkL,aB,jH,jI,jJ,wes,go_sem,reduceIte,jA,jB,jC,jD,reduceCtorEq,jE,jF]
 have hc:decide ((i:Int)<(l.length:Int))=false:=decide_eq_false or;rw[show i=l.length by omega,Ki] at q6;refine aue hc ?_;rw[←hQ];refine au ?_
 refine aT (fun q:Nat×Own=>aB 96 0 [(0, .int .i64 n),(1,wes own l),(5, .rs nx .leaf 0 n),(8,lV q.2 ((Kq q.1).filter fun j=>decide (bW.getD j 0=0))),(34, .rs nx .leaf 0 n),(35, .int .i64 n),(36, .int .i64 q.1)])
  (fun q hp nx1=>q.1≤n∧nx+1≤nx1∧hp nx=some (.arr .leaf (bW.map (V.int .i64)))∧Kc nx h' hp∧Acc hp (nx+1) q.2 (((Kq q.1).filter fun j=>decide (bW.getD j 0=0)).map fun x:Nat=> .int .i64 (x:Int))∧aK hp nx1)
  (fun q=>n-q.1) (0, .nil) ⟨Ko _,q2,q3,q4,Acc.nil,q7⟩ ?_ ?_
 ·simp only[WkL,aB,jH,jI,jJ,lV,wes,List.range_zero,KE,Kx,go_sem,reduceIte,jA,jB,jC,jD,reduceCtorEq,jE,jF]
 rintro⟨i2,o⟩ hp2 nx2 ⟨r1,r2,r3,r4,r5,r6⟩;generalize hQ1:bO _ _ _ _ _=Q1;dsimp only at r1 r5;simp only[aB,go_sem,reduceIte,jA,jB,jC,jD,reduceCtorEq,jE,jF];rcases Kt i2 n with aF3|aDf
 ·have hc2:decide ((i2:Int)<(n:Int))=true:=decide_eq_true or;have hga:=du bW i2 or;have hw:IntKind.i64.wrap ((i2:Int)+1)=((i2+1:Nat):Int):=by rw[aY]<;>omega
  have aAW:((Kq i2).filter fun j=>decide (bW.getD j 0=0)).length≤1000:=Ky (Kp _ _) (by simp;omega);by_cases h0:bW.getD i2 0=0
  ·have hc0:(bW.getD i2 0==(0:Int))=true:=by rw[h0];rfl
   have aBK:((Kq (i2+1)).filter fun j=>decide (bW.getD j 0=0))=((Kq i2).filter fun j=>decide (bW.getD j 0=0))++[i2]:=by
    rw[Kw,Kz];simp only[KQ,h0,decide_true,if_true,KE]
   (repeat' (first|(with_reducible first|refine stp ?_|refine bG ZM ?_|refine iI (fun _=>?_) (fun _=>?_))|((first|(with_reducible refine fO ?_;first|refine eH rfl ?_ ?_|refine rD (n0:=nx+1) rfl (by(try dsimp only);repeat' (first|exact r5|exact Acc.new _ Zm or|exact kE.new or|exact aK.aEJ r6 or|exact gJ|exact jU (by assumption)|refine gH or ?_|refine gI ?_|refine Acc.set ?_ ?_ _|refine kE.set ?_ ?_ _)) rfl Zm (by simp only[jK,hc2,hga,hw,aF3,q5,r3,hc0,lV,jK,jG,go_sem,reduceIte,jA,jB,jC,jD,reduceCtorEq,jE,jF];try omega) ?_|refine Zx ?_)|(with_reducible refine fP ?_;first|refine bY rfl ?_ ?_|refine ZX ?_)|refine Zy ?_)<;>try simp only[hc2,hga,hw,aF3,q5,r3,hc0,lV,jK,jG,go_sem,reduceIte,jA,jB,jC,jD,reduceCtorEq,jE,jF])|refine ZY ?_|omega))
   rw[←hQ1];refine aF (i2+1, .tok (nx2+1)) Zw ⟨aF3,or,?_,(by(try dsimp only);repeat (first|exact r4|refine aV ?_ or _|refine aW ?_ or|refine eY ?_ (fun id e=>by have:=(r5).ge id e;omega))),?_,(by(try dsimp only);repeat (first|exact aK.up r6 or|refine aK.aAh ?_ or _|refine aK.del ?_|refine aK.aAb ?_ _))⟩ ?_
   ·have hne:(nx=nx2)=False:=eq_false or;have aT1:(nx=nx2+1)=False:=eq_false or;have:=y9 (h:=hp2.set nx2 .tip) (o:=o) (m:=nx) (fun id e=>by have:=r5.ge id e;omega);simp only[hne,aT1,this,r3,go_sem,reduceIte,jA,jB,jC,jD,reduceCtorEq,jE,jF]
   ·dsimp only;rw[aBK];exact Acc.new _ Zm or
   rw[Kw] at aBK;simp only[WkL,aB,jH,jI,jJ,lV,wes,aBK,Km,go_sem,reduceIte,jA,jB,jC,jD,reduceCtorEq,jE,jF]
  have hc0:(bW.getD i2 0==(0:Int))=false:=by simpa using h0
  have aBK:((Kq (i2+1)).filter fun j=>decide (bW.getD j 0=0))=((Kq i2).filter fun j=>decide (bW.getD j 0=0)):=by
   rw[Kw,Kz];simp only[KQ,h0,decide_false,KJ,if_false,KE,Ks]
  (repeat' (first|(with_reducible first|refine stp ?_|refine bG ZM ?_|refine iI (fun _=>?_) (fun _=>?_))|((first|(with_reducible refine fO ?_;first|refine eH rfl ?_ ?_|refine Zx ?_)|(with_reducible refine fP ?_;first|refine bY rfl ?_ ?_|refine ZX ?_)|refine Zy ?_)<;>try simp only[hc2,hga,hw,aF3,q5,r3,hc0,lV,jK,jG,go_sem,reduceIte,jA,jB,jC,jD,reduceCtorEq,jE,jF])|refine ZY ?_|omega))
  rw[←hQ1];refine aF (i2+1,o) Zw ⟨aF3,or,r3,r4,?_,r6⟩ ?_
  ·dsimp only;rw[aBK];exact r5
  rw[Kw] at aBK;simp only[WkL,aB,jH,jI,jJ,lV,wes,aBK,go_sem,reduceIte,jA,jB,jC,jD,reduceCtorEq,jE,jF]
 have hc2:decide ((i2:Int)<(n:Int))=false:=decide_eq_false or;have hK:=oi.first q5 q6;rw[show i2=n by omega] at r5;obtain⟨row,aBK⟩:∃row,row=(Kq n).filter fun j=>decide (bW.getD j 0=0):=⟨_,rfl⟩;rw[←aBK] at hK r5;refine aue hc2 ?_;rw[←hQ1];rw[show i2=n by omega,←aBK];refine au ?_
 refine aT (fun q:Nat×List Int×List Nat×Own=>aB 96 0 [(0, .int .i64 n),(1,wes own l),(5, .rs nx .leaf 0 n),(8,lV q.2.2.2 q.2.2.1),(11, .int .i64 q.1)])
  (fun q hp nx1=>q.1≤q.2.2.1.length∧nx+1≤nx1∧hp nx=some (.arr .leaf (q.2.1.map (V.int .i64)))∧Kc nx h' hp∧Acc hp (nx+1) q.2.2.2 (q.2.2.1.map fun x:Nat=> .int .i64 (x:Int))∧aK hp nx1∧oi n (zE l) q.1 q.2.1 q.2.2.1)
  (fun q=>n-q.1) (0,bW,row,o) ⟨Ko _,r2,r3,r4,r5,r6,hK⟩ ?_ ?_
 ·simp only[WkL,aB,jH,jI,jJ,lV,wes,go_sem,reduceIte,jA,jB,jC,jD,reduceCtorEq,jE,jF]
 clear aBK r5 hK r6 r4 r3 r2;rintro⟨i3,ah,rw3,o3⟩ hp3 nx3 ⟨s1,s2,s3,s4,s5,s6,s7⟩;generalize hQ3:bO _ _ _ _ _=Q3;dsimp only at s1 s3 s5 s7;have hrl:rw3.length≤n:=lI n rw3 s7.nd s7.lt;simp only[aB,go_sem,reduceIte,jA,jB,jC,jD,reduceCtorEq,jE,jF];rcases Kt i3 rw3.length with aT7|aIv
 ·have hc3:decide ((i3:Int)<(rw3.length:Int))=true:=decide_eq_true or;obtain⟨k,hk⟩:∃k,rw3[i3]?=some k:=⟨_,Kj aT7⟩
  (repeat' (first|(with_reducible first|refine stp ?_|refine bG ZM ?_|refine iI (fun _=>?_) (fun _=>?_))|((first|(with_reducible refine fO ?_;first|refine eH rfl ?_ ?_|refine Zx ?_)|(with_reducible refine fP ?_;first|refine bY rfl ?_ ?_|refine ZX ?_)|refine Zy ?_)<;>try simp only[hc3,lV,wes,jK,go_sem,reduceIte,jA,jB,jC,jD,reduceCtorEq,jE,jF])|refine ZY ?_|omega))
  refine aT (fun q:Nat×List Int×List Nat×Own=>aB 96 0 [(0, .int .i64 n),(1,wes own l),(5, .rs nx .leaf 0 n),(8,lV q.2.2.2 q.2.2.1),(11, .int .i64 i3),(54,wes own l),(55, .int .i64 l.length),(56, .int .i64 q.1)])
   (fun q hp nx1=>q.1≤l.length∧nx+1≤nx1∧hp nx=some (.arr .leaf (q.2.1.map (V.int .i64)))∧Kc nx h' hp∧Acc hp (nx+1) q.2.2.2 (q.2.2.1.map fun x:Nat=> .int .i64 (x:Int))∧aK hp nx1∧KIn n (zE l) (zE (l.take q.1)) (zE (l.drop q.1)) i3 k q.2.1 q.2.2.1)
   (fun q=>l.length-q.1) (0,ah,rw3,o3) ⟨Ko _,s2,s3,s4,s5,s6,s7.start hk⟩ ?_ ?_
  ·simp only[WkL,aB,jH,jI,jJ,lV,wes,go_sem,reduceIte,jA,jB,jC,jD,reduceCtorEq,jE,jF]
  clear s1 s2 s3 s4 s5 s6;rintro⟨j,ah4,rw4,o4⟩ hp4 nx4 ⟨t1,t2,t3,t4,t5,t6,t7⟩;generalize hQ4:bO _ _ _ _ _=Q4;dsimp only at t1 t3 t5 t7;simp only[aB,go_sem,reduceIte,jA,jB,jC,jD,reduceCtorEq,jE,jF];rcases Kt j l.length with aBg|aTI
  ·have hc4:decide ((j:Int)<(l.length:Int))=true:=decide_eq_true or;have hg:(l.map We.v).getD j (.tup [])= .agg [.int .i64 l[j].f, .int .i64 l[j].t, .bool l[j].p.n, .int .i64 l[j].p.a]:=bI We.v l j aBg;have hw:IntKind.i64.wrap ((j:Int)+1)=((j+1:Nat):Int):=by rw[aY]<;>omega
   have hwf:=aAH l[j] (Kh _);have htn:l[j].t<n:=hwf.2.1;have hpa:0≤l[j].p.a:=by have:=hwf.2.2;simp only[Pa.ok,Kv,decide_eq_true_eq] at this;exact this.1
   have aHk:=t7.len;have hga:=du ah4 l[j].t or;have hl1:nx<nx4:=or;have hik:i3<rw4.length:=(KC.1 t7.hk).1;have hgr:=BN rw4 i3 k t7.hk;have aWP:rw4.length≤n:=lI n rw4 t7.nd t7.lt;have zt:=ld l j aBg;have zd:=Ck l j aBg;have hne:(nx=nx4)=False:=eq_false or;by_cases hfk:l[j].f=k
   ·have hcf:((l[j].f:Int) != (k:Int))=false:=by simp[hfk]
    by_cases h0:l[j].p.a=0
    ·have hc0:decide ((0:Int)<l[j].p.a)=false:=decide_eq_false or;rw[if_pos h0] at zt zd;rw[zd,hfk] at t7;rw[hfk] at zt;obtain⟨u1,u2⟩:=t7.one htn;rw[←zt] at u2;have hbd:ah4.getD l[j].t 0≤1000:=by
      have:=t7.cnt l[j].t htn;have h1:(((zE l).filter fun e=>decide (e.2=l[j].t)&& !((rw4.take i3).contains e.1)).length:Int)≤1000:=by
       have:=Ky (Kp (fun e=>decide (e.2=l[j].t)&& !((rw4.take i3).contains e.1)) (zE l)) (A1 l);omega
      omega
     have hw2:IntKind.i64.wrap (ah4.getD l[j].t 0-1)=ah4.getD l[j].t 0-1:=by rw[aY]<;>omega
     have aAR:((ah4.map (V.int .i64)).set l[j].t (.int .i64 (ah4.getD l[j].t 0-1))).getD l[j].t (.tup [])= .int .i64 (ah4.getD l[j].t 0-1):=g9 _ _ _ (by simpa using(by omega:l[j].t<ah4.length));have hms:(ah4.map (V.int .i64)).set l[j].t (.int .i64 (ah4.getD l[j].t 0-1))=(ah4.set l[j].t (ah4.getD l[j].t 0-1)).map (V.int .i64):=by rw[KN]
     by_cases hz:ah4.getD l[j].t 0-1=0
     ·have hcz:(ah4.getD l[j].t 0-1==(0:Int))=true:=by rw[hz];rfl
      rw[if_pos hz] at u2
      (repeat' (first|(with_reducible first|refine stp ?_|refine bG ZM ?_|refine iI (fun _=>?_) (fun _=>?_))|((first|(with_reducible refine fO ?_;first|refine eH rfl ?_ ?_|refine rD (n0:=nx+1) rfl (by(try dsimp only);repeat' (first|exact t5|exact Acc.new _ Zm or|exact kE.new or|exact aK.aEJ t6 or|exact gJ|exact jU (by assumption)|refine gH or ?_|refine gI ?_|refine Acc.set ?_ ?_ _|refine kE.set ?_ ?_ _)) rfl Zm (by simp only[jK,hc4,hg,hw,aBg,htn,aHk,hga,hl1,hik,hgr,hcf,hc0,hw2,aAR,hcz,t3,lV,wes,jK,KF,jG,go_sem,reduceIte,jA,jB,jC,jD,reduceCtorEq,jE,jF];try omega) ?_|refine Zx ?_)|(with_reducible refine fP ?_;first|refine bY rfl ?_ ?_|refine ZX ?_)|refine Zy ?_)<;>try simp only[hc4,hg,hw,aBg,htn,aHk,hga,hl1,hik,hgr,hcf,hc0,hw2,aAR,hcz,t3,lV,wes,jK,KF,jG,go_sem,reduceIte,jA,jB,jC,jD,reduceCtorEq,jE,jF])|refine ZY ?_|omega))
      rw[←hQ4];refine aF (j+1,ah4.set l[j].t (ah4.getD l[j].t 0-1),rw4++[l[j].t], .tok (nx4+17)) Zw ⟨aBg,or,?_,(by(try dsimp only);repeat (first|exact t4|refine aV ?_ or _|refine aW ?_ or|refine eY ?_ (fun id e=>by have:=(t5).ge id e;omega))),?_,(by(try dsimp only);repeat (first|exact aK.up t6 or|refine aK.aAh ?_ or _|refine aK.del ?_|refine aK.aAb ?_ _)),u2⟩ ?_
      ·have e1:(nx=nx4+17)=False:=eq_false or;have hdo:∀hq:Hp,hq.aAb o4 nx=hq nx:=fun hq=>y9 (fun id e=>by have:=t5.ge id e;omega);simp only[hdo,hne,hl1,hga,hms,go_sem,reduceIte,jA,jB,jC,jD,reduceCtorEq,jE,jF]
      ·dsimp only;rw[Km];exact Acc.new _ Zm or
      simp only[WkL,aB,jH,jI,jJ,lV,wes,Km,go_sem,reduceIte,jA,jB,jC,jD,reduceCtorEq,jE,jF]
     have hcz:(ah4.getD l[j].t 0-1==(0:Int))=false:=by simpa using hz
     rw[if_neg hz] at u2
     (repeat' (first|(with_reducible first|refine stp ?_|refine bG ZM ?_|refine iI (fun _=>?_) (fun _=>?_))|((first|(with_reducible refine fO ?_;first|refine eH rfl ?_ ?_|refine Zx ?_)|(with_reducible refine fP ?_;first|refine bY rfl ?_ ?_|refine ZX ?_)|refine Zy ?_)<;>try simp only[hc4,hg,hw,aBg,htn,aHk,hga,hl1,hik,hgr,hcf,hc0,hw2,aAR,hcz,t3,lV,wes,jK,KF,jG,go_sem,reduceIte,jA,jB,jC,jD,reduceCtorEq,jE,jF])|refine ZY ?_|omega))
     rw[←hQ4];refine aF (j+1,ah4.set l[j].t (ah4.getD l[j].t 0-1),rw4,o4) Zw ⟨aBg,or,?_,(by(try dsimp only);repeat (first|exact t4|refine aV ?_ or _|refine aW ?_ or)),?_,(by(try dsimp only);repeat (first|exact aK.up t6 or|refine aK.aAh ?_ or _|refine aK.del ?_|refine aK.aAb ?_ _)),u2⟩ ?_
     ·simp only[hne,hl1,hga,hms,go_sem,reduceIte,jA,jB,jC,jD,reduceCtorEq,jE,jF]
     ·exact(by(try dsimp only);repeat' (first|exact t5|exact Acc.new _ Zm or|exact kE.new or|exact aK.aEJ t6 or|exact gJ|exact jU (by assumption)|refine gH or ?_|refine gI ?_|refine Acc.set ?_ ?_ _|refine kE.set ?_ ?_ _))
     simp only[WkL,aB,jH,jI,jJ,lV,wes,go_sem,reduceIte,jA,jB,jC,jD,reduceCtorEq,jE,jF]
    have hc0:decide ((0:Int)<l[j].p.a)=true:=decide_eq_true or;rw[if_neg h0] at zt zd;rw[Ks] at zt;rw[jQ] at zd
    (repeat' (first|(with_reducible first|refine stp ?_|refine bG ZM ?_|refine iI (fun _=>?_) (fun _=>?_))|((first|(with_reducible refine fO ?_;first|refine eH rfl ?_ ?_|refine Zx ?_)|(with_reducible refine fP ?_;first|refine bY rfl ?_ ?_|refine ZX ?_)|refine Zy ?_)<;>try simp only[hc4,hg,hw,aBg,htn,hl1,hik,hgr,hcf,hc0,lV,wes,jK,jG,go_sem,reduceIte,jA,jB,jC,jD,reduceCtorEq,jE,jF])|refine ZY ?_|omega))
    rw[←hQ4];refine aF (j+1,ah4,rw4,o4) Zw ⟨aBg,or,?_,(by(try dsimp only);repeat (first|exact t4|refine aV ?_ or _|refine aW ?_ or)),?_,(by(try dsimp only);repeat (first|exact aK.up t6 or|refine aK.aAh ?_ or _|refine aK.del ?_|refine aK.aAb ?_ _)),by dsimp only;rw[zt,←zd];exact t7⟩ ?_
    ·simp only[hne,t3,go_sem,reduceIte,jA,jB,jC,jD,reduceCtorEq,jE,jF]
    ·exact(by(try dsimp only);repeat' (first|exact t5|exact Acc.new _ Zm or|exact kE.new or|exact aK.aEJ t6 or|exact gJ|exact jU (by assumption)|refine gH or ?_|refine gI ?_|refine Acc.set ?_ ?_ _|refine kE.set ?_ ?_ _))
    simp only[WkL,aB,jH,jI,jJ,lV,wes,go_sem,reduceIte,jA,jB,jC,jD,reduceCtorEq,jE,jF]
   have hcf:((l[j].f:Int) != (k:Int))=true:=by simp;omega
   have hK':KIn n (zE l) (zE (l.take (j+1))) (zE (l.drop (j+1))) i3 k ah4 rw4:=by
    by_cases h0:l[j].p.a=0
    ·rw[if_pos h0] at zt zd;rw[zd] at t7;rw[zt];exact t7.other hfk
    rw[if_neg h0] at zt zd;rw[Ks] at zt;rw[jQ] at zd;rw[zt,←zd];exact t7
   (repeat' (first|(with_reducible first|refine stp ?_|refine bG ZM ?_|refine iI (fun _=>?_) (fun _=>?_))|((first|(with_reducible refine fO ?_;first|refine eH rfl ?_ ?_|refine Zx ?_)|(with_reducible refine fP ?_;first|refine bY rfl ?_ ?_|refine ZX ?_)|refine Zy ?_)<;>try simp only[hc4,hg,hw,aBg,htn,hl1,hik,hgr,hcf,lV,wes,jK,jG,go_sem,reduceIte,jA,jB,jC,jD,reduceCtorEq,jE,jF])|refine ZY ?_|omega))
   rw[←hQ4];refine aF (j+1,ah4,rw4,o4) Zw ⟨aBg,or,?_,(by(try dsimp only);repeat (first|exact t4|refine aV ?_ or _|refine aW ?_ or)),?_,(by(try dsimp only);repeat (first|exact aK.up t6 or|refine aK.aAh ?_ or _|refine aK.del ?_|refine aK.aAb ?_ _)),hK'⟩ ?_
   ·simp only[hne,t3,go_sem,reduceIte,jA,jB,jC,jD,reduceCtorEq,jE,jF]
   ·exact(by(try dsimp only);repeat' (first|exact t5|exact Acc.new _ Zm or|exact kE.new or|exact aK.aEJ t6 or|exact gJ|exact jU (by assumption)|refine gH or ?_|refine gI ?_|refine Acc.set ?_ ?_ _|refine kE.set ?_ ?_ _))
   simp only[WkL,aB,jH,jI,jJ,lV,wes,go_sem,reduceIte,jA,jB,jC,jD,reduceCtorEq,jE,jF]
  have hc4:decide ((j:Int)<(l.length:Int))=false:=decide_eq_false or;have hw3:IntKind.i64.wrap ((i3:Int)+1)=((i3+1:Nat):Int):=by rw[aY]<;>omega
  rw[show j=l.length by omega,Ki,List.drop_length] at t7;have hik:i3<rw4.length:=(KC.1 t7.hk).1;refine aue (ee2 hc4 hw3) ?_;rw[←hQ4];refine aue (ee2 hc4 hw3) ?_;rw[←hQ3];refine aF (i3+1,ah4,rw4,o4) Zw ⟨hik,t2,t3,t4,t5,t6,t7.finish⟩ ?_;simp only[WkL,aB,jH,jI,jJ,lV,wes,go_sem,reduceIte,jA,jB,jC,jD,reduceCtorEq,jE,jF]
 have hc3:decide ((i3:Int)<(rw3.length:Int))=false:=decide_eq_false or;rw[show i3=rw3.length by omega] at s7;have aNh:=s7.done (C8 aAH)
 (repeat' (first|(with_reducible first|refine stp ?_|refine bG ZM ?_|refine iI (fun _=>?_) (fun _=>?_))|((first|(with_reducible refine fO ?_;first|refine eH rfl ?_ ?_|refine Zx ?_)|(with_reducible refine fP ?_;first|refine bY rfl ?_ ?_|refine ZX ?_)|refine Zy ?_)<;>try simp only[hc3,lV,wes,jK,go_sem,reduceIte,jA,jB,jC,jD,reduceCtorEq,jE,jF])|refine ZY ?_|omega))
 rw[←hQ3]
 (repeat' (first|(with_reducible first|refine stp ?_|refine bG ZM ?_|refine iI (fun _=>?_) (fun _=>?_))|((first|(with_reducible refine fO ?_;first|refine eH rfl ?_ ?_|refine Zx ?_)|(with_reducible refine fP ?_;first|refine bY rfl ?_ ?_|refine ZX ?_)|refine Zy ?_)<;>try simp only[hc3,lV,wes,jK,go_sem,reduceIte,jA,jB,jC,jD,reduceCtorEq,jE,jF])|refine ZY ?_|omega))
 refine aG h' (s4.le hd (Ka _)) ⟨?_,rfl⟩;refine Zn ?_;congr 1;rw[KD,yG,decide_eq_true_iff];rw[show((rw3.length:Int)<(n:Int))↔rw3.length<n by omega];exact aNh
end Go.Proofs.YtecepaehmojpgaaGreat
