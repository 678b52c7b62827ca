/-
Texts of this proof,one behind the other. No conditions.
-/
import Derived.Test.YtecepaehmojpgaaGreatNf
import Derived.Test.YtecepaehmojpgaaGreatNd
import Derived.Test.YtecepaehmojpgaaGreatNe
import Derived.Test.YtecepaehmojpgaaGreatNg
import Derived.Test.YtecepaehmojpgaaGreatNi
open Go.Proofs.YtecepaehmojpgaaGreat.Tm renaming v→Ka,less→Kc,le→Ke
open Go.Proofs.YtecepaehmojpgaaGreat.Hp renaming le_refl→Kb
open List renaming mem_append→Kd,getElem?_eq_getElem→Kf,takeWhile_cons→Kg,dropWhile_cons→Kh,pairwise_cons→Ki,length_append→Kj,take_succ_eq_append_getElem→Kk,takeWhile_append_dropWhile→Ko,map_nil→Kp,getElem?_eq_some_iff→Kt,mem_of_getElem?→Kx,map_cons→Ky,mem_cons→Kz,getElem_of_mem→KB,mem_singleton→KC,any_eq_false→KD,take_length→KE,length_take→KF,length_drop→KG,map_append→KH,nil_append→KI,range→KJ,any_nil→KM
open Nat renaming le_refl→Km,zero_le→Kw,le_trans→KL
open Bool renaming false_eq_true→Kq,not_eq_true'→Ks,and_eq_true→Ku,eq_iff_iff→Kv,true_and→KK
open Nat renaming reduceAdd→jA,reduceSub→jB,reduceLT→jC,reduceLeDiff→jD,reduceEqDiff→jE
open Int renaming reduceToNat→jF,toNat_natCast→jG,natCast_add→jH,natCast_one→jI,natCast_zero→jJ
open List renaming length_map→jK,length_cons→jL,length_nil→jM,replicate_succ→jN,replicate_zero→jO,cons_append→jP,nil_append→jQ
set_option linter.unusedSimpArgs false
set_option linter.unusedVariables false
set_option linter.unusedSectionVars false
set_option maxHeartbeats 8000000
namespace Go.Proofs.YtecepaehmojpgaaGreat
open Go.RowKit
attribute [local go_sem] qE jV aA.ok aA.next LOp.ok LOp.next bL.ok bL.out aO.ev bN kv lZ kZ sC V.fits V.aAD V.cells V.cell V.undef cR bV bU Sh.size Hp.set Hp.del oU iN pT dZ aA.dok aA.aDx LOp.dok LOp.aFr nm fi kG cU zS Hp.aBO veq iP iQ List.take_succ_cons List.take_zero List.take_nil List.drop_succ_cons List.drop_zero List.drop_nil List.set_cons_succ List.set_cons_zero List.getD_cons_succ List.getD_cons_zero jL jM Ky Kp List.all_cons List.all_nil Kz List.not_mem_nil jN jO jP jQ List.append_nil List.isEmpty_cons List.isEmpty_nil fW fE tI Option.getD_some Option.isSome_some Option.isSome_none Nat.add_eq Nat.zero_add Nat.add_zero true_and and_true and_self true_implies implies_true false_implies forall_const forall_eq forall_eq_or_imp ne_eq not_false_eq_true not_true_eq_false Bool.not_true Bool.not_false decide_true decide_false Bool.and_true KK Bool.and_false Bool.false_and true_or or_true false_or or_false eq_self Kq CD yk mF aB eA fB iC rM oO rL iZ kP eJ jG Int.toNat_zero KE
theorem gr(x t:Tm)(n:Nat)(h:Hp)(hn:h n=some (.arr (.agg 2) [t.v])):aX Tryz.prog 112 [x.v, .ptr n (.agg 2) 0 0] h (.bool (x.le t)):=by
 refine aP (fun L=>trivial) fun h' nx hh=>aD L.aU2 fun hd=>?_;simp only[jL,jM,jA,jB,jN,jO,jP,jQ,V.undef];have hn':=hh _ _ hn rfl;have hlt:=hd _ _ hn';have hne:(n=nx)=False:=by simp;omega
 have aTB:(n=nx+1)=False:=by simp;omega
 refine bH (bM ?_);refine aZ 2 rfl (by simp only[L.aEm,Ka,go_sem,reduceIte,jA,jB,jC,jD,reduceCtorEq,jE,jF];try omega) ?_;simp only[L.aEm,Ka,go_sem,reduceIte,jA,jB,jC,jD,reduceCtorEq,jE,jF];refine aM (bH (bM ?_));simp only[Ka] at hn';refine aZ 2 rfl (by simp only[L.aCg,Ka,hn',hne,go_sem,reduceIte,jA,jB,jC,jD,reduceCtorEq,jE,jF];try omega) ?_;simp only[L.aCg,Ka,hn',hne,go_sem,reduceIte,jA,jB,jC,jD,reduceCtorEq,jE,jF];refine aQ (zQ x t _) (by simp only[Ka,go_sem,reduceIte,jA,jB,jC,jD,reduceCtorEq,jE,jF]) (aU _) ?_;refine Zn ?_;refine aZ 1 rfl (by simp only[L.aCg,go_sem,reduceIte,jA,jB,jC,jD,reduceCtorEq,jE,jF];try omega) ?_;simp only[L.aCg,go_sem,reduceIte,jA,jB,jC,jD,reduceCtorEq,jE,jF];refine aM (bT (aG h' (aH hd (Kb _) or _) ⟨?_,rfl⟩));simp only[go_sem,reduceIte,jA,jB,jC,jD,reduceCtorEq,jE,jF]
theorem ml(own:Own)(l:List Tm)(t:Tm)(h:Hp)(hl:l.length≤1000000):aX Tryz.prog 78 [tms own l,t.v] h (.bool (l.any fun x=>x.le t)):=by
 refine aP (fun L=>trivial) fun h' nx hh=>aD L.aVZ fun hd=>?_;simp only[jL,jM,jA,jB,jN,jO,jP,jQ,V.undef];refine bH (bM ?_);refine aZ 2 rfl (by simp only[L.aE5,Ka,go_sem,reduceIte,jA,jB,jC,jD,reduceCtorEq,jE,jF];try omega) ?_;simp only[L.aE5,Ka,go_sem,reduceIte,jA,jB,jC,jD,reduceCtorEq,jE,jF];refine aM (bH (bM ?_));refine aZ 2 rfl (by simp only[L.aCh,Ka,go_sem,reduceIte,jA,jB,jC,jD,reduceCtorEq,jE,jF];try omega) ?_;simp only[L.aCh,Ka,go_sem,reduceIte,jA,jB,jC,jD,reduceCtorEq,jE,jF];refine aQ (wY (fun x=>x.le t) own l _ _ _ (fun x=>gr x t nx _ (by simp[Ka,Hp.set])) hl) (by simp only[Ka,go_sem,reduceIte,jA,jB,jC,jD,reduceCtorEq,jE,jF]) (aU _) ?_;refine Zn ?_;refine aZ 1 rfl (by simp only[L.aCh,go_sem,reduceIte,jA,jB,jC,jD,reduceCtorEq,jE,jF];try omega) ?_;simp only[L.aCh,go_sem,reduceIte,jA,jB,jC,jD,reduceCtorEq,jE,jF];refine aM (bT (aG h' (aH hd (Kb _) or _) ⟨?_,rfl⟩));simp only[go_sem,reduceIte,jA,jB,jC,jD,reduceCtorEq,jE,jF]
end Go.Proofs.YtecepaehmojpgaaGreat
namespace Go.Proofs.YtecepaehmojpgaaGreat
open Go.RowKit Go.Sort
theorem Tm.aAC(t:Tm):t.v.fits (.agg 2)=true:=by simp[Ka,V.fits,V.aAD]
theorem wH:aJ Tryz.prog 140=some (LB.aBD (.agg 2) 152 153):=Zz
theorem c8:aJ Tryz.prog 152=some (LB.Collect (.agg 2) 182):=Zz
theorem yC:aJ Tryz.prog 182=some (LB.aAy (.agg 2) (.agg [.int .i64 0, .int .i64 0]) 16):=Zz
theorem g6:aJ Tryz.prog 141=some (LB.aFW (.agg 2) 154):=Zz
theorem zY:aJ Tryz.prog 154=some (LB.aCG (.agg 2) (.agg [.int .i64 0, .int .i64 0])):=Zz
def nD(a b:Tm):Int:=orI [lA a.e b.e,lA a.r b.r]
theorem ka(a b:Tm):aX Tryz.prog 126 [a.v,b.v] Hp.none (.int .i64 (nD a b)):=by
 refine aP (fun L=>trivial) fun h' nx hh=>aD L.aUk fun hd=>?_;simp only[jL,jM,jA,jB,jN,jO,jP,jQ,V.undef];refine wle Tm.v.eq_1 ?_;refine dJ rfl ?_;refine bY rfl (by simp only[Ka,go_sem,reduceIte,jA,jB,jC,jD,reduceCtorEq,jE,jF];try omega) ?_;simp only[Ka,go_sem,reduceIte,jA,jB,jC,jD,reduceCtorEq,jE,jF];refine bJ (pX pK af a.e b.e Hp.none) rfl (bK _) ?_;refine bY rfl (by simp only[Ka,go_sem,reduceIte,jA,jB,jC,jD,reduceCtorEq,jE,jF];try omega) ?_;simp only[Ka,go_sem,reduceIte,jA,jB,jC,jD,reduceCtorEq,jE,jF];refine bJ (pX pK af a.r b.r Hp.none) rfl (bK _) ?_;refine bY rfl (by simp only[Ka,go_sem,reduceIte,jA,jB,jC,jD,reduceCtorEq,jE,jF];try omega) ?_;simp only[Ka,go_sem,reduceIte,jA,jB,jC,jD,reduceCtorEq,jE,jF];refine bJ (xV xZ _ [lA a.e b.e,lA a.r b.r] Zm Hp.none) rfl (bK _) ?_;refine bY rfl (by simp only[Ka,go_sem,reduceIte,jA,jB,jC,jD,reduceCtorEq,jE,jF];try omega) ?_;simp only[Ka,go_sem,reduceIte,jA,jB,jC,jD,reduceCtorEq,jE,jF];refine cD (cQ ?_);refine Zn ?_;refine aM (bT (aG h' ?_ ⟨rfl,rfl⟩));exact(by repeat (first|exact Kb _|refine aH hd ?_ or _|refine aL hd ?_ or))
theorem oQ:(∀a b,lA a b<0↔a<b)∧∀a b,lA a b=0↔a=b:=by
 constructor<;>intro a b<;>unfold lA<;>(repeat' split)<;>omega
theorem ze(a b:Tm):(nD a b<0)↔(a.e<b.e∨(a.e=b.e∧a.r<b.r)):=by
 have h1:=oQ.1 a.e b.e;have h2:=oQ.2 a.e b.e;have h3:=oQ.1 a.r b.r;unfold nD orI;split
 ·rename_i h0;have he:=h2.1 h0;unfold orI;split
  ·rename_i h4;have:=(oQ.2 a.r b.r).1 h4;unfold orI;omega
  omega
 rename_i h0;have:a.e≠b.e:=fun h=>h0 (h2.2 h);omega
theorem xY(a b:Tm):ltOf nD a b=decide (a.e<b.e∨(a.e=b.e∧a.r<b.r)):=by
 unfold ltOf;rw[Kv];simp[ze]
theorem pj:SWO (ltOf nD):=by
 refine⟨fun x=>?_,fun x y z=>?_,fun x y z=>?_⟩<;>simp only[xY,decide_eq_true_eq,decide_eq_false_iff_not]<;>omega
theorem Be(x y:Tm)(h1:ltOf nD x y=false)(h2:ltOf nD y x=false):x=y:=by
 simp only[xY,decide_eq_false_iff_not] at h1 h2;cases x;cases y;simp only[Tm.mk.injEq] at*;omega
theorem gk(own:Own)(l:List Tm)(hl:l.length≤1000000):
 aX Tryz.prog 140 [.fn (.func 154) [] [.ept .leaf [(tms own l).loose] 0 0], .fn (.func 126) [] []] Hp.none (lst (.agg 2) ((dV nD l).map Ka)):=by
 have hs:∃aDa,(tms own l).loose=tms aDa l:=by cases own<;>exact⟨_,rfl⟩
 obtain⟨aDa,hs⟩:=hs;rw[hs]
 exact zV Ka Di Tm.aAC (fun x L=>x.aAM L) (by intro w;exact Tryz.isAgg35 w) (by intro w;exact Tryz.sizeOf35 w) Zz wH c8 yC rfl or rfl _ _ Hp.none l
  (vJ Ka Tm.aAC zY rfl aDa l or) or nD pj Be _ [] (fun x y=>by simpa using ka x y)
def iW:List Tm→List Tm→List Tm
 |out,[]=>out
 |out,t::l=>iW (if t.ok&& !(out.any fun x=>x.le t) then out++[t] else out) l
def ofT(l:List Tm):List Tm:=iW [] (dV nD l)
theorem qv(out l:List Tm):(iW out l).length≤out.length+l.length:=by
 induction l generalizing out with
 |nil=>simp[iW]
 |cons t l ih=>
  unfold iW;refine KL (ih _) ?_;split<;>simp<;>omega
theorem CC(l:List Tm):(ofT l).length≤l.length:=by
 have:=qv [] (dV nD l);simpa [ofT,(dU nD l).length_eq] using this
theorem jk(out l:List Tm)(t:Tm):iW out (l++[t])=if (t.ok&& !((iW out l).any fun x=>x.le t))=true then iW out l++[t] else iW out l:=by
 induction l generalizing out with
 |nil=>simp[iW]
 |cons x l ih=>simp only[jP,iW];exact ih _
theorem ny(own:Own)(l:List Tm)(hl:l.length≤1000000)(h:Hp):aX Tryz.prog 110 [tms own l] h (lst (.agg 2) ((ofT l).map Ka)):=by
 refine dI (fun L=>cP (fun L=>bE (Tm.aAM L) _) L) fun h' nx hh=>aD L.aU4 fun hd=>?_;simp only[jL,jM,jA,jB,jN,jO,jP,jQ,V.undef];refine wl ?_;refine aQ (bd g6 own (l.map Ka) (fun L=>bE (Tm.aAM L) _) Hp.none) rfl (bK _) ?_;refine Zn ?_;refine aQ (gk own l hl) rfl (bK _) ?_;refine Zn ?_;obtain⟨S,hS⟩:∃S,S=dV nD l:=⟨_,rfl⟩;have hSl:S.length=l.length:=by rw[hS];exact(dU nD l).length_eq
 rw[←hS];obtain⟨ow,how⟩:=mQ (.agg 2) (S.map Ka);rw[how];refine wle trivial ?_;obtain⟨C,hC⟩:∃C:Nat×Own→Hp→Nat→Prop,∀i o hp nx1,C (i,o) hp nx1↔(i≤S.length∧h'.le hp∧nx≤nx1∧aK hp nx1∧((o= .nil∧iW [] (S.take i)=[])∨∃id,nx≤id∧o= .tok id∧hp id=some .tip∧iW [] (S.take i)≠ [])):=⟨fun p hp nx1=>(p.1≤S.length∧h'.le hp∧nx≤nx1∧aK hp nx1∧((p.2= .nil∧iW [] (S.take p.1)=[])∨∃id,nx≤id∧p.2= .tok id∧hp id=some .tip∧iW [] (S.take p.1)≠ [])),fun _ _ _ _=>Iff.rfl⟩;refine aT (fun p=>aB 28 0 [(3,tms p.2 (iW [] (S.take p.1))),(8, .sl (.agg 2) ow (S.map Ka)),(9, .int .i64 S.length),(10, .int .i64 p.1)]) C (fun p=>S.length-p.1) (0, .nil) ((hC _ _ _ _).2 ⟨Kw _,Kb _,Km _,hd, .inl ⟨rfl,by simp[iW]⟩⟩) ?_ ?_
 ·simp only[WkL,aB,jH,jI,jJ,iW,tms,go_sem,reduceIte,jA,jB,jC,jD,reduceCtorEq,jE,jF]
 rintro⟨i,o⟩ hp nx1 hCi;obtain⟨hi,hle,hnx,hdm,aCd⟩:=(hC _ _ _ _).1 hCi;simp only[aB,go_sem,reduceIte,jA,jB,jC,jD,reduceCtorEq,jE,jF];refine wl ?_;refine cH _ rfl (fun hc=>?_) (fun hc=>?_)
 ·have hlt:i<S.length:=by simpa using hc
  have hg:=bI Ka S i hlt;have htk:S.take (i+1)=S.take i++[S[i]]:=Kk hlt;have hlen:(iW [] (S.take i)).length≤1000000:=KL (qv _ _) (by simp;omega);refine wle (ee2 hg Tm.aAC) ?_;refine aQ (pC S[i] _) rfl (aU _) ?_;refine Zn ?_;refine wl ?_;refine CI (S[i].ok) rfl rfl ?sl ?h1 ?h2;case h1=>
   intro hgd;simp only[Tm.aAC,go_sem,reduceIte,jA,jB,jC,jD,reduceCtorEq,jE,jF];refine wle Tm.aAC ?_;refine aQ (ml o (iW [] (S.take i)) S[i] _ hlen) rfl (aU _) ?_;refine Zn ?_;refine wl ?_;exact rfl
  refine Zn ?_;refine wl ?_;refine cH _ rfl (fun hc=>?_) (fun hc=>?_)
  ·have aCe:iW [] (S.take (i+1))=iW [] (S.take i)++[S[i]]:=by
    rw[htk,jk,if_pos];revert hc;cases S[i].ok<;>simp
   rcases aCd with⟨rfl,aBx⟩|⟨id,hid,rfl,aBm,hne⟩
   ·rw[aBx] at aCe⊢;repeat (first|with_reducible refine bH ?_|with_reducible refine dN ?_|with_reducible refine eG ?_|with_reducible refine aM ?_|with_reducible refine cC ?_|with_reducible refine bM ?_|(refine fV rfl (by simp only[tms,Tm.aAC,eJ,Kp,go_sem,reduceIte,jA,jB,jC,jD,reduceCtorEq,jE,jF];try omega) ?_;simp only[tms,Tm.aAC,eJ,Kp,go_sem,reduceIte,jA,jB,jC,jD,reduceCtorEq,jE,jF])|(with_reducible refine eN ?_))
    rw[aY or or];refine aF (i+1, .tok (nx1+3)) (by simp only;omega) ((hC _ _ _ _).2 ⟨or,?_,or,?_, .inr ⟨nx1+3,or,rfl,?_,by rw[aCe];simp⟩⟩) ?_
    ·repeat (first|exact hle|refine kN ?_ (aK.none hd or) _|refine tZ ?_ (aK.none hd or))
    ·repeat (first|exact aK.up hdm or|refine aK.aAh ?_ or _|refine aK.del ?_)
    ·simp only[go_sem,reduceIte,jA,jB,jC,jD,reduceCtorEq,jE,jF]
    simp only[WkL,aB,jH,jI,jJ,tms,aCe,Kp,go_sem,reduceIte,jA,jB,jC,jD,reduceCtorEq,jE,jF]
   have aF3:=hdm _ _ aBm;have f1:(id=nx1)=False:=by simp;omega
   have f2:(id=nx1+2)=False:=by simp;omega
   have hb1:((iW [] (S.take i)).length+1)*16≤140737488355328:=or;repeat (first|with_reducible refine bH ?_|with_reducible refine dN ?_|with_reducible refine eG ?_|with_reducible refine aM ?_|with_reducible refine cC ?_|with_reducible refine bM ?_|(refine fV rfl (by simp only[tms,Tm.aAC,eJ,jK,hb1,f1,f2,aBm,go_sem,reduceIte,jA,jB,jC,jD,reduceCtorEq,jE,jF];try omega) ?_;simp only[tms,Tm.aAC,eJ,jK,hb1,f1,f2,aBm,go_sem,reduceIte,jA,jB,jC,jD,reduceCtorEq,jE,jF])|(with_reducible refine eN ?_))
   rw[aY or or];refine aF (i+1, .tok (nx1+3)) (by simp only;omega) ((hC _ _ _ _).2 ⟨or,?_,or,?_, .inr ⟨nx1+3,or,rfl,?_,by rw[aCe];simp⟩⟩) ?_
   ·repeat (first|exact hle|refine kN ?_ (aK.none hd or) _|refine tZ ?_ (aK.none hd or))
   ·repeat (first|exact aK.up hdm or|refine aK.aAh ?_ or _|refine aK.del ?_)
   ·simp only[go_sem,reduceIte,jA,jB,jC,jD,reduceCtorEq,jE,jF]
   simp only[WkL,aB,jH,jI,jJ,tms,aCe,KH,Ky,Kp,go_sem,reduceIte,jA,jB,jC,jD,reduceCtorEq,jE,jF]
  have aCe:iW [] (S.take (i+1))=iW [] (S.take i):=by
   rw[htk,jk,if_neg];revert hc;cases S[i].ok<;>simp
  refine wl ?_;rw[aY or or];refine aF (i+1,o) (by simp only;omega) ((hC _ _ _ _).2 ⟨or,?_,or,?_,?_⟩) ?_
  ·repeat (first|exact hle|refine kN ?_ (aK.none hd or) _|refine tZ ?_ (aK.none hd or))
  ·repeat (first|exact aK.up hdm or|refine aK.aAh ?_ or _|refine aK.del ?_)
  ·rw[aCe];rcases aCd with h1|⟨id,hid,h1,aBm,hne⟩
   ·exact .inl h1
   have aF3:=hdm _ _ aBm;have f1:(id=nx1)=False:=by simp;omega
   exact .inr ⟨id,hid,h1,by simp only[aBm,f1,go_sem,reduceIte,jA,jB,jC,jD,reduceCtorEq,jE,jF],hne⟩
  simp only[WkL,aB,jH,jI,jJ,tms,aCe,go_sem,reduceIte,jA,jB,jC,jD,reduceCtorEq,jE,jF]
 have hge:i=S.length:=by have:¬i<S.length:=by simpa using hc
                         omega
 refine fT ?_;repeat (first|with_reducible refine eC ?_|with_reducible refine dM ?_|with_reducible refine dG ?_|with_reducible refine bG ZM ?_|with_reducible refine cZ ?_|with_reducible refine aM ?_)
 refine wl ?_;refine bT (aG hp (Kb _) ⟨?_,hle⟩);refine Zn ?_;rw[hge,KE] at aCd⊢;rw[hS,show iW [] (dV nD l)=ofT l from rfl] at aCd⊢;rcases aCd with⟨rfl,h1⟩|⟨id,hid,rfl,aBm,hne⟩
 ·rw[h1];rfl
 generalize ofT l=r at hne⊢;cases r with
 |nil=>exact absurd rfl hne
 |cons x r=>rfl
end Go.Proofs.YtecepaehmojpgaaGreat
namespace Go.Proofs.YtecepaehmojpgaaGreat
open Go.RowKit Go.Sort
theorem Tm.aAY(a:Tm):a.less a=false:=by simp[Kc]
theorem Tm.aAt(a b:Tm)(h1:a.less b=false)(h2:b.less a=false):a=b:=by
 cases a;cases b;simp[Kc] at*;omega
theorem Tm.aAi{a b c:Tm}(h1:a.less b=true)(h2:b.less c=true):a.less c=true:=by
 simp[Kc] at*;omega
theorem Tm.aJB{a b:Tm}(h:a.le b=true):b.less a=false:=by
 simp[Kc,Ke] at*;omega
theorem Tm.le_refl(a:Tm):a.le a=true:=by simp[Ke]
theorem Tm.le_trans{a b c:Tm}(h1:a.le b=true)(h2:b.le c=true):a.le c=true:=by
 simp[Ke] at*;omega
def qD(l:List Tm)(x:Tm):Prop:=x∈l∧x.ok=true∧∀y∈l,y.ok=true→y.le x=true→y=x
def kU(l:List Tm):Prop:=l.Pairwise fun a b=>a.less b=true
theorem sU{a b:List Tm}(ha:kU a)(hb:kU b)(h:∀x,x∈a↔x∈b):a=b:=by
 have nd:∀{l:List Tm},kU l→l.Nodup:=fun hl=>hl.imp (fun{x y} hxy e=>by subst e;rw[Tm.aAY] at hxy;cases hxy);refine List.Perm.eq_of_pairwise (le:=fun(u v:Tm)=>u.less v=true) (fun x y _ _ h1 h2=>?_) ha hb ((List.perm_ext_iff_of_nodup (nd ha) (nd hb)).2 h);have:=Tm.aAi h1 h2;rw[Tm.aAY] at this;cases this
theorem qw:∀(rest pre out:List Tm),(∀x∈pre,∀y∈rest,y.less x=false)→rest.Pairwise (fun x y=>y.less x=false)→kU out→(∀x,x∈out↔qD pre x)→(∀y∈pre,y.ok=true→∃z∈out,z.le y=true)→
 kU (iW out rest)∧∀x,x∈iW out rest↔qD (pre++rest) x
 | [],pre,out,_,_,hs,hm,_=>by simpa [iW] using⟨hs,hm⟩
 |t::rest,pre,out,h1,h2,hs,hm,hc=>by
  have h2':=Ki.1 h2;have low:∀x∈pre,t.le x=true→t=x:=fun x hx hle=>(Tm.aAt _ _ (h1 x hx t Zm) (Tm.aJB hle));have key:∀aHN,kU aHN→(∀x,x∈aHN↔qD (pre++[t]) x)→(∀y∈pre++[t],y.ok=true→∃z∈aHN,z.le y=true)→kU (iW aHN rest)∧∀x,x∈iW aHN rest↔qD (pre++t::rest) x:=by
   intro aHN q1 q2 q3;have:=qw rest (pre++[t]) aHN (fun x hx y hy=>by
    rcases Kd.1 hx with hx|hx
    ·exact h1 x hx y (by simp[hy])
    have:x=t:=by simpa using hx
    subst this;exact h2'.1 y hy) h2'.2 q1 q2 q3
   simpa using this
  unfold iW;split
  ·rename_i hk;simp only[Ku,Ks,KD] at hk;obtain⟨hok,hno⟩:=hk;have aTA:∀x∈out,x.le t=false:=fun x hx=>by simpa using hno x hx
   refine key _ ?_ ?_ ?_
   ·refine List.pairwise_append.2 ⟨hs,Zm,fun x hx y hy=>?_⟩;have:y=t:=by simpa using hy
    subst this;have hxp:=((hm x).1 hx).1;cases hl:x.less y with
    |true=>rfl
    |false=>
     have:=Tm.aAt _ _ hl (h1 x hxp y Zm);subst this;have:=aTA x hx;rw[Tm.le_refl] at this;cases this
   ·intro x;simp only[Kd,KC];constructor
    ·rintro(hx|rfl)
     ·obtain⟨a,b,c⟩:=(hm x).1 hx;refine⟨by simp[a],b,fun y hy hyo hyl=>?_⟩;rcases Kd.1 hy with hy|hy
      ·exact c y hy hyo hyl
      have:y=t:=by simpa using hy
      subst this;exact low x a hyl
     refine⟨Zm,hok,fun y hy hyo hyl=>?_⟩;rcases Kd.1 hy with hy|hy
     ·obtain⟨z,hz,hzl⟩:=hc y hy hyo;have:=aTA z hz;rw[Tm.le_trans hzl hyl] at this;cases this
     simpa using hy
    rintro⟨a,b,c⟩;rcases Kd.1 a with hx|hx
    ·exact .inl ((hm x).2 ⟨hx,b,fun y hy=>c y (by simp[hy])⟩)
    exact .inr (by simpa using hx)
   intro y hy hyo;rcases Kd.1 hy with hy|hy
   ·obtain⟨z,hz,hzl⟩:=hc y hy hyo;exact⟨z,by simp[hz],hzl⟩
   have:y=t:=by simpa using hy
   subst this;exact⟨y,Zm,Tm.le_refl _⟩
  rename_i hk;have hk':t.ok=true→∃z∈out,z.le t=true:=fun hok=>by
   simp only[hok,KK,Ks,Bool.not_eq_false] at hk;obtain⟨z,hz,hzl⟩:=List.any_eq_true.1 hk;exact⟨z,hz,hzl⟩
  refine key _ hs ?_ ?_
  ·intro x;constructor
   ·intro hx;obtain⟨a,b,c⟩:=(hm x).1 hx;refine⟨by simp[a],b,fun y hy hyo hyl=>?_⟩;rcases Kd.1 hy with hy|hy
    ·exact c y hy hyo hyl
    have:y=t:=by simpa using hy
    subst this;exact low x a hyl
   rintro⟨a,b,c⟩;rcases Kd.1 a with hx|hx
   ·exact(hm x).2 ⟨hx,b,fun y hy=>c y (by simp[hy])⟩
   have:x=t:=by simpa using hx
   subst this;obtain⟨z,hz,hzl⟩:=hk' b;have hz':=(hm z).1 hz;have:=c z (by simp[hz'.1]) hz'.2.1 hzl;rwa [this] at hz
  intro y hy hyo;rcases Kd.1 hy with hy|hy
  ·exact hc y hy hyo
  have:y=t:=by simpa using hy
  subst this;exact hk' hyo
def rF(l:List Tm)(i:Nat)(t:Tm):Bool:=t.ok&& !((KJ l.length).any fun k=>match l[k]? with|some y=>y.ok&&y.le t&&(decide (y≠t)||decide (k<i))|none=>false)
def g7(out:List Tm)(t:Tm):List Tm:=out.takeWhile (·.less t)++t::out.dropWhile (·.less t)
def cT(l:List Tm):Nat→List Tm
 |0=>[]
 |i+1=>match l[i]? with
  |some t=>if rF l i t=true then g7 (cT l i) t else cT l i
  |none=>cT l i
theorem sa(out:List Tm)(t x:Tm):x∈g7 out t↔x=t∨x∈out:=by
 unfold g7;conv=>rhs;rw[←Ko (p:=fun x:Tm=>x.less t) (l:=out)]
 simp only[Kd,Kz];constructor
 ·rintro(h|h|h)<;>simp[h]
 rintro(h|h|h)<;>simp[h]
theorem r9{out:List Tm}{t:Tm}(hs:kU out)(hn:t∉out):kU (g7 out t):=by
 induction out with
 |nil=>simp[g7,kU]
 |cons a out ih=>
  have hs':=Ki.1 hs;have hn':t≠a∧t∉out:=by simpa using hn
  unfold g7;cases ha:a.less t with
  |true=>
   have:=ih hs'.2 hn'.2;simp only[Kg,Kh,ha,if_true,List.cons_append];refine Ki.2 ⟨fun y hy=>?_,this⟩;have hy':y∈g7 out t:=hy;rcases(sa out t y).1 hy' with rfl|hy
   ·exact ha
   exact hs'.1 y hy
  |false=>
   simp only[Kg,Kh,ha,Kq,if_false,KI];have hta:t.less a=true:=by
    cases h:t.less a with
    |true=>rfl
    |false=>exact absurd (Tm.aAt _ _ h ha) hn'.1
   refine Ki.2 ⟨fun y hy=>?_,hs⟩;rcases Kz.1 hy with rfl|hy
   ·exact hta
   exact Tm.aAi hta (hs'.1 y hy)
theorem sJ(l:List Tm)(i:Nat)(t:Tm):rF l i t=true↔t.ok=true∧∀k y,l[k]?=some y→y.ok=true→y.le t=true→y=t∧i≤k:=by
 unfold rF;simp only[Ku,Ks,KD,List.mem_range];constructor
 ·rintro⟨h1,h2⟩;refine⟨h1,fun k y hk ho hl=>?_⟩;have hlt:=(Kt.1 hk).1;have:=h2 k hlt;rw[hk] at this;simp[ho,hl] at this;exact⟨this.1,this.2⟩
 rintro⟨h1,h2⟩;refine⟨h1,fun k hk=>?_⟩;rw[Kf hk];simp only;intro hc;simp only[Ku,Bool.or_eq_true,decide_eq_true_eq] at hc;obtain⟨⟨a,b⟩,c⟩:=hc;obtain⟨q1,q2⟩:=h2 k l[k] (Kf hk) a b;rcases c with c|c
 ·exact c q1
 omega
theorem rX(l:List Tm):∀i,kU (cT l i)∧∀x,x∈cT l i↔∃j,j<i∧l[j]?=some x∧rF l j x=true
 |0=>⟨by simp[cT,kU],fun x=>by simp[cT]⟩
 |i+1=>by
  obtain⟨h1,h2⟩:=rX l i;have step:∀x,(∃j,j<i+1∧l[j]?=some x∧rF l j x=true)↔((∃j,j<i∧l[j]?=some x∧rF l j x=true)∨(l[i]?=some x∧rF l i x=true)):=by
   intro x;constructor
   ·rintro⟨j,hj,a,b⟩;by_cases e:j=i
    ·subst e;exact .inr ⟨a,b⟩
    exact .inl ⟨j,or,a,b⟩
   rintro(⟨j,hj,a,b⟩|⟨a,b⟩)
   ·exact⟨j,or,a,b⟩
   exact⟨i,or,a,b⟩
  unfold cT;split
  ·rename_i t ht;split
   ·rename_i hk;have hn:t∉cT l i:=fun hm=>by
     obtain⟨j,hj,a,b⟩:=(h2 t).1 hm;have:=((sJ l i t).1 hk).2 j t a ((sJ l i t).1 hk).1 (Tm.le_refl _);omega
    refine⟨r9 h1 hn,fun x=>?_⟩;rw[sa,step,h2,ht];constructor
    ·rintro(rfl|h)
     ·exact .inr ⟨rfl,hk⟩
     exact .inl h
    rintro(h|⟨h,_⟩)
    ·exact .inr h
    injection h with h;exact .inl h.symm
   rename_i hk;refine⟨h1,fun x=>?_⟩;rw[step,h2,ht];constructor
   ·exact .inl
   rintro(h|⟨h,hk2⟩)
   ·exact h
   injection h with h;subst h;exact absurd hk2 hk
  rename_i ht;refine⟨h1,fun x=>?_⟩;rw[step,h2,ht];simp
theorem yU(l:List Tm)(x:Tm):x∈cT l l.length↔qD l x:=by
 rw[(rX l l.length).2];constructor
 ·rintro⟨j,hj,a,b⟩;obtain⟨q1,q2⟩:=(sJ l j x).1 b;refine⟨Kx a,q1,fun y hy hyo hyl=>?_⟩;obtain⟨k,hk,rfl⟩:=KB hy;exact(q2 k _ (Kf hk) hyo hyl).1
 rintro⟨a,b,c⟩
 --the first place where it stands
 have hex:∃j:Nat,l[j]?=some x:=by
  obtain⟨k,hk,rfl⟩:=KB a;exact⟨k,Kf hk⟩
 have first:∃j:Nat,l[j]?=some x∧∀k:Nat,k<j→l[k]?≠some x:=by
  obtain⟨j,hj⟩:=hex;induction j using Nat.strongRecOn with
  |_ j ih=>
   by_cases h:∃k,k<j∧l[k]?=some x
   ·obtain⟨k,hk,hkx⟩:=h;exact ih k hk hkx
   exact⟨j,hj,fun k hk hkx=>h ⟨k,hk,hkx⟩⟩
 obtain⟨j,hj,aEf⟩:=first
 refine⟨j,(Kt.1 hj).1,hj,(sJ l j x).2 ⟨b,fun k y hk hyo hyl=>?_⟩⟩;have hy:=c y (Kx hk) hyo hyl;refine⟨hy,?_⟩;rcases Nat.lt_or_ge k j with h|h
 ·exact absurd (hy▸hk) (aEf k h)
 exact h
theorem xX(l:List Tm):ofT l=cT l l.length:=by
 have hs:=iS pj l;have hp:=dU nD l;have hl:∀a b:Tm,ltOf nD a b=a.less b:=fun a b=>by
  rw[xY,Kv];simp[Kc]
 have inv:=qw (dV nD l) [] [] (fun x hx=>by cases hx) (hs.imp fun{x y} h=>by rw[←hl];exact h) (by simp[kU]) (fun x=>by simp[qD]) (fun y hy=>by cases hy);refine sU inv.1 (rX l l.length).1 fun x=>?_;rw[yU];refine(inv.2 x).trans ?_;unfold qD;simp only[KI,hp.mem_iff]
end Go.Proofs.YtecepaehmojpgaaGreat
namespace Go.Proofs.YtecepaehmojpgaaGreat
open Go.RowKit
def pN(l:List Tm)(i:Nat)(t:Tm)(k:Nat):Bool:=t.ok&& !((KJ k).any fun k=>match l[k]? with|some y=>y.ok&&y.le t&&(decide (y≠t)||decide (k<i))|none=>false)
theorem zG(l:List Tm)(i:Nat)(t:Tm)(k:Nat)(hk:k<l.length):pN l i t (k+1)=(pN l i t k&& !(l[k].ok&&l[k].le t&&(decide (l[k]≠t)||decide (k<i)))):=by
 unfold pN;rw[List.range_succ,List.any_append];simp only[List.any_cons,KM,Bool.or_false,Kf hk];cases t.ok<;>cases ((KJ k).any fun k=>match l[k]? with|some y=>y.ok&&y.le t&&(decide (y≠t)||decide (k<i))|none=>false)<;>simp
theorem um(a b:Tm):veq (.plain (.agg 2) [.int, .int]) a.v b.v=some (decide (a=b)):=by
 have h1:((a.v).fits (.agg 2)&&(b.v).fits (.agg 2))=true:=by rw[a.aAC,b.aAC];rfl
 have h2:decide (a=b)=(a.e==b.e&&a.r==b.r):=by
  cases a;cases b;rw[Kv];simp
 rw[h2];simp only[veq,h1,if_true];simp[Ka,V.cells,iP,iQ]
theorem vI{α:Type}(p:α→Bool)(l:List α)(n:Nat)(hn:n≤l.length)(h1:∀x∈l.take n,p x=true)(h2:∀(h:n<l.length),p l[n]=false):l.takeWhile p=l.take n∧l.dropWhile p=l.drop n:=by
 induction l generalizing n with
 |nil=>simp at hn;subst hn;simp
 |cons a l ih=>
  cases n with
  |zero=>
   have:=h2 Zm;simp only[List.getElem_cons_zero] at this;simp[Kg,Kh,this]
  |succ n=>
   have ha:=h1 a Zm;obtain⟨q1,q2⟩:=ih n (by simpa using hn) (fun x hx=>h1 x (by simp[hx])) (fun h=>h2 (by simpa using h));simp[Kg,Kh,ha,q1,q2]
theorem i9(l:List Tm):∀i,(cT l i).length≤i
 |0=>by simp[cT]
 |i+1=>by
  have:=i9 l i;unfold cT;split
  ·split
   ·unfold g7;have e:∀t:Tm,((cT l i).takeWhile (·.less t)).length+((cT l i).dropWhile (·.less t)).length=(cT l i).length:=fun t=>by rw[←Kj,Ko]
    rename_i t _ _;have:=e t;simp only[Kj,jL];omega
   omega
  omega
set_option maxHeartbeats 4000000 in
theorem Bm(own:Own)(l:List Tm)(hl:l.length≤1000000)(h:Hp):aX Tryz.prog 89 [tms own l] h (lst (.agg 2) ((cT l l.length).map Ka)):=by
 refine dI (fun L=>cP (fun L=>bE (Tm.aAM L) _) L) fun h' nx hh=>aD L.aVP fun hd=>?_;simp only[jL,jM,jA,jB,jN,jO,jP,jQ,V.undef];refine wl ?_;obtain⟨C,hC⟩:∃C:Nat×Own→Hp→Nat→Prop,∀i o hp nx1,C (i,o) hp nx1↔(i≤l.length∧h'.le hp∧nx≤nx1∧aK hp nx1∧((o= .nil∧cT l i=[])∨∃id,nx≤id∧o= .tok id∧hp id=some .tip∧cT l i≠ [])):=⟨fun p hp nx1=>(p.1≤l.length∧h'.le hp∧nx≤nx1∧aK hp nx1∧((p.2= .nil∧cT l p.1=[])∨∃id,nx≤id∧p.2= .tok id∧hp id=some .tip∧cT l p.1≠ [])),fun _ _ _ _=>Iff.rfl⟩;refine aT (fun p=>aB 92 0 [(0,tms own l),(3,tms p.2 (cT l p.1)),(4, .int .i64 p.1)]) C (fun p=>l.length-p.1) (0, .nil) ((hC _ _ _ _).2 ⟨Kw _,Kb _,Km _,hd, .inl ⟨rfl,rfl⟩⟩) ?_ ?_
 ·simp only[WkL,aB,jH,jI,jJ,cT,tms,go_sem,reduceIte,jA,jB,jC,jD,reduceCtorEq,jE,jF]
 rintro⟨i,o⟩ hp nx1 hCi;obtain⟨hi,hle,hnx,hdm,aCd⟩:=(hC _ _ _ _).1 hCi;simp only[aB,go_sem,reduceIte,jA,jB,jC,jD,reduceCtorEq,jE,jF];refine wle tms.eq_1 ?_;refine cH _ rfl (fun hc=>?_) (fun hc=>?_)
 ·have hlt:i<l.length:=by simpa using hc
  have hg:=bI Ka l i hlt;refine wle (ee3 tms.eq_1 hg Tm.aAC) ?_;refine aQ (lF l[i] _) rfl (aU _) ?_;refine Zn ?_;refine wl ?_;have aBQ:cT l (i+1)=if rF l i l[i]=true then g7 (cT l i) l[i] else cT l i:=by
   conv=>lhs;unfold cT
   rw[Kf hlt]
  --the inner loop
  refine aT (fun k:Nat=>aB 92 0 [(0,tms own l),(3,tms o (cT l i)),(4, .int .i64 i),(5, .bool (pN l i l[i] k)),(6, .int .i64 k)]) (fun k h2 nx2=>k≤l.length∧h2=hp∧nx1≤nx2) (fun k=>l.length-k) 0 ⟨Kw _,rfl,Km _⟩ ?_ ?_
  ·simp only[WkL,aB,jH,jI,jJ,tms,pN,List.range_zero,KM,go_sem,reduceIte,jA,jB,jC,jD,reduceCtorEq,jE,jF]
  rintro k h2 nx2 ⟨hk,rfl,aBZ⟩;generalize hQ:bO _ _ _ _ _=Q0;simp only[aB,go_sem,reduceIte,jA,jB,jC,jD,reduceCtorEq,jE,jF];refine wle tms.eq_1 ?_;refine cH _ rfl (fun hc2=>?_) (fun hc2=>?_)
  ·have aBp:k<l.length:=by simpa using hc2
   have hgk:=bI Ka l k aBp;refine wl ?_;refine dJ rfl ?_;refine bY rfl (by simp only[tms,hgk,jK,jG,Tm.aAC,go_sem,reduceIte,jA,jB,jC,jD,reduceCtorEq,jE,jF];try omega) ?_;simp only[tms,hgk,jK,jG,Tm.aAC,go_sem,reduceIte,jA,jB,jC,jD,reduceCtorEq,jE,jF];refine bJ (lF l[k] Hp.none) rfl (bK _) ?_;refine bY rfl (by simp only[Tm.aAC,go_sem,reduceIte,jA,jB,jC,jD,reduceCtorEq,jE,jF];try omega) ?_;simp only[Tm.aAC,go_sem,reduceIte,jA,jB,jC,jD,reduceCtorEq,jE,jF];refine wT (true) _ rfl rfl ?sla ?h1a ?h2a;case h1a=>
    intro hgc hgd;simp only[tms,hgk,hg,jK,jG,Tm.aAC,go_sem,reduceIte,jA,jB,jC,jD,reduceCtorEq,jE,jF];refine bY rfl (by simp only[tms,hgk,hg,jK,jG,Tm.aAC,go_sem,reduceIte,jA,jB,jC,jD,reduceCtorEq,jE,jF];try omega) ?_;simp only[tms,hgk,hg,jK,jG,Tm.aAC,go_sem,reduceIte,jA,jB,jC,jD,reduceCtorEq,jE,jF];refine bJ (vT l[k] l[i] Hp.none) rfl (bK _) ?_;refine cD ⟨?_,?_,?_⟩<;>exact rfl
   refine Zn ?_;refine bY rfl (by simp only[ go_sem,reduceIte,jA,jB,jC,jD,reduceCtorEq,jE,jF];try omega) ?_;refine Zn ?_;refine wT (true) _ rfl rfl ?slb ?h1b ?h2b;case h1b=>
    intro hgc hgd;simp only[tms,hgk,hg,jK,jG,Tm.aAC,um,go_sem,reduceIte,jA,jB,jC,jD,reduceCtorEq,jE,jF];refine bY rfl (by simp only[tms,hgk,hg,jK,jG,Tm.aAC,um,go_sem,reduceIte,jA,jB,jC,jD,reduceCtorEq,jE,jF];try omega) ?_;simp only[tms,hgk,hg,jK,jG,Tm.aAC,um,go_sem,reduceIte,jA,jB,jC,jD,reduceCtorEq,jE,jF];refine cD ⟨?_,?_,?_⟩<;>exact rfl
   refine Zn ?_;refine wT (_) _ rfl rfl ?slc ?h1c ?h2c;case h1c=>
    intro hgc hgd;refine Zn ?_;refine bY rfl (by simp only[ go_sem,reduceIte,jA,jB,jC,jD,reduceCtorEq,jE,jF];try omega) ?_;refine Zn ?_;refine cD ⟨?_,?_,?_⟩<;>exact rfl
   refine Zn ?_;refine wT (true) _ rfl rfl ?sld ?h1d ?h2d;case h1d=>
    intro hgc hgd;simp only[hgd,go_sem,reduceIte,jA,jB,jC,jD,reduceCtorEq,jE,jF];refine bY rfl (by simp only[hgd,go_sem,reduceIte,jA,jB,jC,jD,reduceCtorEq,jE,jF];try omega) ?_;simp only[hgd,go_sem,reduceIte,jA,jB,jC,jD,reduceCtorEq,jE,jF];refine cD ⟨?_,?_,?_⟩<;>exact rfl
   refine Zn ?_;refine bY rfl (by simp only[ go_sem,reduceIte,jA,jB,jC,jD,reduceCtorEq,jE,jF];try omega) ?_;refine Zn ?_;refine cD (cQ ?_);refine Zn ?_;refine aM ?_;have h3:decide ((k:Int)<i)=decide (k<i):=Zm;refine cH _ rfl (fun hc3=>?_) (fun hc3=>?_)
   ·refine wl ?_;rw[aY or or];rw[←hQ];refine aF (k+1) or ⟨or,rfl,or⟩ ?_;have aHm:pN l i l[i] (k+1)=false:=by
     rw[zG l i l[i] k aBp];revert hc3;rw[h3];by_cases he:l[k]=l[i]<;>by_cases hki:k<i<;>cases l[k].ok<;>cases l[k].le l[i]<;>simp[he,hki]
    simp only[WkL,aB,jH,jI,jJ,tms,aHm,go_sem,reduceIte,jA,jB,jC,jD,reduceCtorEq,jE,jF]
   refine wl ?_;rw[aY or or];rw[←hQ];refine aF (k+1) or ⟨or,rfl,or⟩ ?_;have aHm:pN l i l[i] (k+1)=pN l i l[i] k:=by
    rw[zG l i l[i] k aBp];revert hc3;rw[h3];by_cases he:l[k]=l[i]<;>by_cases hki:k<i<;>cases l[k].ok<;>cases l[k].le l[i]<;>simp[he,hki]
   simp only[WkL,aB,jH,jI,jJ,tms,aHm,go_sem,reduceIte,jA,jB,jC,jD,reduceCtorEq,jE,jF]
  have hge:k=l.length:=by have:¬k<l.length:=by simpa using hc2
                          omega
  rw[←hQ];refine fT ?_;repeat (first|with_reducible refine eC ?_|with_reducible refine dM ?_|with_reducible refine dG ?_|with_reducible refine bG ZM ?_|with_reducible refine cZ ?_|with_reducible refine aM ?_)
  have hkr:pN l i l[i] k=rF l i l[i]:=by rw[hge];rfl
  rw[hkr];clear hQ Q0;generalize hQ:gF 1 _=Q0;refine wl ?_;refine cH _ rfl (fun hc3=>?_) (fun hc3=>?_)
  ·have hkf:rF l i l[i]=false:=by simpa using hc3
   refine fT ?_;repeat (first|with_reducible refine eC ?_|with_reducible refine dM ?_|with_reducible refine dG ?_|with_reducible refine bG ZM ?_|with_reducible refine cZ ?_|with_reducible refine aM ?_)
   rw[←hQ];repeat (first|with_reducible refine eC ?_|with_reducible refine dM ?_|with_reducible refine dG ?_|with_reducible refine bG ZM ?_|with_reducible refine cZ ?_|with_reducible refine aM ?_)
   refine wl ?_;rw[aY or or];refine aF (i+1,o) (by simp only;omega) ((hC _ _ _ _).2 ⟨or,hle,or,hdm.up or,?_⟩) ?_
   ·rw[aBQ,hkf];simpa using aCd
   simp only[hkf,Kq,if_false] at aBQ;simp only[WkL,aB,jH,jI,jJ,tms,aBQ,go_sem,reduceIte,jA,jB,jC,jD,reduceCtorEq,jE,jF]
  have hkt:rF l i l[i]=true:=by simpa using hc3
  simp only[hkt,if_true] at aBQ;refine wl ?_
  --the place
  refine aT (fun a:Nat=>aB 92 0 [(0,tms own l),(3,tms o (cT l i)),(4, .int .i64 i),(7, .int .i64 a)]) (fun a h2' nx3=>a≤(cT l i).length∧(∀x∈(cT l i).take a,x.less l[i]=true)∧h2'=h2∧nx1≤nx3) (fun a=>(cT l i).length-a) 0 ⟨Kw _,Zm,rfl,or⟩ ?_ ?_
  ·simp only[WkL,aB,jH,jI,jJ,tms,go_sem,reduceIte,jA,jB,jC,jD,reduceCtorEq,jE,jF]
  rintro a h3 nx3 ⟨ha,aDE,rfl,aGm⟩;generalize hQ3:bO _ _ _ _ _=Q3;simp only[aB,go_sem,reduceIte,jA,jB,jC,jD,reduceCtorEq,jE,jF];refine wl ?_;refine dJ rfl ?_;have aNa:=i9 l i;have fin:∀nx4,nx1≤nx4→(cT l i).takeWhile (·.less l[i])=(cT l i).take a→(cT l i).dropWhile (·.less l[i])=(cT l i).drop a→lwp Tryz.prog (.draw 15 L.aEy L.aDg) Q0 ⟨aB 92 0 [(0,tms own l),(3,tms o (cT l i)),(4, .int .i64 i),(7, .int .i64 a)],h3,nx4⟩:=by
   intro nx4 aIt w1 w2;have aEK:cT l (i+1)=(cT l i).take a++l[i]::(cT l i).drop a:=by rw[aBQ];unfold g7;rw[w1,w2]
   simp only[aB,go_sem,reduceIte,jA,jB,jC,jD,reduceCtorEq,jE,jF];refine dJ rfl ?_;refine bY rfl (by simp only[hg,tms,jK,KF,KG,Kj,jG,Tm.aAC,go_sem,reduceIte,jA,jB,jC,jD,reduceCtorEq,jE,jF];try omega) ?_;simp only[hg,tms,jK,KF,KG,Kj,jG,Tm.aAC,go_sem,reduceIte,jA,jB,jC,jD,reduceCtorEq,jE,jF];have htk:(List.map Ka (cT l i)).take (cT l i).length=List.map Ka (cT l i):=by
    rw[List.take_of_length_le Zm]
   refine cD (dY ?_);refine Zn ?_;refine wl ?_;rw[←hQ];refine wl ?_;rw[aY or or];refine aF (i+1, .tok (nx4+14)) (by simp only;omega) ((hC _ _ _ _).2 ⟨or,?_,or,?_, .inr ⟨nx4+14,or,rfl,?_,by rw[aEK];simp⟩⟩) ?_
   ·repeat (first|exact hle|refine kN ?_ (aK.none hd or) _|refine tZ ?_ (aK.none hd or))
   ·have hdm:=hdm.up aIt;repeat (first|exact aK.up hdm or|refine aK.aAh ?_ or _|refine aK.del ?_)
   ·simp only[go_sem,reduceIte,jA,jB,jC,jD,reduceCtorEq,jE,jF]
   simp only[WkL,aB,jH,jI,jJ,tms,aEK,htk,KH,Ky,List.map_take,List.map_drop,List.append_assoc,go_sem,reduceIte,jA,jB,jC,jD,reduceCtorEq,jE,jF]
  refine bY rfl (by simp only[tms,jK,go_sem,reduceIte,jA,jB,jC,jD,reduceCtorEq,jE,jF];try omega) ?_;simp only[tms,jK,go_sem,reduceIte,jA,jB,jC,jD,reduceCtorEq,jE,jF];by_cases hal:a<(cT l i).length
  ·have aGr:decide ((a:Int)<((cT l i).length:Int))=true:=by simpa using hal
   have hga:=bI Ka (cT l i) a hal;simp only[aGr,go_sem,reduceIte,jA,jB,jC,jD,reduceCtorEq,jE,jF];refine th (by simp only[hga,hg,tms,jK,jG,Tm.aAC,go_sem,reduceIte,jA,jB,jC,jD,reduceCtorEq,jE,jF];try omega) ?_;simp only[hga,hg,tms,jK,jG,Tm.aAC,go_sem,reduceIte,jA,jB,jC,jD,reduceCtorEq,jE,jF];refine fb rfl (fun _=>?_) (fun h=>absurd rfl h);refine bJ (bq (cT l i)[a] l[i] Hp.none) rfl (bK _) ?_;refine th (by simp only[ go_sem,reduceIte,jA,jB,jC,jD,reduceCtorEq,jE,jF];try omega) ?_;refine Zn ?_;refine cD (cQ ?_);refine Zn ?_;refine aM ?_;refine cH _ rfl (fun hc4=>?_) (fun hc4=>?_)
   ·refine wl ?_;rw[aY or or];rw[←hQ3];refine aF (a+1) or ⟨or,?_,rfl,or⟩ ?_
    ·intro x hx;rw[Kk hal,Kd,KC] at hx;rcases hx with hx|rfl
     ·exact aDE x hx
     exact hc4
    simp only[WkL,aB,jH,jI,jJ,tms,go_sem,reduceIte,jA,jB,jC,jD,reduceCtorEq,jE,jF]
   rw[←hQ3];refine fT ?_;repeat (first|with_reducible refine eC ?_|with_reducible refine dM ?_|with_reducible refine dG ?_|with_reducible refine bG ZM ?_|with_reducible refine cZ ?_)
   obtain⟨w1,w2⟩:=vI (fun x:Tm=>x.less l[i]) (cT l i) a ha aDE (fun h=>by simpa using hc4);refine kK _ (kI ?_ (Kb _) (Km _)) (fin _ or w1 w2);simp only[WkL,aB,jH,jI,jJ,tms,go_sem,reduceIte,jA,jB,jC,jD,reduceCtorEq,jE,jF]
  have aGr:decide ((a:Int)<((cT l i).length:Int))=false:=by simpa using hal
  simp only[aGr,go_sem,reduceIte,jA,jB,jC,jD,reduceCtorEq,jE,jF];refine wT true _ rfl rfl [] (fun _ h=>absurd h Zm) ?_;refine Zn ?_;refine bY rfl (by simp only[ go_sem,reduceIte,jA,jB,jC,jD,reduceCtorEq,jE,jF];try omega) ?_;refine Zn ?_;refine cD (cQ ?_);refine Zn ?_;refine aM ?_;refine cH _ rfl (fun hc4=>?_) (fun hc4=>?_)
  ·cases hc4
  rw[←hQ3];refine fT ?_;repeat (first|with_reducible refine eC ?_|with_reducible refine dM ?_|with_reducible refine dG ?_|with_reducible refine bG ZM ?_|with_reducible refine cZ ?_)
  obtain⟨w1,w2⟩:=vI (fun x:Tm=>x.less l[i]) (cT l i) a ha aDE (fun h=>absurd h hal);refine kK _ (kI ?_ (Kb _) (Km _)) (fin _ or w1 w2);simp only[WkL,aB,jH,jI,jJ,tms,go_sem,reduceIte,jA,jB,jC,jD,reduceCtorEq,jE,jF]
 have hge:i=l.length:=by have:¬i<l.length:=by simpa using hc
                         omega
 refine fT ?_;repeat (first|with_reducible refine eC ?_|with_reducible refine dM ?_|with_reducible refine dG ?_|with_reducible refine bG ZM ?_|with_reducible refine cZ ?_|with_reducible refine aM ?_)
 refine wl ?_;refine bT (aG hp (Kb _) ⟨?_,hle⟩);refine Zn ?_;rw[hge] at aCd⊢;rcases aCd with⟨rfl,h1⟩|⟨id,hid,rfl,aBm,hne⟩
 ·rw[h1];rfl
 generalize cT l l.length=r at hne⊢;cases r with
 |nil=>exact absurd rfl hne
 |cons x r=>rfl
end Go.Proofs.YtecepaehmojpgaaGreat
namespace Go.Proofs.YtecepaehmojpgaaGreat
open Go.ChangeShapes Go.WideShapes Go.ChangeAt Go.RowKit
theorem Ej{a k:Nat}:(a=a+1+(k+1))=False:=zB or
theorem DU{a k:Nat}:(a+1+(k+1)=a)=False:=zB or
attribute [local go_sem] Ej DU
end Go.Proofs.YtecepaehmojpgaaGreat
namespace Go.Proofs.YtecepaehmojpgaaGreat
open Go.RowKit
theorem bz(l:List Tm):kU (ofT l):=by rw[xX];exact(rX l l.length).1
theorem wA(l:List Tm)(x:Tm):x∈ofT l↔qD l x:=by rw[xX];exact yU l x
theorem zC(l:List Tm):∀(n:Nat) (y:Tm),(y.e+y.r).toNat≤n→y∈l→y.ok=true→∃z,qD l z∧z.le y=true
 |n,y,hn,hy,ho=>by
  by_cases h:∃y',y'∈l∧y'.ok=true∧y'.le y=true∧y'≠y
  ·obtain⟨y',h1,h2,h3,h4⟩:=h;have hlt:(y'.e+y'.r).toNat<(y.e+y.r).toNat:=by
    have e1:¬(y'.e=y.e∧y'.r=y.r):=fun e=>h4 (by cases y;cases y';simp at e;simp[e]);simp[Ke,Tm.ok] at h2 h3 ho;omega
   cases n with
   |zero=>omega
   |succ n=>
    obtain⟨z,q1,q2⟩:=zC l n y' or h1 h2;exact⟨z,q1,Tm.le_trans q2 h3⟩
  exact⟨y,⟨hy,ho,fun y' h1 h2 h3=>Decidable.byContradiction fun h4=>h ⟨y',h1,h2,h3,h4⟩⟩,Tm.le_refl y⟩
theorem Ab{l:List Tm}{y:Tm}(hy:y∈l)(ho:y.ok=true):∃z∈ofT l,z.le y=true:=by
 obtain⟨z,h1,h2⟩:=zC l _ y (Km _) hy ho;exact⟨z,(wA l z).2 h1,h2⟩
theorem Dp{l:List Tm}{x:Tm}(h:x∈ofT l):x.ok=true∧x∈l:=⟨((wA l x).1 h).2.1,((wA l x).1 h).1⟩
theorem Aa{a b:List Tm}(h:∀x:Tm,x.ok=true→(x∈a↔x∈b)):ofT a=ofT b:=by
 refine sU (bz a) (bz b) fun x=>?_;rw[wA,wA];constructor
 ·rintro⟨h1,h2,h3⟩;exact⟨(h x h2).1 h1,h2,fun y hy ho=>h3 y ((h y ho).2 hy) ho⟩
 rintro⟨h1,h2,h3⟩;exact⟨(h x h2).2 h1,h2,fun y hy ho=>h3 y ((h y ho).1 hy) ho⟩
end Go.Proofs.YtecepaehmojpgaaGreat
namespace Go.Proofs.YtecepaehmojpgaaGreat
open Go.RowKit
attribute [local irreducible] IntKind.wrap
end Go.Proofs.YtecepaehmojpgaaGreat
