/-
Texts of this proof,one behind the other. No conditions.
-/
import Derived.Test.YtecepaehmojpgaaGreatKf
import Derived.Test.YtecepaehmojpgaaGreatKd
import Derived.Test.YtecepaehmojpgaaGreatKe
import Derived.Test.YtecepaehmojpgaaGreatKg
import Derived.Test.YtecepaehmojpgaaGreatKi
open Go.Proofs.YtecepaehmojpgaaGreat.Tm renaming v→Ka,less→Kc,le→Ke
open Go.Proofs.YtecepaehmojpgaaGreat.Hp renaming le_refl→Kb
open List renaming mem_append→Kd,getElem?_eq_getElem→Kf,takeWhile_cons→Kg,dropWhile_cons→Kh,pairwise_cons→Ki,length_append→Kj,take_succ_eq_append_getElem→Kk,takeWhile_append_dropWhile→Ko,map_nil→Kp,getElem?_eq_some_iff→Kt,mem_of_getElem?→Kx,map_cons→Ky,mem_cons→Kz,getElem_of_mem→KB,mem_singleton→KC,any_eq_false→KD,take_length→KE,length_take→KF,length_drop→KG,map_append→KH,nil_append→KI,range→KJ,any_nil→KM
open Nat renaming le_refl→Km,zero_le→Kw,le_trans→KL
open Bool renaming false_eq_true→Kq,not_eq_true'→Ks,and_eq_true→Ku,eq_iff_iff→Kv,true_and→KK
open Nat renaming reduceAdd→jA,reduceSub→jB,reduceLT→jC,reduceLeDiff→jD,reduceEqDiff→jE
open Int renaming reduceToNat→jF,toNat_natCast→jG,natCast_add→jH,natCast_one→jI,natCast_zero→jJ
open List renaming length_map→jK,length_cons→jL,length_nil→jM,replicate_succ→jN,replicate_zero→jO,cons_append→jP,nil_append→jQ
set_option linter.unusedSimpArgs false
set_option linter.unusedVariables false
set_option linter.unusedSectionVars false
set_option maxHeartbeats 8000000
namespace Go.Proofs.YtecepaehmojpgaaGreat
open Go.RowKit
attribute [local go_sem] rJ kD aA.ok aA.next LOp.ok LOp.next bR.ok bR.out aP.ev bQ qh mP lL tG V.fits V.aAD V.cells V.cell V.undef dA cK bW Sh.size Hp.set Hp.del pW iV qX eG aA.dok aA.aD8 LOp.dok LOp.aGG rz jh iW cS cj Hp.aBX veq iY iZ List.take_succ_cons List.take_zero List.take_nil List.drop_succ_cons List.drop_zero List.drop_nil List.set_cons_succ List.set_cons_zero List.getD_cons_succ List.getD_cons_zero jL jM Ky Kp List.all_cons List.all_nil Kz List.not_mem_nil jN jO jP jQ List.append_nil List.isEmpty_cons List.isEmpty_nil gD fK yM Option.getD_some Option.isSome_some Option.isSome_none Nat.add_eq Nat.zero_add Nat.add_zero true_and and_true and_self true_implies implies_true false_implies forall_const forall_eq forall_eq_or_imp ne_eq not_false_eq_true not_true_eq_false Bool.not_true Bool.not_false decide_true decide_false Bool.and_true KK Bool.and_false Bool.false_and true_or or_true false_or or_false eq_self Kq Ez Bd mV aB eM fI iJ sR pR sQ jW kX eL jG Int.toNat_zero KE
theorem j7(x t:Tm)(n:Nat)(h:Hp)(hn:h n=some (.arr (.agg 2) [t.v])):aY Tryz.prog 112 [x.v, .ptr n (.agg 2) 0 0] h (.bool (x.le t)):=by
 refine aR (fun L=>trivial) fun h' nx hh=>aF L.aXA fun hd=>?_;simp only[jL,jM,jA,jB,jN,jO,jP,jQ,V.undef];have hn':=hh _ _ hn rfl;have hlt:=hd _ _ hn';have hne:(n=nx)=False:=by simp;omega
 have aVa:(n=nx+1)=False:=by simp;omega
 refine bI (bL ?_);refine bE 2 rfl (by simp only[L.aE0,Ka,go_sem,reduceIte,jA,jB,jC,jD,reduceCtorEq,jE,jF];try omega) ?_;simp only[L.aE0,Ka,go_sem,reduceIte,jA,jB,jC,jD,reduceCtorEq,jE,jF];refine aM (bI (bL ?_));simp only[Ka] at hn';refine bE 2 rfl (by simp only[L.aCp,Ka,hn',hne,go_sem,reduceIte,jA,jB,jC,jD,reduceCtorEq,jE,jF];try omega) ?_;simp only[L.aCp,Ka,hn',hne,go_sem,reduceIte,jA,jB,jC,jD,reduceCtorEq,jE,jF];refine aQ (b9 x t _) (by simp only[Ka,go_sem,reduceIte,jA,jB,jC,jD,reduceCtorEq,jE,jF]) (aT _) ?_;refine Zn ?_;refine bE 1 rfl (by simp only[L.aCp,go_sem,reduceIte,jA,jB,jC,jD,reduceCtorEq,jE,jF];try omega) ?_;simp only[L.aCp,go_sem,reduceIte,jA,jB,jC,jD,reduceCtorEq,jE,jF];refine aM (bT (aG h' (aJ hd (Kb _) or _) ⟨?_,rfl⟩));simp only[go_sem,reduceIte,jA,jB,jC,jD,reduceCtorEq,jE,jF]
theorem rc(own:Own)(l:List Tm)(t:Tm)(h:Hp)(hl:l.length≤1000000):aY Tryz.prog 78 [tms own l,t.v] h (.bool (l.any fun x=>x.le t)):=by
 refine aR (fun L=>trivial) fun h' nx hh=>aF L.aX2 fun hd=>?_;simp only[jL,jM,jA,jB,jN,jO,jP,jQ,V.undef];refine bI (bL ?_);refine bE 2 rfl (by simp only[L.aFJ,Ka,go_sem,reduceIte,jA,jB,jC,jD,reduceCtorEq,jE,jF];try omega) ?_;simp only[L.aFJ,Ka,go_sem,reduceIte,jA,jB,jC,jD,reduceCtorEq,jE,jF];refine aM (bI (bL ?_));refine bE 2 rfl (by simp only[L.aCq,Ka,go_sem,reduceIte,jA,jB,jC,jD,reduceCtorEq,jE,jF];try omega) ?_;simp only[L.aCq,Ka,go_sem,reduceIte,jA,jB,jC,jD,reduceCtorEq,jE,jF];refine aQ (yF (fun x=>x.le t) own l _ _ _ (fun x=>j7 x t nx _ (by simp[Ka,Hp.set])) hl) (by simp only[Ka,go_sem,reduceIte,jA,jB,jC,jD,reduceCtorEq,jE,jF]) (aT _) ?_;refine Zn ?_;refine bE 1 rfl (by simp only[L.aCq,go_sem,reduceIte,jA,jB,jC,jD,reduceCtorEq,jE,jF];try omega) ?_;simp only[L.aCq,go_sem,reduceIte,jA,jB,jC,jD,reduceCtorEq,jE,jF];refine aM (bT (aG h' (aJ hd (Kb _) or _) ⟨?_,rfl⟩));simp only[go_sem,reduceIte,jA,jB,jC,jD,reduceCtorEq,jE,jF]
end Go.Proofs.YtecepaehmojpgaaGreat
namespace Go.Proofs.YtecepaehmojpgaaGreat
open Go.RowKit Go.Sort
theorem Tm.aAC(t:Tm):t.v.fits (.agg 2)=true:=by simp[Ka,V.fits,V.aAD]
theorem xM:aH Tryz.prog 140=some (LB.aAq (.agg 2) 152 153):=Zz
theorem gu:aH Tryz.prog 152=some (LB.Collect (.agg 2) 182):=Zz
theorem zM:aH Tryz.prog 182=some (LB.aAf (.agg 2) (.agg [.int .i64 0, .int .i64 0]) 16):=Zz
theorem ku:aH Tryz.prog 141=some (LB.aFu (.agg 2) 154):=Zz
theorem c5:aH Tryz.prog 154=some (LB.aCM (.agg 2) (.agg [.int .i64 0, .int .i64 0])):=Zz
def nX(a b:Tm):Int:=orI [lO a.e b.e,lO a.r b.r]
theorem qc(a b:Tm):aY Tryz.prog 126 [a.v,b.v] Hp.none (.int .i64 (nX a b)):=by
 refine aR (fun L=>trivial) fun h' nx hh=>aF L.aW2 fun hd=>?_;simp only[jL,jM,jA,jB,jN,jO,jP,jQ,V.undef];refine wle Tm.v.eq_1 ?_;refine dO rfl ?_;refine cB rfl (by simp only[Ka,go_sem,reduceIte,jA,jB,jC,jD,reduceCtorEq,jE,jF];try omega) ?_;simp only[Ka,go_sem,reduceIte,jA,jB,jC,jD,reduceCtorEq,jE,jF];refine bK (rB qM dc a.e b.e Hp.none) rfl (bM _) ?_;refine cB rfl (by simp only[Ka,go_sem,reduceIte,jA,jB,jC,jD,reduceCtorEq,jE,jF];try omega) ?_;simp only[Ka,go_sem,reduceIte,jA,jB,jC,jD,reduceCtorEq,jE,jF];refine bK (rB qM dc a.r b.r Hp.none) rfl (bM _) ?_;refine cB rfl (by simp only[Ka,go_sem,reduceIte,jA,jB,jC,jD,reduceCtorEq,jE,jF];try omega) ?_;simp only[Ka,go_sem,reduceIte,jA,jB,jC,jD,reduceCtorEq,jE,jF];refine bK (zD zJ _ [lO a.e b.e,lO a.r b.r] Zm Hp.none) rfl (bM _) ?_;refine cB rfl (by simp only[Ka,go_sem,reduceIte,jA,jB,jC,jD,reduceCtorEq,jE,jF];try omega) ?_;simp only[Ka,go_sem,reduceIte,jA,jB,jC,jD,reduceCtorEq,jE,jF];refine cG (cW ?_);refine Zn ?_;refine aM (bT (aG h' ?_ ⟨rfl,rfl⟩));exact(by repeat (first|exact Kb _|refine aJ hd ?_ or _|refine aL hd ?_ or))
theorem pT:(∀a b,lO a b<0↔a<b)∧∀a b,lO a b=0↔a=b:=by
 constructor<;>intro a b<;>unfold lO<;>(repeat' split)<;>omega
theorem Bs(a b:Tm):(nX a b<0)↔(a.e<b.e∨(a.e=b.e∧a.r<b.r)):=by
 have h1:=pT.1 a.e b.e;have h2:=pT.2 a.e b.e;have h3:=pT.1 a.r b.r;unfold nX orI;split
 ·rename_i h0;have he:=h2.1 h0;unfold orI;split
  ·rename_i h4;have:=(pT.2 a.r b.r).1 h4;unfold orI;omega
  omega
 rename_i h0;have:a.e≠b.e:=fun h=>h0 (h2.2 h);omega
theorem zI(a b:Tm):ltOf nX a b=decide (a.e<b.e∨(a.e=b.e∧a.r<b.r)):=by
 unfold ltOf;rw[Kv];simp[Bs]
theorem tu:SWO (ltOf nX):=by
 refine⟨fun x=>?_,fun x y z=>?_,fun x y z=>?_⟩<;>simp only[zI,decide_eq_true_eq,decide_eq_false_iff_not]<;>omega
theorem C7(x y:Tm)(h1:ltOf nX x y=false)(h2:ltOf nX y x=false):x=y:=by
 simp only[zI,decide_eq_false_iff_not] at h1 h2;cases x;cases y;simp only[Tm.mk.injEq] at*;omega
theorem j3(own:Own)(l:List Tm)(hl:l.length≤1000000):
 aY Tryz.prog 140 [.fn (.func 154) [] [.ept .leaf [(tms own l).loose] 0 0], .fn (.func 126) [] []] Hp.none (lst (.agg 2) ((dU nX l).map Ka)):=by
 have hs:∃aDi,(tms own l).loose=tms aDi l:=by cases own<;>exact⟨_,rfl⟩
 obtain⟨aDi,hs⟩:=hs;rw[hs];exact cm Ka Fc Tm.aAC (fun x L=>x.aAN L) (by intro w;exact Tryz.isAgg35 w) (by intro w;exact Tryz.sizeOf35 w) Zz xM gu zM rfl or rfl _ _ Hp.none l
  (wL Ka Tm.aAC c5 rfl aDi l or) or nX tu C7 _ [] (fun x y=>by simpa using qc x y)
def jT:List Tm→List Tm→List Tm
 |out,[]=>out
 |out,t::l=>jT (if t.ok&& !(out.any fun x=>x.le t) then out++[t] else out) l
def ofT(l:List Tm):List Tm:=jT [] (dU nX l)
theorem vf(out l:List Tm):(jT out l).length≤out.length+l.length:=by
 induction l generalizing out with
 |nil=>simp[jT]
 |cons t l ih=>
  unfold jT;refine KL (ih _) ?_;split<;>simp<;>omega
theorem Bc(l:List Tm):(ofT l).length≤l.length:=by
 have:=vf [] (dU nX l);simpa [ofT,(dX nX l).length_eq] using this
theorem oz(out l:List Tm)(t:Tm):jT out (l++[t])=if (t.ok&& !((jT out l).any fun x=>x.le t))=true then jT out l++[t] else jT out l:=by
 induction l generalizing out with
 |nil=>simp[jT]
 |cons x l ih=>simp only[jP,jT];exact ih _
theorem sh(own:Own)(l:List Tm)(hl:l.length≤1000000)(h:Hp):aY Tryz.prog 110 [tms own l] h (lst (.agg 2) ((ofT l).map Ka)):=by
 refine dB (fun L=>cP (fun L=>bG (Tm.aAN L) _) L) fun h' nx hh=>aF L.aXC fun hd=>?_;simp only[jL,jM,jA,jB,jN,jO,jP,jQ,V.undef];refine wl ?_;refine aQ (er ku own (l.map Ka) (fun L=>bG (Tm.aAN L) _) Hp.none) rfl (bM _) ?_;refine Zn ?_;refine aQ (j3 own l hl) rfl (bM _) ?_;refine Zn ?_;obtain⟨S,hS⟩:∃S,S=dU nX l:=⟨_,rfl⟩;have hSl:S.length=l.length:=by rw[hS];exact(dX nX l).length_eq
 rw[←hS];obtain⟨ow,how⟩:=nG (.agg 2) (S.map Ka);rw[how];refine wle trivial ?_;obtain⟨C,hC⟩:∃C:Nat×Own→Hp→Nat→Prop,∀i o hp nx1,C (i,o) hp nx1↔(i≤S.length∧h'.le hp∧nx≤nx1∧aI hp nx1∧((o= .nil∧jT [] (S.take i)=[])∨∃id,nx≤id∧o= .tok id∧hp id=some .tip∧jT [] (S.take i)≠ [])):=⟨fun p hp nx1=>(p.1≤S.length∧h'.le hp∧nx≤nx1∧aI hp nx1∧((p.2= .nil∧jT [] (S.take p.1)=[])∨∃id,nx≤id∧p.2= .tok id∧hp id=some .tip∧jT [] (S.take p.1)≠ [])),fun _ _ _ _=>Iff.rfl⟩;refine aO (fun p=>aB 28 0 [(3,tms p.2 (jT [] (S.take p.1))),(8, .sl (.agg 2) ow (S.map Ka)),(9, .int .i64 S.length),(10, .int .i64 p.1)]) C (fun p=>S.length-p.1) (0, .nil) ((hC _ _ _ _).2 ⟨Kw _,Kb _,Km _,hd, .inl ⟨rfl,by simp[jT]⟩⟩) ?_ ?_
 ·simp only[WkL,aB,jH,jI,jJ,jT,tms,go_sem,reduceIte,jA,jB,jC,jD,reduceCtorEq,jE,jF]
 rintro⟨i,o⟩ hp nx1 hCi;obtain⟨hi,hle,hnx,hdm,aCm⟩:=(hC _ _ _ _).1 hCi;simp only[aB,go_sem,reduceIte,jA,jB,jC,jD,reduceCtorEq,jE,jF];refine wl ?_;refine cJ _ rfl (fun hc=>?_) (fun hc=>?_)
 ·have hlt:i<S.length:=by simpa using hc
  have hg:=bO Ka S i hlt;have htk:S.take (i+1)=S.take i++[S[i]]:=Kk hlt;have hlen:(jT [] (S.take i)).length≤1000000:=KL (vf _ _) (by simp;omega);refine wle (ee2 hg Tm.aAC) ?_;refine aQ (qD S[i] _) rfl (aT _) ?_;refine Zn ?_;refine wl ?_;refine EE (S[i].ok) rfl rfl ?sl ?h1 ?h2;case h1=>
   intro hgd;simp only[Tm.aAC,go_sem,reduceIte,jA,jB,jC,jD,reduceCtorEq,jE,jF];refine wle Tm.aAC ?_;refine aQ (rc o (jT [] (S.take i)) S[i] _ hlen) rfl (aT _) ?_;refine Zn ?_;refine wl ?_;exact rfl
  refine Zn ?_;refine wl ?_;refine cJ _ rfl (fun hc=>?_) (fun hc=>?_)
  ·have aCG:jT [] (S.take (i+1))=jT [] (S.take i)++[S[i]]:=by
    rw[htk,oz,if_pos];revert hc;cases S[i].ok<;>simp
   rcases aCm with⟨rfl,aB2⟩|⟨id,hid,rfl,aBH,hne⟩
   ·rw[aB2] at aCG⊢;repeat (first|with_reducible refine bI ?_|with_reducible refine dJ ?_|with_reducible refine eD ?_|with_reducible refine aM ?_|with_reducible refine bZ ?_|with_reducible refine bL ?_|(refine eU rfl (by simp only[tms,Tm.aAC,eL,Kp,go_sem,reduceIte,jA,jB,jC,jD,reduceCtorEq,jE,jF];try omega) ?_;simp only[tms,Tm.aAC,eL,Kp,go_sem,reduceIte,jA,jB,jC,jD,reduceCtorEq,jE,jF])|(with_reducible refine dZ ?_))
    rw[bB or or];refine aD (i+1, .tok (nx1+3)) (by simp only;omega) ((hC _ _ _ _).2 ⟨or,?_,or,?_, .inr ⟨nx1+3,or,rfl,?_,by rw[aCG];simp⟩⟩) ?_
    ·repeat (first|exact hle|refine eV ?_ (aI.none hd or) _|refine oS ?_ (aI.none hd or))
    ·repeat (first|exact aI.up hdm or|refine aI.aAh ?_ or _|refine aI.del ?_)
    ·simp only[go_sem,reduceIte,jA,jB,jC,jD,reduceCtorEq,jE,jF]
    simp only[WkL,aB,jH,jI,jJ,tms,aCG,Kp,go_sem,reduceIte,jA,jB,jC,jD,reduceCtorEq,jE,jF]
   have aDn:=hdm _ _ aBH;have f1:(id=nx1)=False:=by simp;omega
   have f2:(id=nx1+2)=False:=by simp;omega
   have hb1:((jT [] (S.take i)).length+1)*16≤140737488355328:=or;repeat (first|with_reducible refine bI ?_|with_reducible refine dJ ?_|with_reducible refine eD ?_|with_reducible refine aM ?_|with_reducible refine bZ ?_|with_reducible refine bL ?_|(refine eU rfl (by simp only[tms,Tm.aAC,eL,jK,hb1,f1,f2,aBH,go_sem,reduceIte,jA,jB,jC,jD,reduceCtorEq,jE,jF];try omega) ?_;simp only[tms,Tm.aAC,eL,jK,hb1,f1,f2,aBH,go_sem,reduceIte,jA,jB,jC,jD,reduceCtorEq,jE,jF])|(with_reducible refine dZ ?_))
   rw[bB or or];refine aD (i+1, .tok (nx1+3)) (by simp only;omega) ((hC _ _ _ _).2 ⟨or,?_,or,?_, .inr ⟨nx1+3,or,rfl,?_,by rw[aCG];simp⟩⟩) ?_
   ·repeat (first|exact hle|refine eV ?_ (aI.none hd or) _|refine oS ?_ (aI.none hd or))
   ·repeat (first|exact aI.up hdm or|refine aI.aAh ?_ or _|refine aI.del ?_)
   ·simp only[go_sem,reduceIte,jA,jB,jC,jD,reduceCtorEq,jE,jF]
   simp only[WkL,aB,jH,jI,jJ,tms,aCG,KH,Ky,Kp,go_sem,reduceIte,jA,jB,jC,jD,reduceCtorEq,jE,jF]
  have aCG:jT [] (S.take (i+1))=jT [] (S.take i):=by
   rw[htk,oz,if_neg];revert hc;cases S[i].ok<;>simp
  refine wl ?_;rw[bB or or];refine aD (i+1,o) (by simp only;omega) ((hC _ _ _ _).2 ⟨or,?_,or,?_,?_⟩) ?_
  ·repeat (first|exact hle|refine eV ?_ (aI.none hd or) _|refine oS ?_ (aI.none hd or))
  ·repeat (first|exact aI.up hdm or|refine aI.aAh ?_ or _|refine aI.del ?_)
  ·rw[aCG];rcases aCm with h1|⟨id,hid,h1,aBH,hne⟩
   ·exact .inl h1
   have aDn:=hdm _ _ aBH;have f1:(id=nx1)=False:=by simp;omega
   exact .inr ⟨id,hid,h1,by simp only[aBH,f1,go_sem,reduceIte,jA,jB,jC,jD,reduceCtorEq,jE,jF],hne⟩
  simp only[WkL,aB,jH,jI,jJ,tms,aCG,go_sem,reduceIte,jA,jB,jC,jD,reduceCtorEq,jE,jF]
 have hge:i=S.length:=by have:¬i<S.length:=by simpa using hc
                         omega
 refine gC ?_;repeat (first|with_reducible refine eH ?_|with_reducible refine dR ?_|with_reducible refine dC ?_|with_reducible refine bJ ZM ?_|with_reducible refine cR ?_|with_reducible refine aM ?_)
 refine wl ?_;refine bT (aG hp (Kb _) ⟨?_,hle⟩);refine Zn ?_;rw[hge,KE] at aCm⊢;rw[hS,show jT [] (dU nX l)=ofT l from rfl] at aCm⊢;rcases aCm with⟨rfl,h1⟩|⟨id,hid,rfl,aBH,hne⟩
 ·rw[h1];rfl
 generalize ofT l=r at hne⊢;cases r with
 |nil=>exact absurd rfl hne
 |cons x r=>rfl
end Go.Proofs.YtecepaehmojpgaaGreat
namespace Go.Proofs.YtecepaehmojpgaaGreat
open Go.RowKit Go.Sort
theorem Tm.aAd(a:Tm):a.less a=false:=by simp[Kc]
theorem Tm.aAu(a b:Tm)(h1:a.less b=false)(h2:b.less a=false):a=b:=by
 cases a;cases b;simp[Kc] at*;omega
theorem Tm.aAk{a b c:Tm}(h1:a.less b=true)(h2:b.less c=true):a.less c=true:=by
 simp[Kc] at*;omega
theorem Tm.aJX{a b:Tm}(h:a.le b=true):b.less a=false:=by
 simp[Kc,Ke] at*;omega
theorem Tm.le_refl(a:Tm):a.le a=true:=by simp[Ke]
theorem Tm.le_trans{a b c:Tm}(h1:a.le b=true)(h2:b.le c=true):a.le c=true:=by
 simp[Ke] at*;omega
def rG(l:List Tm)(x:Tm):Prop:=x∈l∧x.ok=true∧∀y∈l,y.ok=true→y.le x=true→y=x
def lB(l:List Tm):Prop:=l.Pairwise fun a b=>a.less b=true
theorem tY{a b:List Tm}(ha:lB a)(hb:lB b)(h:∀x,x∈a↔x∈b):a=b:=by
 have nd:∀{l:List Tm},lB l→l.Nodup:=fun hl=>hl.imp (fun{x y} hxy e=>by subst e;rw[Tm.aAd] at hxy;cases hxy);refine List.Perm.eq_of_pairwise (le:=fun(u v:Tm)=>u.less v=true) (fun x y _ _ h1 h2=>?_) ha hb ((List.perm_ext_iff_of_nodup (nd ha) (nd hb)).2 h);have:=Tm.aAk h1 h2;rw[Tm.aAd] at this;cases this
theorem vh:∀(rest pre out:List Tm),(∀x∈pre,∀y∈rest,y.less x=false)→rest.Pairwise (fun x y=>y.less x=false)→lB out→(∀x,x∈out↔rG pre x)→(∀y∈pre,y.ok=true→∃z∈out,z.le y=true)→
 lB (jT out rest)∧∀x,x∈jT out rest↔rG (pre++rest) x
 | [],pre,out,_,_,hs,hm,_=>by simpa [jT] using⟨hs,hm⟩
 |t::rest,pre,out,h1,h2,hs,hm,hc=>by
  have h2':=Ki.1 h2;have low:∀x∈pre,t.le x=true→t=x:=fun x hx hle=>(Tm.aAu _ _ (h1 x hx t Zm) (Tm.aJX hle));have key:∀aHu,lB aHu→(∀x,x∈aHu↔rG (pre++[t]) x)→(∀y∈pre++[t],y.ok=true→∃z∈aHu,z.le y=true)→lB (jT aHu rest)∧∀x,x∈jT aHu rest↔rG (pre++t::rest) x:=by
   intro aHu q1 q2 q3;have:=vh rest (pre++[t]) aHu (fun x hx y hy=>by
    rcases Kd.1 hx with hx|hx
    ·exact h1 x hx y (by simp[hy])
    have:x=t:=by simpa using hx
    subst this;exact h2'.1 y hy) h2'.2 q1 q2 q3
   simpa using this
  unfold jT;split
  ·rename_i hk;simp only[Ku,Ks,KD] at hk;obtain⟨hok,hno⟩:=hk;have aVZ:∀x∈out,x.le t=false:=fun x hx=>by simpa using hno x hx
   refine key _ ?_ ?_ ?_
   ·refine List.pairwise_append.2 ⟨hs,Zm,fun x hx y hy=>?_⟩;have:y=t:=by simpa using hy
    subst this;have hxp:=((hm x).1 hx).1;cases hl:x.less y with
    |true=>rfl
    |false=>
     have:=Tm.aAu _ _ hl (h1 x hxp y Zm);subst this;have:=aVZ x hx;rw[Tm.le_refl] at this;cases this
   ·intro x;simp only[Kd,KC];constructor
    ·rintro(hx|rfl)
     ·obtain⟨a,b,c⟩:=(hm x).1 hx;refine⟨by simp[a],b,fun y hy hyo hyl=>?_⟩;rcases Kd.1 hy with hy|hy
      ·exact c y hy hyo hyl
      have:y=t:=by simpa using hy
      subst this;exact low x a hyl
     refine⟨Zm,hok,fun y hy hyo hyl=>?_⟩;rcases Kd.1 hy with hy|hy
     ·obtain⟨z,hz,hzl⟩:=hc y hy hyo;have:=aVZ z hz;rw[Tm.le_trans hzl hyl] at this;cases this
     simpa using hy
    rintro⟨a,b,c⟩;rcases Kd.1 a with hx|hx
    ·exact .inl ((hm x).2 ⟨hx,b,fun y hy=>c y (by simp[hy])⟩)
    exact .inr (by simpa using hx)
   intro y hy hyo;rcases Kd.1 hy with hy|hy
   ·obtain⟨z,hz,hzl⟩:=hc y hy hyo;exact⟨z,by simp[hz],hzl⟩
   have:y=t:=by simpa using hy
   subst this;exact⟨y,Zm,Tm.le_refl _⟩
  rename_i hk;have hk':t.ok=true→∃z∈out,z.le t=true:=fun hok=>by
   simp only[hok,KK,Ks,Bool.not_eq_false] at hk;obtain⟨z,hz,hzl⟩:=List.any_eq_true.1 hk;exact⟨z,hz,hzl⟩
  refine key _ hs ?_ ?_
  ·intro x;constructor
   ·intro hx;obtain⟨a,b,c⟩:=(hm x).1 hx;refine⟨by simp[a],b,fun y hy hyo hyl=>?_⟩;rcases Kd.1 hy with hy|hy
    ·exact c y hy hyo hyl
    have:y=t:=by simpa using hy
    subst this;exact low x a hyl
   rintro⟨a,b,c⟩;rcases Kd.1 a with hx|hx
   ·exact(hm x).2 ⟨hx,b,fun y hy=>c y (by simp[hy])⟩
   have:x=t:=by simpa using hx
   subst this;obtain⟨z,hz,hzl⟩:=hk' b;have hz':=(hm z).1 hz;have:=c z (by simp[hz'.1]) hz'.2.1 hzl;rwa [this] at hz
  intro y hy hyo;rcases Kd.1 hy with hy|hy
  ·exact hc y hy hyo
  have:y=t:=by simpa using hy
  subst this;exact hk' hyo
def sK(l:List Tm)(i:Nat)(t:Tm):Bool:=t.ok&& !((KJ l.length).any fun k=>match l[k]? with|some y=>y.ok&&y.le t&&(decide (y≠t)||decide (k<i))|none=>false)
def kw(out:List Tm)(t:Tm):List Tm:=out.takeWhile (·.less t)++t::out.dropWhile (·.less t)
def cY(l:List Tm):Nat→List Tm
 |0=>[]
 |i+1=>match l[i]? with
  |some t=>if sK l i t=true then kw (cY l i) t else cY l i
  |none=>cY l i
theorem wq(out:List Tm)(t x:Tm):x∈kw out t↔x=t∨x∈out:=by
 unfold kw;conv=>rhs;rw[←Ko (p:=fun x:Tm=>x.less t) (l:=out)]
 simp only[Kd,Kz];constructor
 ·rintro(h|h|h)<;>simp[h]
 rintro(h|h|h)<;>simp[h]
theorem wp{out:List Tm}{t:Tm}(hs:lB out)(hn:t∉out):lB (kw out t):=by
 induction out with
 |nil=>simp[kw,lB]
 |cons a out ih=>
  have hs':=Ki.1 hs;have hn':t≠a∧t∉out:=by simpa using hn
  unfold kw;cases ha:a.less t with
  |true=>
   have:=ih hs'.2 hn'.2;simp only[Kg,Kh,ha,if_true,List.cons_append];refine Ki.2 ⟨fun y hy=>?_,this⟩;have hy':y∈kw out t:=hy;rcases(wq out t y).1 hy' with rfl|hy
   ·exact ha
   exact hs'.1 y hy
  |false=>
   simp only[Kg,Kh,ha,Kq,if_false,KI];have hta:t.less a=true:=by
    cases h:t.less a with
    |true=>rfl
    |false=>exact absurd (Tm.aAu _ _ h ha) hn'.1
   refine Ki.2 ⟨fun y hy=>?_,hs⟩;rcases Kz.1 hy with rfl|hy
   ·exact hta
   exact Tm.aAk hta (hs'.1 y hy)
theorem tN(l:List Tm)(i:Nat)(t:Tm):sK l i t=true↔t.ok=true∧∀k y,l[k]?=some y→y.ok=true→y.le t=true→y=t∧i≤k:=by
 unfold sK;simp only[Ku,Ks,KD,List.mem_range];constructor
 ·rintro⟨h1,h2⟩;refine⟨h1,fun k y hk ho hl=>?_⟩;have hlt:=(Kt.1 hk).1;have:=h2 k hlt;rw[hk] at this;simp[ho,hl] at this;exact⟨this.1,this.2⟩
 rintro⟨h1,h2⟩;refine⟨h1,fun k hk=>?_⟩;rw[Kf hk];simp only;intro hc;simp only[Ku,Bool.or_eq_true,decide_eq_true_eq] at hc;obtain⟨⟨a,b⟩,c⟩:=hc;obtain⟨q1,q2⟩:=h2 k l[k] (Kf hk) a b;rcases c with c|c
 ·exact c q1
 omega
theorem tB(l:List Tm):∀i,lB (cY l i)∧∀x,x∈cY l i↔∃j,j<i∧l[j]?=some x∧sK l j x=true
 |0=>⟨by simp[cY,lB],fun x=>by simp[cY]⟩
 |i+1=>by
  obtain⟨h1,h2⟩:=tB l i;have step:∀x,(∃j,j<i+1∧l[j]?=some x∧sK l j x=true)↔((∃j,j<i∧l[j]?=some x∧sK l j x=true)∨(l[i]?=some x∧sK l i x=true)):=by
   intro x;constructor
   ·rintro⟨j,hj,a,b⟩;by_cases e:j=i
    ·subst e;exact .inr ⟨a,b⟩
    exact .inl ⟨j,or,a,b⟩
   rintro(⟨j,hj,a,b⟩|⟨a,b⟩)
   ·exact⟨j,or,a,b⟩
   exact⟨i,or,a,b⟩
  unfold cY;split
  ·rename_i t ht;split
   ·rename_i hk;have hn:t∉cY l i:=fun hm=>by
     obtain⟨j,hj,a,b⟩:=(h2 t).1 hm;have:=((tN l i t).1 hk).2 j t a ((tN l i t).1 hk).1 (Tm.le_refl _);omega
    refine⟨wp h1 hn,fun x=>?_⟩;rw[wq,step,h2,ht];constructor
    ·rintro(rfl|h)
     ·exact .inr ⟨rfl,hk⟩
     exact .inl h
    rintro(h|⟨h,_⟩)
    ·exact .inr h
    injection h with h;exact .inl h.symm
   rename_i hk;refine⟨h1,fun x=>?_⟩;rw[step,h2,ht];constructor
   ·exact .inl
   rintro(h|⟨h,hk2⟩)
   ·exact h
   injection h with h;subst h;exact absurd hk2 hk
  rename_i ht;refine⟨h1,fun x=>?_⟩;rw[step,h2,ht];simp
theorem ar(l:List Tm)(x:Tm):x∈cY l l.length↔rG l x:=by
 rw[(tB l l.length).2];constructor
 ·rintro⟨j,hj,a,b⟩;obtain⟨q1,q2⟩:=(tN l j x).1 b;refine⟨Kx a,q1,fun y hy hyo hyl=>?_⟩;obtain⟨k,hk,rfl⟩:=KB hy;exact(q2 k _ (Kf hk) hyo hyl).1
 rintro⟨a,b,c⟩
 --the first place where it stands
 have hex:∃j:Nat,l[j]?=some x:=by
  obtain⟨k,hk,rfl⟩:=KB a;exact⟨k,Kf hk⟩
 have first:∃j:Nat,l[j]?=some x∧∀k:Nat,k<j→l[k]?≠some x:=by
  obtain⟨j,hj⟩:=hex;induction j using Nat.strongRecOn with
  |_ j ih=>
   by_cases h:∃k,k<j∧l[k]?=some x
   ·obtain⟨k,hk,hkx⟩:=h;exact ih k hk hkx
   exact⟨j,hj,fun k hk hkx=>h ⟨k,hk,hkx⟩⟩
 obtain⟨j,hj,aEt⟩:=first
 refine⟨j,(Kt.1 hj).1,hj,(tN l j x).2 ⟨b,fun k y hk hyo hyl=>?_⟩⟩;have hy:=c y (Kx hk) hyo hyl;refine⟨hy,?_⟩;rcases Nat.lt_or_ge k j with h|h
 ·exact absurd (hy▸hk) (aEt k h)
 exact h
theorem zG(l:List Tm):ofT l=cY l l.length:=by
 have hs:=gU tu l;have hp:=dX nX l;have hl:∀a b:Tm,ltOf nX a b=a.less b:=fun a b=>by
  rw[zI,Kv];simp[Kc]
 have inv:=vh (dU nX l) [] [] (fun x hx=>by cases hx) (hs.imp fun{x y} h=>by rw[←hl];exact h) (by simp[lB]) (fun x=>by simp[rG]) (fun y hy=>by cases hy);refine tY inv.1 (tB l l.length).1 fun x=>?_;rw[ar];refine(inv.2 x).trans ?_;unfold rG;simp only[KI,hp.mem_iff]
end Go.Proofs.YtecepaehmojpgaaGreat
namespace Go.Proofs.YtecepaehmojpgaaGreat
open Go.RowKit
def qQ(l:List Tm)(i:Nat)(t:Tm)(k:Nat):Bool:=t.ok&& !((KJ k).any fun k=>match l[k]? with|some y=>y.ok&&y.le t&&(decide (y≠t)||decide (k<i))|none=>false)
theorem bl(l:List Tm)(i:Nat)(t:Tm)(k:Nat)(hk:k<l.length):qQ l i t (k+1)=(qQ l i t k&& !(l[k].ok&&l[k].le t&&(decide (l[k]≠t)||decide (k<i)))):=by
 unfold qQ;rw[List.range_succ,List.any_append];simp only[List.any_cons,KM,Bool.or_false,Kf hk];cases t.ok<;>cases ((KJ k).any fun k=>match l[k]? with|some y=>y.ok&&y.le t&&(decide (y≠t)||decide (k<i))|none=>false)<;>simp
theorem y9(a b:Tm):veq (.plain (.agg 2) [.int, .int]) a.v b.v=some (decide (a=b)):=by
 have h1:((a.v).fits (.agg 2)&&(b.v).fits (.agg 2))=true:=by rw[a.aAC,b.aAC];rfl
 have h2:decide (a=b)=(a.e==b.e&&a.r==b.r):=by
  cases a;cases b;rw[Kv];simp
 rw[h2];simp only[veq,h1,if_true];simp[Ka,V.cells,iY,iZ]
theorem wK{α:Type}(p:α→Bool)(l:List α)(n:Nat)(hn:n≤l.length)(h1:∀x∈l.take n,p x=true)(h2:∀(h:n<l.length),p l[n]=false):l.takeWhile p=l.take n∧l.dropWhile p=l.drop n:=by
 induction l generalizing n with
 |nil=>simp at hn;subst hn;simp
 |cons a l ih=>
  cases n with
  |zero=>
   have:=h2 Zm;simp only[List.getElem_cons_zero] at this;simp[Kg,Kh,this]
  |succ n=>
   have ha:=h1 a Zm;obtain⟨q1,q2⟩:=ih n (by simpa using hn) (fun x hx=>h1 x (by simp[hx])) (fun h=>h2 (by simpa using h));simp[Kg,Kh,ha,q1,q2]
theorem nk(l:List Tm):∀i,(cY l i).length≤i
 |0=>by simp[cY]
 |i+1=>by
  have:=nk l i;unfold cY;split
  ·split
   ·unfold kw;have e:∀t:Tm,((cY l i).takeWhile (·.less t)).length+((cY l i).dropWhile (·.less t)).length=(cY l i).length:=fun t=>by rw[←Kj,Ko]
    rename_i t _ _;have:=e t;simp only[Kj,jL];omega
   omega
  omega
set_option maxHeartbeats 4000000 in
theorem Dd(own:Own)(l:List Tm)(hl:l.length≤1000000)(h:Hp):aY Tryz.prog 89 [tms own l] h (lst (.agg 2) ((cY l l.length).map Ka)):=by
 refine dB (fun L=>cP (fun L=>bG (Tm.aAN L) _) L) fun h' nx hh=>aF L.aXi fun hd=>?_;simp only[jL,jM,jA,jB,jN,jO,jP,jQ,V.undef];refine wl ?_;obtain⟨C,hC⟩:∃C:Nat×Own→Hp→Nat→Prop,∀i o hp nx1,C (i,o) hp nx1↔(i≤l.length∧h'.le hp∧nx≤nx1∧aI hp nx1∧((o= .nil∧cY l i=[])∨∃id,nx≤id∧o= .tok id∧hp id=some .tip∧cY l i≠ [])):=⟨fun p hp nx1=>(p.1≤l.length∧h'.le hp∧nx≤nx1∧aI hp nx1∧((p.2= .nil∧cY l p.1=[])∨∃id,nx≤id∧p.2= .tok id∧hp id=some .tip∧cY l p.1≠ [])),fun _ _ _ _=>Iff.rfl⟩;refine aO (fun p=>aB 92 0 [(0,tms own l),(3,tms p.2 (cY l p.1)),(4, .int .i64 p.1)]) C (fun p=>l.length-p.1) (0, .nil) ((hC _ _ _ _).2 ⟨Kw _,Kb _,Km _,hd, .inl ⟨rfl,rfl⟩⟩) ?_ ?_
 ·simp only[WkL,aB,jH,jI,jJ,cY,tms,go_sem,reduceIte,jA,jB,jC,jD,reduceCtorEq,jE,jF]
 rintro⟨i,o⟩ hp nx1 hCi;obtain⟨hi,hle,hnx,hdm,aCm⟩:=(hC _ _ _ _).1 hCi;simp only[aB,go_sem,reduceIte,jA,jB,jC,jD,reduceCtorEq,jE,jF];refine wle tms.eq_1 ?_;refine cJ _ rfl (fun hc=>?_) (fun hc=>?_)
 ·have hlt:i<l.length:=by simpa using hc
  have hg:=bO Ka l i hlt;refine wle (ee3 tms.eq_1 hg Tm.aAC) ?_;refine aQ (lU l[i] _) rfl (aT _) ?_;refine Zn ?_;refine wl ?_;have aBY:cY l (i+1)=if sK l i l[i]=true then kw (cY l i) l[i] else cY l i:=by
   conv=>lhs;unfold cY
   rw[Kf hlt]
  --the inner loop
  refine aO (fun k:Nat=>aB 92 0 [(0,tms own l),(3,tms o (cY l i)),(4, .int .i64 i),(5, .bool (qQ l i l[i] k)),(6, .int .i64 k)]) (fun k h2 nx2=>k≤l.length∧h2=hp∧nx1≤nx2) (fun k=>l.length-k) 0 ⟨Kw _,rfl,Km _⟩ ?_ ?_
  ·simp only[WkL,aB,jH,jI,jJ,tms,qQ,List.range_zero,KM,go_sem,reduceIte,jA,jB,jC,jD,reduceCtorEq,jE,jF]
  rintro k h2 nx2 ⟨hk,rfl,aBs⟩;generalize hQ:bH _ _ _ _ _=Q0;simp only[aB,go_sem,reduceIte,jA,jB,jC,jD,reduceCtorEq,jE,jF];refine wle tms.eq_1 ?_;refine cJ _ rfl (fun hc2=>?_) (fun hc2=>?_)
  ·have aBt:k<l.length:=by simpa using hc2
   have hgk:=bO Ka l k aBt;refine wl ?_;refine dO rfl ?_;refine cB rfl (by simp only[tms,hgk,jK,jG,Tm.aAC,go_sem,reduceIte,jA,jB,jC,jD,reduceCtorEq,jE,jF];try omega) ?_;simp only[tms,hgk,jK,jG,Tm.aAC,go_sem,reduceIte,jA,jB,jC,jD,reduceCtorEq,jE,jF];refine bK (lU l[k] Hp.none) rfl (bM _) ?_;refine cB rfl (by simp only[Tm.aAC,go_sem,reduceIte,jA,jB,jC,jD,reduceCtorEq,jE,jF];try omega) ?_;simp only[Tm.aAC,go_sem,reduceIte,jA,jB,jC,jD,reduceCtorEq,jE,jF];refine yA (true) _ rfl rfl ?sla ?h1a ?h2a;case h1a=>
    intro hgc hgd;simp only[tms,hgk,hg,jK,jG,Tm.aAC,go_sem,reduceIte,jA,jB,jC,jD,reduceCtorEq,jE,jF];refine cB rfl (by simp only[tms,hgk,hg,jK,jG,Tm.aAC,go_sem,reduceIte,jA,jB,jC,jD,reduceCtorEq,jE,jF];try omega) ?_;simp only[tms,hgk,hg,jK,jG,Tm.aAC,go_sem,reduceIte,jA,jB,jC,jD,reduceCtorEq,jE,jF];refine bK (wX l[k] l[i] Hp.none) rfl (bM _) ?_;refine cG ⟨?_,?_,?_⟩<;>exact rfl
   refine Zn ?_;refine cB rfl (by simp only[ go_sem,reduceIte,jA,jB,jC,jD,reduceCtorEq,jE,jF];try omega) ?_;refine Zn ?_;refine yA (true) _ rfl rfl ?slb ?h1b ?h2b;case h1b=>
    intro hgc hgd;simp only[tms,hgk,hg,jK,jG,Tm.aAC,y9,go_sem,reduceIte,jA,jB,jC,jD,reduceCtorEq,jE,jF];refine cB rfl (by simp only[tms,hgk,hg,jK,jG,Tm.aAC,y9,go_sem,reduceIte,jA,jB,jC,jD,reduceCtorEq,jE,jF];try omega) ?_;simp only[tms,hgk,hg,jK,jG,Tm.aAC,y9,go_sem,reduceIte,jA,jB,jC,jD,reduceCtorEq,jE,jF];refine cG ⟨?_,?_,?_⟩<;>exact rfl
   refine Zn ?_;refine yA (_) _ rfl rfl ?slc ?h1c ?h2c;case h1c=>
    intro hgc hgd;refine Zn ?_;refine cB rfl (by simp only[ go_sem,reduceIte,jA,jB,jC,jD,reduceCtorEq,jE,jF];try omega) ?_;refine Zn ?_;refine cG ⟨?_,?_,?_⟩<;>exact rfl
   refine Zn ?_;refine yA (true) _ rfl rfl ?sld ?h1d ?h2d;case h1d=>
    intro hgc hgd;simp only[hgd,go_sem,reduceIte,jA,jB,jC,jD,reduceCtorEq,jE,jF];refine cB rfl (by simp only[hgd,go_sem,reduceIte,jA,jB,jC,jD,reduceCtorEq,jE,jF];try omega) ?_;simp only[hgd,go_sem,reduceIte,jA,jB,jC,jD,reduceCtorEq,jE,jF];refine cG ⟨?_,?_,?_⟩<;>exact rfl
   refine Zn ?_;refine cB rfl (by simp only[ go_sem,reduceIte,jA,jB,jC,jD,reduceCtorEq,jE,jF];try omega) ?_;refine Zn ?_;refine cG (cW ?_);refine Zn ?_;refine aM ?_;have h3:decide ((k:Int)<i)=decide (k<i):=Zm;refine cJ _ rfl (fun hc3=>?_) (fun hc3=>?_)
   ·refine wl ?_;rw[bB or or];rw[←hQ];refine aD (k+1) or ⟨or,rfl,or⟩ ?_;have aIM:qQ l i l[i] (k+1)=false:=by
     rw[bl l i l[i] k aBt];revert hc3;rw[h3];by_cases he:l[k]=l[i]<;>by_cases hki:k<i<;>cases l[k].ok<;>cases l[k].le l[i]<;>simp[he,hki]
    simp only[WkL,aB,jH,jI,jJ,tms,aIM,go_sem,reduceIte,jA,jB,jC,jD,reduceCtorEq,jE,jF]
   refine wl ?_;rw[bB or or];rw[←hQ];refine aD (k+1) or ⟨or,rfl,or⟩ ?_;have aIM:qQ l i l[i] (k+1)=qQ l i l[i] k:=by
    rw[bl l i l[i] k aBt];revert hc3;rw[h3];by_cases he:l[k]=l[i]<;>by_cases hki:k<i<;>cases l[k].ok<;>cases l[k].le l[i]<;>simp[he,hki]
   simp only[WkL,aB,jH,jI,jJ,tms,aIM,go_sem,reduceIte,jA,jB,jC,jD,reduceCtorEq,jE,jF]
  have hge:k=l.length:=by have:¬k<l.length:=by simpa using hc2
                          omega
  rw[←hQ];refine gC ?_;repeat (first|with_reducible refine eH ?_|with_reducible refine dR ?_|with_reducible refine dC ?_|with_reducible refine bJ ZM ?_|with_reducible refine cR ?_|with_reducible refine aM ?_)
  have hkr:qQ l i l[i] k=sK l i l[i]:=by rw[hge];rfl
  rw[hkr];clear hQ Q0;generalize hQ:fP 1 _=Q0;refine wl ?_;refine cJ _ rfl (fun hc3=>?_) (fun hc3=>?_)
  ·have hkf:sK l i l[i]=false:=by simpa using hc3
   refine gC ?_;repeat (first|with_reducible refine eH ?_|with_reducible refine dR ?_|with_reducible refine dC ?_|with_reducible refine bJ ZM ?_|with_reducible refine cR ?_|with_reducible refine aM ?_)
   rw[←hQ];repeat (first|with_reducible refine eH ?_|with_reducible refine dR ?_|with_reducible refine dC ?_|with_reducible refine bJ ZM ?_|with_reducible refine cR ?_|with_reducible refine aM ?_)
   refine wl ?_;rw[bB or or];refine aD (i+1,o) (by simp only;omega) ((hC _ _ _ _).2 ⟨or,hle,or,hdm.up or,?_⟩) ?_
   ·rw[aBY,hkf];simpa using aCm
   simp only[hkf,Kq,if_false] at aBY;simp only[WkL,aB,jH,jI,jJ,tms,aBY,go_sem,reduceIte,jA,jB,jC,jD,reduceCtorEq,jE,jF]
  have hkt:sK l i l[i]=true:=by simpa using hc3
  simp only[hkt,if_true] at aBY;refine wl ?_
  --the place
  refine aO (fun a:Nat=>aB 92 0 [(0,tms own l),(3,tms o (cY l i)),(4, .int .i64 i),(7, .int .i64 a)]) (fun a h2' nx3=>a≤(cY l i).length∧(∀x∈(cY l i).take a,x.less l[i]=true)∧h2'=h2∧nx1≤nx3) (fun a=>(cY l i).length-a) 0 ⟨Kw _,Zm,rfl,or⟩ ?_ ?_
  ·simp only[WkL,aB,jH,jI,jJ,tms,go_sem,reduceIte,jA,jB,jC,jD,reduceCtorEq,jE,jF]
  rintro a h3 nx3 ⟨ha,aDK,rfl,aDl⟩;generalize hQ3:bH _ _ _ _ _=Q3;simp only[aB,go_sem,reduceIte,jA,jB,jC,jD,reduceCtorEq,jE,jF];refine wl ?_;refine dO rfl ?_;have aOd:=nk l i;have fin:∀nx4,nx1≤nx4→(cY l i).takeWhile (·.less l[i])=(cY l i).take a→(cY l i).dropWhile (·.less l[i])=(cY l i).drop a→lwp Tryz.prog (.draw 15 L.aFB L.aDq) Q0 ⟨aB 92 0 [(0,tms own l),(3,tms o (cY l i)),(4, .int .i64 i),(7, .int .i64 a)],h3,nx4⟩:=by
   intro nx4 aGD w1 w2;have aEW:cY l (i+1)=(cY l i).take a++l[i]::(cY l i).drop a:=by rw[aBY];unfold kw;rw[w1,w2]
   simp only[aB,go_sem,reduceIte,jA,jB,jC,jD,reduceCtorEq,jE,jF];refine dO rfl ?_;refine cB rfl (by simp only[hg,tms,jK,KF,KG,Kj,jG,Tm.aAC,go_sem,reduceIte,jA,jB,jC,jD,reduceCtorEq,jE,jF];try omega) ?_;simp only[hg,tms,jK,KF,KG,Kj,jG,Tm.aAC,go_sem,reduceIte,jA,jB,jC,jD,reduceCtorEq,jE,jF];have htk:(List.map Ka (cY l i)).take (cY l i).length=List.map Ka (cY l i):=by
    rw[List.take_of_length_le Zm]
   refine cG (eF ?_);refine Zn ?_;refine wl ?_;rw[←hQ];refine wl ?_;rw[bB or or];refine aD (i+1, .tok (nx4+14)) (by simp only;omega) ((hC _ _ _ _).2 ⟨or,?_,or,?_, .inr ⟨nx4+14,or,rfl,?_,by rw[aEW];simp⟩⟩) ?_
   ·repeat (first|exact hle|refine eV ?_ (aI.none hd or) _|refine oS ?_ (aI.none hd or))
   ·have hdm:=hdm.up aGD;repeat (first|exact aI.up hdm or|refine aI.aAh ?_ or _|refine aI.del ?_)
   ·simp only[go_sem,reduceIte,jA,jB,jC,jD,reduceCtorEq,jE,jF]
   simp only[WkL,aB,jH,jI,jJ,tms,aEW,htk,KH,Ky,List.map_take,List.map_drop,List.append_assoc,go_sem,reduceIte,jA,jB,jC,jD,reduceCtorEq,jE,jF]
  refine cB rfl (by simp only[tms,jK,go_sem,reduceIte,jA,jB,jC,jD,reduceCtorEq,jE,jF];try omega) ?_;simp only[tms,jK,go_sem,reduceIte,jA,jB,jC,jD,reduceCtorEq,jE,jF];by_cases hal:a<(cY l i).length
  ·have aHJ:decide ((a:Int)<((cY l i).length:Int))=true:=by simpa using hal
   have hga:=bO Ka (cY l i) a hal;simp only[aHJ,go_sem,reduceIte,jA,jB,jC,jD,reduceCtorEq,jE,jF];refine xv (by simp only[hga,hg,tms,jK,jG,Tm.aAC,go_sem,reduceIte,jA,jB,jC,jD,reduceCtorEq,jE,jF];try omega) ?_;simp only[hga,hg,tms,jK,jG,Tm.aAC,go_sem,reduceIte,jA,jB,jC,jD,reduceCtorEq,jE,jF];refine ja rfl (fun _=>?_) (fun h=>absurd rfl h);refine bK (fk (cY l i)[a] l[i] Hp.none) rfl (bM _) ?_;refine xv (by simp only[ go_sem,reduceIte,jA,jB,jC,jD,reduceCtorEq,jE,jF];try omega) ?_;refine Zn ?_;refine cG (cW ?_);refine Zn ?_;refine aM ?_;refine cJ _ rfl (fun hc4=>?_) (fun hc4=>?_)
   ·refine wl ?_;rw[bB or or];rw[←hQ3];refine aD (a+1) or ⟨or,?_,rfl,or⟩ ?_
    ·intro x hx;rw[Kk hal,Kd,KC] at hx;rcases hx with hx|rfl
     ·exact aDK x hx
     exact hc4
    simp only[WkL,aB,jH,jI,jJ,tms,go_sem,reduceIte,jA,jB,jC,jD,reduceCtorEq,jE,jF]
   rw[←hQ3];refine gC ?_;repeat (first|with_reducible refine eH ?_|with_reducible refine dR ?_|with_reducible refine dC ?_|with_reducible refine bJ ZM ?_|with_reducible refine cR ?_)
   obtain⟨w1,w2⟩:=wK (fun x:Tm=>x.less l[i]) (cY l i) a ha aDK (fun h=>by simpa using hc4);refine fT _ (kM ?_ (Kb _) (Km _)) (fin _ or w1 w2);simp only[WkL,aB,jH,jI,jJ,tms,go_sem,reduceIte,jA,jB,jC,jD,reduceCtorEq,jE,jF]
  have aHJ:decide ((a:Int)<((cY l i).length:Int))=false:=by simpa using hal
  simp only[aHJ,go_sem,reduceIte,jA,jB,jC,jD,reduceCtorEq,jE,jF];refine yA true _ rfl rfl [] (fun _ h=>absurd h Zm) ?_;refine Zn ?_;refine cB rfl (by simp only[ go_sem,reduceIte,jA,jB,jC,jD,reduceCtorEq,jE,jF];try omega) ?_;refine Zn ?_;refine cG (cW ?_);refine Zn ?_;refine aM ?_;refine cJ _ rfl (fun hc4=>?_) (fun hc4=>?_)
  ·cases hc4
  rw[←hQ3];refine gC ?_;repeat (first|with_reducible refine eH ?_|with_reducible refine dR ?_|with_reducible refine dC ?_|with_reducible refine bJ ZM ?_|with_reducible refine cR ?_)
  obtain⟨w1,w2⟩:=wK (fun x:Tm=>x.less l[i]) (cY l i) a ha aDK (fun h=>absurd h hal);refine fT _ (kM ?_ (Kb _) (Km _)) (fin _ or w1 w2);simp only[WkL,aB,jH,jI,jJ,tms,go_sem,reduceIte,jA,jB,jC,jD,reduceCtorEq,jE,jF]
 have hge:i=l.length:=by have:¬i<l.length:=by simpa using hc
                         omega
 refine gC ?_;repeat (first|with_reducible refine eH ?_|with_reducible refine dR ?_|with_reducible refine dC ?_|with_reducible refine bJ ZM ?_|with_reducible refine cR ?_|with_reducible refine aM ?_)
 refine wl ?_;refine bT (aG hp (Kb _) ⟨?_,hle⟩);refine Zn ?_;rw[hge] at aCm⊢;rcases aCm with⟨rfl,h1⟩|⟨id,hid,rfl,aBH,hne⟩
 ·rw[h1];rfl
 generalize cY l l.length=r at hne⊢;cases r with
 |nil=>exact absurd rfl hne
 |cons x r=>rfl
end Go.Proofs.YtecepaehmojpgaaGreat
namespace Go.Proofs.YtecepaehmojpgaaGreat
open Go.ChangeShapes Go.WideShapes Go.ChangeAt Go.RowKit
theorem Gc{a k:Nat}:(a=a+1+(k+1))=False:=bd or
theorem FP{a k:Nat}:(a+1+(k+1)=a)=False:=bd or
attribute [local go_sem] Gc FP
end Go.Proofs.YtecepaehmojpgaaGreat
namespace Go.Proofs.YtecepaehmojpgaaGreat
open Go.RowKit
theorem f9(l:List Tm):lB (ofT l):=by rw[zG];exact(tB l l.length).1
theorem xF(l:List Tm)(x:Tm):x∈ofT l↔rG l x:=by rw[zG];exact ar l x
theorem bf(l:List Tm):∀(n:Nat) (y:Tm),(y.e+y.r).toNat≤n→y∈l→y.ok=true→∃z,rG l z∧z.le y=true
 |n,y,hn,hy,ho=>by
  by_cases h:∃y',y'∈l∧y'.ok=true∧y'.le y=true∧y'≠y
  ·obtain⟨y',h1,h2,h3,h4⟩:=h;have hlt:(y'.e+y'.r).toNat<(y.e+y.r).toNat:=by
    have e1:¬(y'.e=y.e∧y'.r=y.r):=fun e=>h4 (by cases y;cases y';simp at e;simp[e]);simp[Ke,Tm.ok] at h2 h3 ho;omega
   cases n with
   |zero=>omega
   |succ n=>
    obtain⟨z,q1,q2⟩:=bf l n y' or h1 h2;exact⟨z,q1,Tm.le_trans q2 h3⟩
  exact⟨y,⟨hy,ho,fun y' h1 h2 h3=>Decidable.byContradiction fun h4=>h ⟨y',h1,h2,h3,h4⟩⟩,Tm.le_refl y⟩
theorem BQ{l:List Tm}{y:Tm}(hy:y∈l)(ho:y.ok=true):∃z∈ofT l,z.le y=true:=by
 obtain⟨z,h1,h2⟩:=bf l _ y (Km _) hy ho;exact⟨z,(xF l z).2 h1,h2⟩
theorem Fm{l:List Tm}{x:Tm}(h:x∈ofT l):x.ok=true∧x∈l:=⟨((xF l x).1 h).2.1,((xF l x).1 h).1⟩
theorem BP{a b:List Tm}(h:∀x:Tm,x.ok=true→(x∈a↔x∈b)):ofT a=ofT b:=by
 refine tY (f9 a) (f9 b) fun x=>?_;rw[xF,xF];constructor
 ·rintro⟨h1,h2,h3⟩;exact⟨(h x h2).1 h1,h2,fun y hy ho=>h3 y ((h y ho).2 hy) ho⟩
 rintro⟨h1,h2,h3⟩;exact⟨(h x h2).2 h1,h2,fun y hy ho=>h3 y ((h y ho).1 hy) ho⟩
end Go.Proofs.YtecepaehmojpgaaGreat
namespace Go.Proofs.YtecepaehmojpgaaGreat
open Go.RowKit
attribute [local irreducible] IntKind.wrap
end Go.Proofs.YtecepaehmojpgaaGreat
