/-
Texts of this proof,one behind the other. No conditions.
-/
import Derived.Test.YthikfnmcjipobaaGreatKf
import Derived.Test.YthikfnmcjipobaaGreatKe
import Derived.Test.YthikfnmcjipobaaGreatKg
/-
Contracts of package chain that sort nothing,and of the law's Document. No conditions.
-/
namespace Go.Proofs.YthikfnmcjipobaaGreat
open Nat renaming reduceAdd→jA,reduceSub→jB,reduceLT→jC,reduceLeDiff→jD,reduceEqDiff→jE
open Int renaming reduceToNat→jF,toNat_natCast→jG,natCast_add→jH,natCast_one→jI,natCast_zero→jJ
open List renaming length_map→jK,length_cons→jL,length_nil→jM,replicate_succ→jN,replicate_zero→jO,cons_append→jP,nil_append→jQ
set_option linter.unusedSimpArgs false
set_option linter.unusedVariables false
set_option linter.unusedSectionVars false
open Go.RowKit
attribute [local go_sem] gL dQ aA.ok aA.next LOp.ok LOp.next bC.ok bC.out aQ.ev bN iI cH bO cO V.fits V.leafy V.cells V.cell V.undef gS fI dZ Sh.size Hp.set Hp.del gH fT fW cK aA.dok aA.dres LOp.dok LOp.dout lI iD qR bS kM Hp.turn veq gI eX List.take_succ_cons List.take_zero List.take_nil List.drop_succ_cons List.drop_zero List.drop_nil List.set_cons_succ List.set_cons_zero List.getD_cons_succ List.getD_cons_zero jL jM List.map_cons List.map_nil List.all_cons List.all_nil List.mem_cons List.not_mem_nil jN jO jP jQ List.append_nil List.isEmpty_cons List.isEmpty_nil dW fJ hM Option.getD_some Option.isSome_some Option.isSome_none Nat.add_eq Nat.zero_add Nat.add_zero true_and and_true and_self true_implies implies_true false_implies forall_const forall_eq forall_eq_or_imp ne_eq not_false_eq_true not_true_eq_false Bool.not_true Bool.not_false decide_true decide_false Bool.and_true Bool.true_and Bool.and_false Bool.false_and true_or or_true false_or or_false eq_self Bool.false_eq_true mK iO gC aD fH eT eB dU cL dT aZ aX dN jG Int.toNat_zero List.take_length
theorem aAG(x t:Tm)(n:Nat)(h:Hp)(hn:h n=some (.arr (.agg 2) [t.v])):cM Tryz.prog 85 [x.v, .ptr n (.agg 2) 0 0] h (.bool (x.le t)):=by
 refine bL (fun L=>trivial) fun h' nx hh=>aG L.chain_Reaches_1_low fun hd=>?_
 simp only[jL,jM,jA,jB,jN,jO,jP,jQ,V.undef]
 have hn':=hh _ _ hn rfl
 have hlt:=hd _ _ hn'
 have hne:(n=nx)=False:=by simp;omega
 have hne2:(n=nx+1)=False:=by simp;omega
 refine aN (aO ?_)
 refine bR 2 rfl (by simp only[L.chain_Reaches_1_r0,Tm.v,go_sem,reduceIte,jA,jB,jC,jD,reduceCtorEq,jE,jF];try omega) ?_
 simp only[L.chain_Reaches_1_r0,Tm.v,go_sem,reduceIte,jA,jB,jC,jD,reduceCtorEq,jE,jF]
 refine aB (aN (aO ?_))
 simp only[Tm.v] at hn'
 refine bR 2 rfl (by simp only[L.chain_Reaches_1_r1,Tm.v,hn',hne,go_sem,reduceIte,jA,jB,jC,jD,reduceCtorEq,jE,jF];try omega) ?_
 simp only[L.chain_Reaches_1_r1,Tm.v,hn',hne,go_sem,reduceIte,jA,jB,jC,jD,reduceCtorEq,jE,jF]
 refine aJ (aDA x t _) (by simp only[Tm.v,go_sem,reduceIte,jA,jB,jC,jD,reduceCtorEq,jE,jF]) (aS _) ?_
 simp only[go_sem,reduceIte,jA,jB,jC,jD,reduceCtorEq,jE,jF]
 refine bR 1 rfl (by simp only[L.chain_Reaches_1_r1,go_sem,reduceIte,jA,jB,jC,jD,reduceCtorEq,jE,jF];try omega) ?_
 simp only[L.chain_Reaches_1_r1,go_sem,reduceIte,jA,jB,jC,jD,reduceCtorEq,jE,jF]
 refine aB (cV (aM h' (aW hd (Hp.le_refl _) (by omega) _) ⟨?_,rfl⟩))
 simp only[go_sem,reduceIte,jA,jB,jC,jD,reduceCtorEq,jE,jF]
theorem pU(own:Own)(l:List Tm)(t:Tm)(h:Hp)(hl:l.length≤1000000):cM Tryz.prog 28 [tms own l,t.v] h (.bool (l.any fun x=>x.le t)):=by
 refine bL (fun L=>trivial) fun h' nx hh=>aG L.chain_Reaches_low fun hd=>?_
 simp only[jL,jM,jA,jB,jN,jO,jP,jQ,V.undef]
 refine aN (aO ?_)
 refine bR 2 rfl (by simp only[L.chain_Reaches_r0,Tm.v,go_sem,reduceIte,jA,jB,jC,jD,reduceCtorEq,jE,jF];try omega) ?_
 simp only[L.chain_Reaches_r0,Tm.v,go_sem,reduceIte,jA,jB,jC,jD,reduceCtorEq,jE,jF]
 refine aB (aN (aO ?_))
 refine bR 2 rfl (by simp only[L.chain_Reaches_r1,Tm.v,go_sem,reduceIte,jA,jB,jC,jD,reduceCtorEq,jE,jF];try omega) ?_
 simp only[L.chain_Reaches_r1,Tm.v,go_sem,reduceIte,jA,jB,jC,jD,reduceCtorEq,jE,jF]
 refine aJ (oT (fun x=>x.le t) own l _ _ _ (fun x=>aAG x t nx _ (by simp[Tm.v,Hp.set])) hl) (by simp only[Tm.v,go_sem,reduceIte,jA,jB,jC,jD,reduceCtorEq,jE,jF]) (aS _) ?_
 simp only[go_sem,reduceIte,jA,jB,jC,jD,reduceCtorEq,jE,jF]
 refine bR 1 rfl (by simp only[L.chain_Reaches_r1,go_sem,reduceIte,jA,jB,jC,jD,reduceCtorEq,jE,jF];try omega) ?_
 simp only[L.chain_Reaches_r1,go_sem,reduceIte,jA,jB,jC,jD,reduceCtorEq,jE,jF]
 refine aB (cV (aM h' (aW hd (Hp.le_refl _) (by omega) _) ⟨?_,rfl⟩))
 simp only[go_sem,reduceIte,jA,jB,jC,jD,reduceCtorEq,jE,jF]
theorem aCj(x:Tm)(own:Own)(a:List Tm)(n:Nat)(h:Hp)(hn:h n=some (.arr .leaf [tms own a]))(hl:a.length≤1000000):cM Tryz.prog 87 [x.v, .ptr n .leaf 0 0] h (.bool (!(a.any fun y=>y.le x))):=by
 refine bL (fun L=>trivial) fun h' nx hh=>aG L.chain_AtMost_1_low fun hd=>?_
 simp only[jL,jM,jA,jB,jN,jO,jP,jQ,V.undef]
 have hn':=hh _ _ hn rfl
 have hlt:=hd _ _ hn'
 have hne:(n=nx)=False:=by simp;omega
 refine aN (aO ?_)
 refine bR 2 rfl (by simp only[L.chain_AtMost_1_r0,Tm.v,go_sem,reduceIte,jA,jB,jC,jD,reduceCtorEq,jE,jF];try omega) ?_
 simp only[L.chain_AtMost_1_r0,Tm.v,go_sem,reduceIte,jA,jB,jC,jD,reduceCtorEq,jE,jF]
 refine aB (aN (aO ?_))
 refine bR 2 rfl (by simp only[L.chain_AtMost_1_r1,Tm.v,hn',hne,go_sem,reduceIte,jA,jB,jC,jD,reduceCtorEq,jE,jF];try omega) ?_
 simp only[L.chain_AtMost_1_r1,Tm.v,hn',hne,go_sem,reduceIte,jA,jB,jC,jD,reduceCtorEq,jE,jF]
 refine aJ (pU own a x _ hl) (by simp only[Tm.v,tms,go_sem,reduceIte,jA,jB,jC,jD,reduceCtorEq,jE,jF]) (aS _) ?_
 simp only[go_sem,reduceIte,jA,jB,jC,jD,reduceCtorEq,jE,jF]
 refine bR 2 rfl (by simp only[L.chain_AtMost_1_r1,go_sem,reduceIte,jA,jB,jC,jD,reduceCtorEq,jE,jF];try omega) ?_
 simp only[L.chain_AtMost_1_r1,go_sem,reduceIte,jA,jB,jC,jD,reduceCtorEq,jE,jF]
 refine aB (cV (aM h' (aW hd (Hp.le_refl _) (by omega) _) ⟨?_,rfl⟩))
 simp only[go_sem,reduceIte,jA,jB,jC,jD,reduceCtorEq,jE,jF]
theorem xC(own own':Own)(a b:List Tm)(h:Hp)(ha:a.length≤1000000)(hb:b.length≤1000000):cM Tryz.prog 30 [tms own a,tms own' b] h (.bool (!(b.any fun x=> !(a.any fun y=>y.le x)))):=by
 refine bL (fun L=>trivial) fun h' nx hh=>aG L.chain_AtMost_low fun hd=>?_
 simp only[jL,jM,jA,jB,jN,jO,jP,jQ,V.undef]
 refine aN (aO ?_)
 refine bR 2 rfl (by simp only[L.chain_AtMost_r0,tms,go_sem,reduceIte,jA,jB,jC,jD,reduceCtorEq,jE,jF];try omega) ?_
 simp only[L.chain_AtMost_r0,tms,go_sem,reduceIte,jA,jB,jC,jD,reduceCtorEq,jE,jF]
 refine aB (aN (aO ?_))
 refine bR 2 rfl (by simp only[L.chain_AtMost_r1,tms,go_sem,reduceIte,jA,jB,jC,jD,reduceCtorEq,jE,jF];try omega) ?_
 simp only[L.chain_AtMost_r1,tms,go_sem,reduceIte,jA,jB,jC,jD,reduceCtorEq,jE,jF]
 refine aJ (oT (fun x=> !(a.any fun y=>y.le x)) own' b _ _ _ (fun x=>aCj x own a nx _ (by simp[tms,Hp.set]) ha) hb) (by simp only[tms,go_sem,reduceIte,jA,jB,jC,jD,reduceCtorEq,jE,jF]) (aS _) ?_
 simp only[go_sem,reduceIte,jA,jB,jC,jD,reduceCtorEq,jE,jF]
 refine bR 2 rfl (by simp only[L.chain_AtMost_r1,go_sem,reduceIte,jA,jB,jC,jD,reduceCtorEq,jE,jF];try omega) ?_
 simp only[L.chain_AtMost_r1,go_sem,reduceIte,jA,jB,jC,jD,reduceCtorEq,jE,jF]
 refine aB (cV (aM h' (aW hd (Hp.le_refl _) (by omega) _) ⟨?_,rfl⟩))
 simp only[go_sem,reduceIte,jA,jB,jC,jD,reduceCtorEq,jE,jF]
end Go.Proofs.YthikfnmcjipobaaGreat
/-
Contracts of package chain:the antichain of times;the law's fixed fact. No conditions.
-/
namespace Go.Proofs.YthikfnmcjipobaaGreat
open Nat renaming reduceAdd→jA,reduceSub→jB,reduceLT→jC,reduceLeDiff→jD,reduceEqDiff→jE
open Int renaming reduceToNat→jF,toNat_natCast→jG,natCast_add→jH,natCast_one→jI,natCast_zero→jJ
open List renaming length_map→jK,length_cons→jL,length_nil→jM,replicate_succ→jN,replicate_zero→jO,cons_append→jP,nil_append→jQ
set_option linter.unusedSimpArgs false
set_option linter.unusedVariables false
set_option linter.unusedSectionVars false
open Go.RowKit Go.Sort
attribute [local go_sem] Option.some.injEq Prod.mk.injEq false_and and_false Bool.true_eq_false mP jR jX gG iV if_true Bool.true_and mF dS iH gL dQ aA.ok aA.next LOp.ok LOp.next bC.ok bC.out aQ.ev bN iI cH bO cO V.undef Sh.size gH fW cK aA.dok aA.dres LOp.dok LOp.dout lI iD gI eX List.take_succ_cons List.take_zero List.take_nil List.drop_succ_cons List.drop_zero List.drop_nil List.set_cons_succ List.set_cons_zero List.getD_cons_succ List.getD_cons_zero jL jM List.map_cons List.map_nil List.all_cons List.all_nil List.mem_cons List.not_mem_nil jN jO jP jQ List.append_nil List.isEmpty_cons List.isEmpty_nil dW fJ hM Option.getD_some Option.isSome_some Option.isSome_none Nat.add_eq Nat.zero_add Nat.add_zero true_and and_true and_self true_implies implies_true false_implies forall_const forall_eq forall_eq_or_imp ne_eq not_false_eq_true not_true_eq_false Bool.not_true Bool.not_false decide_true decide_false Bool.and_true Bool.true_and Bool.and_false Bool.false_and true_or or_true false_or or_false eq_self Bool.false_eq_true mK iO gC aD fH eT eB dU cL dT aZ aX dN jG Int.toNat_zero List.take_length Hp.set_app Hp.del_app gW fV aA.plain LOp.isCall aA.dplain LOp.isStop eM kT gY lY fN V.gd_true V.gd_false fM eK eL fL bG aY aU fK eS beq_true beq_false dD dE dF cB cC bH bI cP eQ cE dK dH bJ dI dL eN eO bK dJ bF cD eP bP dG bQ bB gQ gO gP gN dM cG dX cR eG eF eE eD eC bX bW cZ cY cX cA bZ bY eJ eI eH dC dB dA cQ cF bS kM Hp.turn fT Option.isNone_some Option.isNone_none
theorem Tm.fits_v(t:Tm):t.v.fits (.agg 2)=true:=by simp[Tm.v,V.fits,V.leafy]
theorem vL:aH Tryz.prog 152=some (LB.SortedFunc (.agg 2) 175 176):=by kernel_rfl
theorem zO:aH Tryz.prog 175=some (LB.Collect (.agg 2) 194):=by kernel_rfl
theorem wQ:aH Tryz.prog 194=some (LB.AppendSeq (.agg 2) (.agg [.int .i64 0, .int .i64 0]) 16):=by kernel_rfl
theorem aAK:aH Tryz.prog 153=some (LB.Values (.agg 2) 177):=by kernel_rfl
theorem yA:aH Tryz.prog 177=some (LB.ValuesIt (.agg 2) (.agg [.int .i64 0, .int .i64 0])):=by kernel_rfl
def oN(a b:Tm):Int:=orI [mV a.e b.e,mV a.r b.r]
theorem aBD(a b:Tm):cM Tryz.prog 68 [a.v,b.v] Hp.none (.int .i64 (oN a b)):=by
 refine bL (fun L=>trivial) fun h' nx hh=>aG L.stamp_Compare_low fun hd=>?_
 simp only[jL,jM,jA,jB,jN,jO,jP,jQ,V.undef]
 repeat (first|with_reducible refine aN ?_|with_reducible refine aI ?_|with_reducible refine aP ?_|with_reducible refine aB ?_|with_reducible refine aC ?_|with_reducible refine aO ?_|(refine aR rfl (by simp only[Tm.v,go_sem,reduceIte,jA,jB,jC,jD,reduceCtorEq,jE,jF];try omega) ?_;simp only[Tm.v,go_sem,reduceIte,jA,jB,jC,jD,reduceCtorEq,jE,jF])|(with_reducible refine aK ?_))
 refine gE rfl ?_
 refine fQ rfl (by simp only[Tm.v,go_sem,reduceIte,jA,jB,jC,jD,reduceCtorEq,jE,jF];try omega) ?_
 simp only[Tm.v,go_sem,reduceIte,jA,jB,jC,jD,reduceCtorEq,jE,jF]
 refine cT (qJ qA yG a.e b.e Hp.none) rfl (dR _) ?_
 refine fQ rfl (by simp only[Tm.v,go_sem,reduceIte,jA,jB,jC,jD,reduceCtorEq,jE,jF];try omega) ?_
 simp only[Tm.v,go_sem,reduceIte,jA,jB,jC,jD,reduceCtorEq,jE,jF]
 refine cT (qJ qA yG a.r b.r Hp.none) rfl (dR _) ?_
 refine fQ rfl (by simp only[Tm.v,go_sem,reduceIte,jA,jB,jC,jD,reduceCtorEq,jE,jF];try omega) ?_
 simp only[Tm.v,go_sem,reduceIte,jA,jB,jC,jD,reduceCtorEq,jE,jF]
 refine cT (wL wO _ [mV a.e b.e,mV a.r b.r] (by simp) Hp.none) rfl (dR _) ?_
 refine fQ rfl (by simp only[Tm.v,go_sem,reduceIte,jA,jB,jC,jD,reduceCtorEq,jE,jF];try omega) ?_
 simp only[Tm.v,go_sem,reduceIte,jA,jB,jC,jD,reduceCtorEq,jE,jF]
 refine fZ (fP ?_)
 simp only[go_sem,reduceIte,jA,jB,jC,jD,reduceCtorEq,jE,jF]
 refine aB (cV (aM h' ?_ ⟨rfl,rfl⟩))
 exact(by repeat (first|exact Hp.le_refl _|refine aW hd ?_ (by omega) _|refine bD hd ?_ (by omega)))
theorem pP:(∀a b,mV a b<0↔a<b)∧∀a b,mV a b=0↔a=b:=by
 constructor<;>intro a b<;>unfold mV<;>(repeat' split)<;>omega
theorem aET(a b:Tm):(oN a b<0)↔(a.e<b.e∨(a.e=b.e∧a.r<b.r)):=by
 have h1:=pP.1 a.e b.e
 have h2:=pP.2 a.e b.e
 have h3:=pP.1 a.r b.r
 unfold oN orI
 split
 ·rename_i h0
  have he:=h2.1 h0
  unfold orI
  split
  ·rename_i h4
   have:=(pP.2 a.r b.r).1 h4
   unfold orI
   omega
  omega
 rename_i h0
 have:a.e≠b.e:=fun h=>h0 (h2.2 h)
 omega
theorem wN(a b:Tm):ltOf oN a b=decide (a.e<b.e∨(a.e=b.e∧a.r<b.r)):=by
 unfold ltOf
 rw[Bool.eq_iff_iff]
 simp[aET]
theorem aCt:SWO (ltOf oN):=by
 refine⟨fun x=>?_,fun x y z=>?_,fun x y z=>?_⟩<;>simp only[wN,decide_eq_true_eq,decide_eq_false_iff_not]<;>omega
theorem aGd(x y:Tm)(h1:ltOf oN x y=false)(h2:ltOf oN y x=false):x=y:=by
 simp only[wN,decide_eq_false_iff_not] at h1 h2
 cases x;cases y
 simp only[Tm.mk.injEq] at*
 omega
theorem aAE(own:Own)(l:List Tm)(hl:l.length≤1000000):
 cM Tryz.prog 152 [.fn (.func 177) [] [.ept .leaf [(tms own l).loose] 0 0], .fn (.func 68) [] []] Hp.none (lst (.agg 2) ((gD oN l).map Tm.v)):=by
 have hs:∃own',(tms own l).loose=tms own' l:=by cases own<;>exact⟨_,rfl⟩
 obtain⟨own',hs⟩:=hs
 rw[hs]
 exact xX Tm.v aHM Tm.fits_v (fun x L=>x.names_v L) (by intro w;exact Tryz.isAgg24 w) (by intro w;exact Tryz.sizeOf24 w) (by kernel_rfl) vL zO wQ rfl (by omega) rfl _ _ Hp.none l
  (uU Tm.v Tm.fits_v yA rfl own' l (by omega)) (by omega) oN aCt aGd _ [] (fun x y=>by simpa using aBD x y)
def lV:List Tm→List Tm→List Tm
 |out,[]=>out
 |out,t::l=>lV (if t.ok&& !(out.any fun x=>x.le t) then out++[t] else out) l
def ofT(l:List Tm):List Tm:=lV [] (gD oN l)
theorem aCI(out l:List Tm):(lV out l).length≤out.length+l.length:=by
 induction l generalizing out with
 |nil=>simp[lV]
 |cons t l ih=>
  unfold lV
  refine Nat.le_trans (ih _) ?_
  split<;>simp<;>omega
theorem aEH(l:List Tm):(ofT l).length≤l.length:=by
 have:=aCI [] (gD oN l)
 simpa [ofT,(gJ oN l).length_eq] using this
theorem aBm(out l:List Tm)(t:Tm):lV out (l++[t])=if (t.ok&& !((lV out l).any fun x=>x.le t))=true then lV out l++[t] else lV out l:=by
 induction l generalizing out with
 |nil=>simp[lV]
 |cons x l ih=>simp only[jP,lV];exact ih _
theorem aCi(own:Own)(l:List Tm)(hl:l.length≤1000000)(h:Hp):cM Tryz.prog 126 [tms own l] h (lst (.agg 2) ((ofT l).map Tm.v)):=by
 refine iG (fun L=>iJ (fun L=>eV (Tm.names_v L) _) L) fun h' nx hh=>aG L.chain_Of_low fun hd=>?_
 simp only[jL,jM,jA,jB,jN,jO,jP,jQ,V.undef]
 repeat (first|with_reducible refine aN ?_|with_reducible refine aI ?_|with_reducible refine aP ?_|with_reducible refine aB ?_|with_reducible refine aC ?_|with_reducible refine aO ?_|(refine aR rfl (by simp only[ go_sem,reduceIte,jA,jB,jC,jD,reduceCtorEq,jE,jF];try omega) ?_;simp only[ go_sem,reduceIte,jA,jB,jC,jD,reduceCtorEq,jE,jF])|(with_reducible refine aK ?_))
 refine aJ (yQ aAK own (l.map Tm.v) (fun L=>eV (Tm.names_v L) _) Hp.none) rfl (dR _) ?_
 simp only[go_sem,reduceIte,jA,jB,jC,jD,reduceCtorEq,jE,jF]
 refine aJ (aAE own l hl) rfl (dR _) ?_
 simp only[go_sem,reduceIte,jA,jB,jC,jD,reduceCtorEq,jE,jF]
 obtain⟨S,hS⟩:∃S,S=gD oN l:=⟨_,rfl⟩
 have hSl:S.length=l.length:=by rw[hS];exact(gJ oN l).length_eq
 rw[←hS]
 obtain⟨ow,how⟩:=mN (.agg 2) (S.map Tm.v)
 rw[how]
 repeat (first|with_reducible refine aN ?_|with_reducible refine aI ?_|with_reducible refine aP ?_|with_reducible refine aB ?_|with_reducible refine aC ?_|with_reducible refine aO ?_|(refine aR rfl (by simp only[jK,go_sem,reduceIte,jA,jB,jC,jD,reduceCtorEq,jE,jF];try omega) ?_;simp only[jK,go_sem,reduceIte,jA,jB,jC,jD,reduceCtorEq,jE,jF])|(with_reducible refine aK ?_))
 obtain⟨C,hC⟩:∃C:Nat×Own→Hp→Nat→Prop,∀i o hp nx1,C (i,o) hp nx1↔(i≤S.length∧h'.le hp∧nx≤nx1∧aT hp nx1∧((o= .nil∧lV [] (S.take i)=[])∨∃id,nx≤id∧o= .tok id∧hp id=some .tip∧lV [] (S.take i)≠ [])):=⟨fun p hp nx1=>(p.1≤S.length∧h'.le hp∧nx≤nx1∧aT hp nx1∧((p.2= .nil∧lV [] (S.take p.1)=[])∨∃id,nx≤id∧p.2= .tok id∧hp id=some .tip∧lV [] (S.take p.1)≠ [])),fun _ _ _ _=>Iff.rfl⟩
 refine cI (fun p=>aD 28 0 [(3,tms p.2 (lV [] (S.take p.1))),(8, .sl (.agg 2) ow (S.map Tm.v)),(9, .int .i64 S.length),(10, .int .i64 p.1)]) C (fun p=>S.length-p.1) (0, .nil) ((hC _ _ _ _).2 ⟨Nat.zero_le _,Hp.le_refl _,Nat.le_refl _,hd, .inl ⟨rfl,by simp[lV]⟩⟩) ?_ ?_
 ·simp only[WkL,aD,jH,jI,jJ,lV,tms,go_sem,reduceIte,jA,jB,jC,jD,reduceCtorEq,jE,jF]
 rintro⟨i,o⟩ hp nx1 hCi
 obtain⟨hi,hle,hnx,hdm,hown⟩:=(hC _ _ _ _).1 hCi
 simp only[aD,go_sem,reduceIte,jA,jB,jC,jD,reduceCtorEq,jE,jF]
 repeat (first|with_reducible refine aN ?_|with_reducible refine aI ?_|with_reducible refine aP ?_|with_reducible refine aB ?_|with_reducible refine aC ?_|with_reducible refine aO ?_|(refine aR rfl (by simp only[ go_sem,reduceIte,jA,jB,jC,jD,reduceCtorEq,jE,jF];try omega) ?_;simp only[ go_sem,reduceIte,jA,jB,jC,jD,reduceCtorEq,jE,jF])|(with_reducible refine aK ?_))
 refine fY _ rfl (fun hc=>?_) (fun hc=>?_)
 ·have hlt:i<S.length:=by simpa using hc
  have hg:=fE Tm.v S i hlt
  have htk:S.take (i+1)=S.take i++[S[i]]:=List.take_succ_eq_append_getElem hlt
  have hlen:(lV [] (S.take i)).length≤1000000:=Nat.le_trans (aCI _ _) (by simp;omega)
  repeat (first|with_reducible refine aN ?_|with_reducible refine aI ?_|with_reducible refine aP ?_|with_reducible refine aB ?_|with_reducible refine aC ?_|with_reducible refine aO ?_|(refine aR rfl (by simp only[hg,jK,jG,Tm.fits_v,go_sem,reduceIte,jA,jB,jC,jD,reduceCtorEq,jE,jF];try omega) ?_;simp only[hg,jK,jG,Tm.fits_v,go_sem,reduceIte,jA,jB,jC,jD,reduceCtorEq,jE,jF])|(with_reducible refine aK ?_))
  refine aJ (tE S[i] _) rfl (aS _) ?_
  simp only[ go_sem,reduceIte,jA,jB,jC,jD,reduceCtorEq,jE,jF]
  repeat (first|with_reducible refine aN ?_|with_reducible refine aI ?_|with_reducible refine aP ?_|with_reducible refine aB ?_|with_reducible refine aC ?_|with_reducible refine aO ?_|(refine aR rfl (by simp only[ go_sem,reduceIte,jA,jB,jC,jD,reduceCtorEq,jE,jF];try omega) ?_;simp only[ go_sem,reduceIte,jA,jB,jC,jD,reduceCtorEq,jE,jF])|(with_reducible refine aK ?_))
  refine aHo (S[i].ok) rfl rfl ?sl ?h1 ?h2
  case h1=>
   intro hgd
   simp only[Tm.fits_v,go_sem,reduceIte,jA,jB,jC,jD,reduceCtorEq,jE,jF]
   repeat (first|with_reducible refine aN ?_|with_reducible refine aI ?_|with_reducible refine aP ?_|with_reducible refine aB ?_|with_reducible refine aC ?_|with_reducible refine aO ?_|(refine aR rfl (by simp only[Tm.fits_v,go_sem,reduceIte,jA,jB,jC,jD,reduceCtorEq,jE,jF];try omega) ?_;simp only[Tm.fits_v,go_sem,reduceIte,jA,jB,jC,jD,reduceCtorEq,jE,jF])|(with_reducible refine aK ?_))
   refine aJ (pU o (lV [] (S.take i)) S[i] _ hlen) rfl (aS _) ?_
   simp only[go_sem,reduceIte,jA,jB,jC,jD,reduceCtorEq,jE,jF]
   repeat (first|with_reducible refine aN ?_|with_reducible refine aI ?_|with_reducible refine aP ?_|with_reducible refine aB ?_|with_reducible refine aC ?_|with_reducible refine aO ?_|(refine aR rfl (by simp only[ go_sem,reduceIte,jA,jB,jC,jD,reduceCtorEq,jE,jF];try omega) ?_;simp only[ go_sem,reduceIte,jA,jB,jC,jD,reduceCtorEq,jE,jF])|(with_reducible refine aK ?_))
   exact rfl
  simp only[go_sem,reduceIte,jA,jB,jC,jD,reduceCtorEq,jE,jF]
  repeat (first|with_reducible refine aN ?_|with_reducible refine aI ?_|with_reducible refine aP ?_|with_reducible refine aB ?_|with_reducible refine aC ?_|with_reducible refine aO ?_|(refine aR rfl (by simp only[ go_sem,reduceIte,jA,jB,jC,jD,reduceCtorEq,jE,jF];try omega) ?_;simp only[ go_sem,reduceIte,jA,jB,jC,jD,reduceCtorEq,jE,jF])|(with_reducible refine aK ?_))
  refine fY _ rfl (fun hc=>?_) (fun hc=>?_)
  ·have hnew:lV [] (S.take (i+1))=lV [] (S.take i)++[S[i]]:=by
    rw[htk,aBm,if_pos]
    revert hc
    cases S[i].ok<;>simp
   rcases hown with⟨rfl,hemp⟩|⟨id,hid,rfl,htip,hne⟩
   ·rw[hemp] at hnew⊢
    repeat (first|with_reducible refine aN ?_|with_reducible refine aI ?_|with_reducible refine aP ?_|with_reducible refine aB ?_|with_reducible refine aC ?_|with_reducible refine aO ?_|(refine aR rfl (by simp only[tms,Tm.fits_v,dN,List.map_nil,go_sem,reduceIte,jA,jB,jC,jD,reduceCtorEq,jE,jF];try omega) ?_;simp only[tms,Tm.fits_v,dN,List.map_nil,go_sem,reduceIte,jA,jB,jC,jD,reduceCtorEq,jE,jF])|(with_reducible refine aK ?_))
    rw[cS (by omega) (by omega)]
    refine aL (i+1, .tok (nx1+3)) (by simp only;omega) ((hC _ _ _ _).2 ⟨by omega,?_,by omega,?_, .inr ⟨nx1+3,by omega,rfl,?_,by rw[hnew];simp⟩⟩) ?_
    ·repeat (first|exact hle|refine iR ?_ (aT.none hd (by omega)) _|refine qE ?_ (aT.none hd (by omega)))
    ·repeat (first|exact aT.up hdm (by omega)|refine aT.set2 ?_ (by omega) _|refine aT.del ?_)
    ·simp only[go_sem,reduceIte,jA,jB,jC,jD,reduceCtorEq,jE,jF]
    simp only[WkL,aD,jH,jI,jJ,tms,hnew,List.map_nil,go_sem,reduceIte,jA,jB,jC,jD,reduceCtorEq,jE,jF]
   have hlt2:=hdm _ _ htip
   have f1:(id=nx1)=False:=by simp;omega
   have f2:(id=nx1+2)=False:=by simp;omega
   have hb1:((lV [] (S.take i)).length+1)*16≤140737488355328:=by omega
   repeat (first|with_reducible refine aN ?_|with_reducible refine aI ?_|with_reducible refine aP ?_|with_reducible refine aB ?_|with_reducible refine aC ?_|with_reducible refine aO ?_|(refine aR rfl (by simp only[tms,Tm.fits_v,dN,jK,hb1,f1,f2,htip,go_sem,reduceIte,jA,jB,jC,jD,reduceCtorEq,jE,jF];try omega) ?_;simp only[tms,Tm.fits_v,dN,jK,hb1,f1,f2,htip,go_sem,reduceIte,jA,jB,jC,jD,reduceCtorEq,jE,jF])|(with_reducible refine aK ?_))
   rw[cS (by omega) (by omega)]
   refine aL (i+1, .tok (nx1+3)) (by simp only;omega) ((hC _ _ _ _).2 ⟨by omega,?_,by omega,?_, .inr ⟨nx1+3,by omega,rfl,?_,by rw[hnew];simp⟩⟩) ?_
   ·repeat (first|exact hle|refine iR ?_ (aT.none hd (by omega)) _|refine qE ?_ (aT.none hd (by omega)))
   ·repeat (first|exact aT.up hdm (by omega)|refine aT.set2 ?_ (by omega) _|refine aT.del ?_)
   ·simp only[go_sem,reduceIte,jA,jB,jC,jD,reduceCtorEq,jE,jF]
   simp only[WkL,aD,jH,jI,jJ,tms,hnew,List.map_append,List.map_cons,List.map_nil,go_sem,reduceIte,jA,jB,jC,jD,reduceCtorEq,jE,jF]
  have hnew:lV [] (S.take (i+1))=lV [] (S.take i):=by
   rw[htk,aBm,if_neg]
   revert hc
   cases S[i].ok<;>simp
  repeat (first|with_reducible refine aN ?_|with_reducible refine aI ?_|with_reducible refine aP ?_|with_reducible refine aB ?_|with_reducible refine aC ?_|with_reducible refine aO ?_|(refine aR rfl (by simp only[ go_sem,reduceIte,jA,jB,jC,jD,reduceCtorEq,jE,jF];try omega) ?_;simp only[ go_sem,reduceIte,jA,jB,jC,jD,reduceCtorEq,jE,jF])|(with_reducible refine aK ?_))
  rw[cS (by omega) (by omega)]
  refine aL (i+1,o) (by simp only;omega) ((hC _ _ _ _).2 ⟨by omega,?_,by omega,?_,?_⟩) ?_
  ·repeat (first|exact hle|refine iR ?_ (aT.none hd (by omega)) _|refine qE ?_ (aT.none hd (by omega)))
  ·repeat (first|exact aT.up hdm (by omega)|refine aT.set2 ?_ (by omega) _|refine aT.del ?_)
  ·rw[hnew]
   rcases hown with h1|⟨id,hid,h1,htip,hne⟩
   ·exact .inl h1
   have hlt2:=hdm _ _ htip
   have f1:(id=nx1)=False:=by simp;omega
   exact .inr ⟨id,hid,h1,by simp only[htip,f1,go_sem,reduceIte,jA,jB,jC,jD,reduceCtorEq,jE,jF],hne⟩
  simp only[WkL,aD,jH,jI,jJ,tms,hnew,go_sem,reduceIte,jA,jB,jC,jD,reduceCtorEq,jE,jF]
 have hge:i=S.length:=by have:¬i<S.length:=by simpa using hc
                         omega
 refine oB ?_
 repeat (first|with_reducible refine mT ?_|with_reducible refine mH ?_|with_reducible refine mI ?_|with_reducible refine bT (by decide) ?_|with_reducible refine lJ ?_|with_reducible refine aB ?_)
 repeat (first|with_reducible refine aN ?_|with_reducible refine aI ?_|with_reducible refine aP ?_|with_reducible refine aB ?_|with_reducible refine aC ?_|with_reducible refine aO ?_|(refine aR rfl (by simp only[ go_sem,reduceIte,jA,jB,jC,jD,reduceCtorEq,jE,jF];try omega) ?_;simp only[ go_sem,reduceIte,jA,jB,jC,jD,reduceCtorEq,jE,jF])|(with_reducible refine aK ?_))
 refine cV (aM hp (Hp.le_refl _) ⟨?_,hle⟩)
 simp only[go_sem,reduceIte,jA,jB,jC,jD,reduceCtorEq,jE,jF]
 rw[hge,List.take_length] at hown⊢
 rw[hS,show lV [] (gD oN l)=ofT l from rfl] at hown⊢
 rcases hown with⟨rfl,h1⟩|⟨id,hid,rfl,htip,hne⟩
 ·rw[h1];rfl
 generalize ofT l=r at hne⊢
 cases r with
 |nil=>exact absurd rfl hne
 |cons x r=>rfl
end Go.Proofs.YthikfnmcjipobaaGreat
/-
Plain law:the two ways to make an antichain of times give one list. No program in sight. No conditions.
-/
namespace Go.Proofs.YthikfnmcjipobaaGreat
set_option linter.unusedSimpArgs false
set_option linter.unusedVariables false
set_option linter.unusedSectionVars false
open Go.RowKit Go.Sort
theorem Tm.less_irrefl(a:Tm):a.less a=false:=by simp[Tm.less]
theorem Tm.less_tri(a b:Tm)(h1:a.less b=false)(h2:b.less a=false):a=b:=by
 cases a;cases b
 simp[Tm.less] at*
 omega
theorem Tm.less_trans{a b c:Tm}(h1:a.less b=true)(h2:b.less c=true):a.less c=true:=by
 simp[Tm.less] at*
 omega
theorem Tm.le_lex{a b:Tm}(h:a.le b=true):b.less a=false:=by
 simp[Tm.less,Tm.le] at*
 omega
theorem Tm.le_refl(a:Tm):a.le a=true:=by simp[Tm.le]
theorem Tm.le_trans{a b c:Tm}(h1:a.le b=true)(h2:b.le c=true):a.le c=true:=by
 simp[Tm.le] at*
 omega
def qM(l:List Tm)(x:Tm):Prop:=x∈l∧x.ok=true∧∀y∈l,y.ok=true→y.le x=true→y=x
def mS(l:List Tm):Prop:=l.Pairwise fun a b=>a.less b=true
theorem sM{a b:List Tm}(ha:mS a)(hb:mS b)(h:∀x,x∈a↔x∈b):a=b:=by
 have nd:∀{l:List Tm},mS l→l.Nodup:=fun hl=>hl.imp (fun{x y} hxy e=>by subst e;rw[Tm.less_irrefl] at hxy;cases hxy)
 refine List.Perm.eq_of_pairwise (le:=fun(u v:Tm)=>u.less v=true) (fun x y _ _ h1 h2=>?_) ha hb ((List.perm_ext_iff_of_nodup (nd ha) (nd hb)).2 h)
 have:=Tm.less_trans h1 h2
 rw[Tm.less_irrefl] at this;cases this
theorem aCJ:∀(rest pre out:List Tm),(∀x∈pre,∀y∈rest,y.less x=false)→rest.Pairwise (fun x y=>y.less x=false)→mS out→(∀x,x∈out↔qM pre x)→(∀y∈pre,y.ok=true→∃z∈out,z.le y=true)→
 mS (lV out rest)∧∀x,x∈lV out rest↔qM (pre++rest) x
 | [],pre,out,_,_,hs,hm,_=>by simpa [lV] using⟨hs,hm⟩
 |t::rest,pre,out,h1,h2,hs,hm,hc=>by
  have h2':=List.pairwise_cons.1 h2
  have low:∀x∈pre,t.le x=true→t=x:=fun x hx hle=>(Tm.less_tri _ _ (h1 x hx t (by simp)) (Tm.le_lex hle))
  have key:∀out',mS out'→(∀x,x∈out'↔qM (pre++[t]) x)→(∀y∈pre++[t],y.ok=true→∃z∈out',z.le y=true)→mS (lV out' rest)∧∀x,x∈lV out' rest↔qM (pre++t::rest) x:=by
   intro out' q1 q2 q3
   have:=aCJ rest (pre++[t]) out' (fun x hx y hy=>by
    rcases List.mem_append.1 hx with hx|hx
    ·exact h1 x hx y (by simp[hy])
    have:x=t:=by simpa using hx
    subst this
    exact h2'.1 y hy) h2'.2 q1 q2 q3
   simpa using this
  unfold lV
  split
  ·rename_i hk
   simp only[Bool.and_eq_true,Bool.not_eq_true',List.any_eq_false] at hk
   obtain⟨hok,hno⟩:=hk
   have hno':∀x∈out,x.le t=false:=fun x hx=>by simpa using hno x hx
   refine key _ ?_ ?_ ?_
   ·refine List.pairwise_append.2 ⟨hs,by simp,fun x hx y hy=>?_⟩
    have:y=t:=by simpa using hy
    subst this
    have hxp:=((hm x).1 hx).1
    cases hl:x.less y with
    |true=>rfl
    |false=>
     have:=Tm.less_tri _ _ hl (h1 x hxp y (by simp))
     subst this
     have:=hno' x hx
     rw[Tm.le_refl] at this;cases this
   ·intro x
    simp only[List.mem_append,List.mem_singleton]
    constructor
    ·rintro(hx|rfl)
     ·obtain⟨a,b,c⟩:=(hm x).1 hx
      refine⟨by simp[a],b,fun y hy hyo hyl=>?_⟩
      rcases List.mem_append.1 hy with hy|hy
      ·exact c y hy hyo hyl
      have:y=t:=by simpa using hy
      subst this
      exact low x a hyl
     refine⟨by simp,hok,fun y hy hyo hyl=>?_⟩
     rcases List.mem_append.1 hy with hy|hy
     ·obtain⟨z,hz,hzl⟩:=hc y hy hyo
      have:=hno' z hz
      rw[Tm.le_trans hzl hyl] at this;cases this
     simpa using hy
    rintro⟨a,b,c⟩
    rcases List.mem_append.1 a with hx|hx
    ·exact .inl ((hm x).2 ⟨hx,b,fun y hy=>c y (by simp[hy])⟩)
    exact .inr (by simpa using hx)
   intro y hy hyo
   rcases List.mem_append.1 hy with hy|hy
   ·obtain⟨z,hz,hzl⟩:=hc y hy hyo
    exact⟨z,by simp[hz],hzl⟩
   have:y=t:=by simpa using hy
   subst this
   exact⟨y,by simp,Tm.le_refl _⟩
  rename_i hk
  have hk':t.ok=true→∃z∈out,z.le t=true:=fun hok=>by
   simp only[hok,Bool.true_and,Bool.not_eq_true',Bool.not_eq_false] at hk
   obtain⟨z,hz,hzl⟩:=List.any_eq_true.1 hk
   exact⟨z,hz,hzl⟩
  refine key _ hs ?_ ?_
  ·intro x
   constructor
   ·intro hx
    obtain⟨a,b,c⟩:=(hm x).1 hx
    refine⟨by simp[a],b,fun y hy hyo hyl=>?_⟩
    rcases List.mem_append.1 hy with hy|hy
    ·exact c y hy hyo hyl
    have:y=t:=by simpa using hy
    subst this
    exact low x a hyl
   rintro⟨a,b,c⟩
   rcases List.mem_append.1 a with hx|hx
   ·exact(hm x).2 ⟨hx,b,fun y hy=>c y (by simp[hy])⟩
   have:x=t:=by simpa using hx
   subst this
   obtain⟨z,hz,hzl⟩:=hk' b
   have hz':=(hm z).1 hz
   have:=c z (by simp[hz'.1]) hz'.2.1 hzl
   rwa [this] at hz
  intro y hy hyo
  rcases List.mem_append.1 hy with hy|hy
  ·exact hc y hy hyo
  have:y=t:=by simpa using hy
  subst this
  exact hk' hyo
def zU(l:List Tm)(i:Nat)(t:Tm):Bool:=t.ok&& !((List.range l.length).any fun k=>match l[k]? with|some y=>y.ok&&y.le t&&(decide (y≠t)||decide (k<i))|none=>false)
def aEi(out:List Tm)(t:Tm):List Tm:=out.takeWhile (·.less t)++t::out.dropWhile (·.less t)
def rF(l:List Tm):Nat→List Tm
 |0=>[]
 |i+1=>match l[i]? with
  |some t=>if zU l i t=true then aEi (rF l i) t else rF l i
  |none=>rF l i
theorem aCZ(out:List Tm)(t x:Tm):x∈aEi out t↔x=t∨x∈out:=by
 unfold aEi
 conv=>rhs;rw[←List.takeWhile_append_dropWhile (p:=fun x:Tm=>x.less t) (l:=out)]
 simp only[List.mem_append,List.mem_cons]
 constructor
 ·rintro(h|h|h)<;>simp[h]
 rintro(h|h|h)<;>simp[h]
theorem aCY{out:List Tm}{t:Tm}(hs:mS out)(hn:t∉out):mS (aEi out t):=by
 induction out with
 |nil=>simp[aEi,mS]
 |cons a out ih=>
  have hs':=List.pairwise_cons.1 hs
  have hn':t≠a∧t∉out:=by simpa using hn
  unfold aEi
  cases ha:a.less t with
  |true=>
   have:=ih hs'.2 hn'.2
   simp only[List.takeWhile_cons,List.dropWhile_cons,ha,if_true,List.cons_append]
   refine List.pairwise_cons.2 ⟨fun y hy=>?_,this⟩
   have hy':y∈aEi out t:=hy
   rcases(aCZ out t y).1 hy' with rfl|hy
   ·exact ha
   exact hs'.1 y hy
  |false=>
   simp only[List.takeWhile_cons,List.dropWhile_cons,ha,Bool.false_eq_true,if_false,List.nil_append]
   have hta:t.less a=true:=by
    cases h:t.less a with
    |true=>rfl
    |false=>exact absurd (Tm.less_tri _ _ h ha) hn'.1
   refine List.pairwise_cons.2 ⟨fun y hy=>?_,hs⟩
   rcases List.mem_cons.1 hy with rfl|hy
   ·exact hta
   exact Tm.less_trans hta (hs'.1 y hy)
theorem sF(l:List Tm)(i:Nat)(t:Tm):zU l i t=true↔t.ok=true∧∀k y,l[k]?=some y→y.ok=true→y.le t=true→y=t∧i≤k:=by
 unfold zU
 simp only[Bool.and_eq_true,Bool.not_eq_true',List.any_eq_false,List.mem_range]
 constructor
 ·rintro⟨h1,h2⟩
  refine⟨h1,fun k y hk ho hl=>?_⟩
  have hlt:=(List.getElem?_eq_some_iff.1 hk).1
  have:=h2 k hlt
  rw[hk] at this
  simp[ho,hl] at this
  exact⟨this.1,this.2⟩
 rintro⟨h1,h2⟩
 refine⟨h1,fun k hk=>?_⟩
 rw[List.getElem?_eq_getElem hk]
 simp only
 intro hc
 simp only[Bool.and_eq_true,Bool.or_eq_true,decide_eq_true_eq] at hc
 obtain⟨⟨a,b⟩,c⟩:=hc
 obtain⟨q1,q2⟩:=h2 k l[k] (List.getElem?_eq_getElem hk) a b
 rcases c with c|c
 ·exact c q1
 omega
theorem rY(l:List Tm):∀i,mS (rF l i)∧∀x,x∈rF l i↔∃j,j<i∧l[j]?=some x∧zU l j x=true
 |0=>⟨by simp[rF,mS],fun x=>by simp[rF]⟩
 |i+1=>by
  obtain⟨h1,h2⟩:=rY l i
  have step:∀x,(∃j,j<i+1∧l[j]?=some x∧zU l j x=true)↔((∃j,j<i∧l[j]?=some x∧zU l j x=true)∨(l[i]?=some x∧zU l i x=true)):=by
   intro x
   constructor
   ·rintro⟨j,hj,a,b⟩
    by_cases e:j=i
    ·subst e;exact .inr ⟨a,b⟩
    exact .inl ⟨j,by omega,a,b⟩
   rintro(⟨j,hj,a,b⟩|⟨a,b⟩)
   ·exact⟨j,by omega,a,b⟩
   exact⟨i,by omega,a,b⟩
  unfold rF
  split
  ·rename_i t ht
   split
   ·rename_i hk
    have hn:t∉rF l i:=fun hm=>by
     obtain⟨j,hj,a,b⟩:=(h2 t).1 hm
     have:=((sF l i t).1 hk).2 j t a ((sF l i t).1 hk).1 (Tm.le_refl _)
     omega
    refine⟨aCY h1 hn,fun x=>?_⟩
    rw[aCZ,step,h2,ht]
    constructor
    ·rintro(rfl|h)
     ·exact .inr ⟨rfl,hk⟩
     exact .inl h
    rintro(h|⟨h,_⟩)
    ·exact .inr h
    injection h with h;exact .inl h.symm
   rename_i hk
   refine⟨h1,fun x=>?_⟩
   rw[step,h2,ht]
   constructor
   ·exact .inl
   rintro(h|⟨h,hk2⟩)
   ·exact h
   injection h with h;subst h;exact absurd hk2 hk
  rename_i ht
  refine⟨h1,fun x=>?_⟩
  rw[step,h2,ht]
  simp
theorem xJ(l:List Tm)(x:Tm):x∈rF l l.length↔qM l x:=by
 rw[(rY l l.length).2]
 constructor
 ·rintro⟨j,hj,a,b⟩
  obtain⟨q1,q2⟩:=(sF l j x).1 b
  refine⟨List.mem_of_getElem? a,q1,fun y hy hyo hyl=>?_⟩
  obtain⟨k,hk,rfl⟩:=List.getElem_of_mem hy
  exact(q2 k _ (List.getElem?_eq_getElem hk) hyo hyl).1
 rintro⟨a,b,c⟩
 --the first place where it stands
 have hex:∃j:Nat,l[j]?=some x:=by
  obtain⟨k,hk,rfl⟩:=List.getElem_of_mem a
  exact⟨k,List.getElem?_eq_getElem hk⟩
 have first:∃j:Nat,l[j]?=some x∧∀k:Nat,k<j→l[k]?≠some x:=by
  obtain⟨j,hj⟩:=hex
  induction j using Nat.strongRecOn with
  |_ j ih=>
   by_cases h:∃k,k<j∧l[k]?=some x
   ·obtain⟨k,hk,hkx⟩:=h;exact ih k hk hkx
   exact⟨j,hj,fun k hk hkx=>h ⟨k,hk,hkx⟩⟩
 obtain⟨j,hj,hfirst⟩:=first
 refine⟨j,(List.getElem?_eq_some_iff.1 hj).1,hj,(sF l j x).2 ⟨b,fun k y hk hyo hyl=>?_⟩⟩
 have hy:=c y (List.mem_of_getElem? hk) hyo hyl
 refine⟨hy,?_⟩
 rcases Nat.lt_or_ge k j with h|h
 ·exact absurd (hy▸hk) (hfirst k h)
 exact h
theorem aDX(l:List Tm):ofT l=rF l l.length:=by
 have hs:=kV aCt l
 have hp:=gJ oN l
 have hl:∀a b:Tm,ltOf oN a b=a.less b:=fun a b=>by
  rw[wN,Bool.eq_iff_iff]
  simp[Tm.less]
 have inv:=aCJ (gD oN l) [] [] (fun x hx=>by cases hx) (hs.imp fun{x y} h=>by rw[←hl];exact h) (by simp[mS]) (fun x=>by simp[qM]) (fun y hy=>by cases hy)
 refine sM inv.1 (rY l l.length).1 fun x=>?_
 rw[xJ]
 refine(inv.2 x).trans ?_
 unfold qM
 simp only[List.nil_append,hp.mem_iff]
end Go.Proofs.YthikfnmcjipobaaGreat
/-
Contracts:the document's antichain of times. No conditions.
-/
namespace Go.Proofs.YthikfnmcjipobaaGreat
open Nat renaming reduceAdd→jA,reduceSub→jB,reduceLT→jC,reduceLeDiff→jD,reduceEqDiff→jE
open Int renaming reduceToNat→jF,toNat_natCast→jG,natCast_add→jH,natCast_one→jI,natCast_zero→jJ
open List renaming length_map→jK,length_cons→jL,length_nil→jM,replicate_succ→jN,replicate_zero→jO,cons_append→jP,nil_append→jQ
set_option linter.unusedSimpArgs false
set_option linter.unusedVariables false
set_option linter.unusedSectionVars false
open Go.RowKit
attribute [local go_sem] Option.some.injEq Prod.mk.injEq false_and and_false Bool.true_eq_false mP jR jX gG iV if_true Bool.true_and mF dS iH gL dQ aA.ok aA.next LOp.ok LOp.next bC.ok bC.out aQ.ev bN iI cH bO cO V.undef Sh.size gH fW cK aA.dok aA.dres LOp.dok LOp.dout lI iD gI eX List.take_succ_cons List.take_zero List.take_nil List.drop_succ_cons List.drop_zero List.drop_nil List.set_cons_succ List.set_cons_zero List.getD_cons_succ List.getD_cons_zero jL jM List.map_cons List.map_nil List.all_cons List.all_nil List.mem_cons List.not_mem_nil jN jO jP jQ List.append_nil List.isEmpty_cons List.isEmpty_nil dW fJ hM Option.getD_some Option.isSome_some Option.isSome_none Nat.add_eq Nat.zero_add Nat.add_zero true_and and_true and_self true_implies implies_true false_implies forall_const forall_eq forall_eq_or_imp ne_eq not_false_eq_true not_true_eq_false Bool.not_true Bool.not_false decide_true decide_false Bool.and_true Bool.true_and Bool.and_false Bool.false_and true_or or_true false_or or_false eq_self Bool.false_eq_true mK iO gC aD fH eT eB dU cL dT aZ aX dN jG Int.toNat_zero List.take_length Hp.set_app Hp.del_app gW fV aA.plain LOp.isCall aA.dplain LOp.isStop eM kT gY lY fN V.gd_true V.gd_false fM eK eL fL bG aY aU fK eS beq_true beq_false dD dE dF cB cC bH bI cP eQ cE dK dH bJ dI dL eN eO bK dJ bF cD eP bP dG bQ bB gQ gO gP gN dM cG dX cR eG eF eE eD eC bX bW cZ cY cX cA bZ bY eJ eI eH dC dB dA cQ cF bS kM Hp.turn fT Option.isNone_some Option.isNone_none
end Go.Proofs.YthikfnmcjipobaaGreat
/-
The antichain of times:plain laws. No program in sight. No conditions.
-/
namespace Go.Proofs.YthikfnmcjipobaaGreat
set_option linter.unusedSimpArgs false
set_option linter.unusedVariables false
set_option linter.unusedSectionVars false
open Go.RowKit
theorem zB(l:List Tm):mS (ofT l):=by rw[aDX];exact(rY l l.length).1
theorem vF(l:List Tm)(x:Tm):x∈ofT l↔qM l x:=by rw[aDX];exact xJ l x
theorem xO(l:List Tm):∀(n:Nat) (y:Tm),(y.e+y.r).toNat≤n→y∈l→y.ok=true→∃z,qM l z∧z.le y=true
 |n,y,hn,hy,ho=>by
  by_cases h:∃y',y'∈l∧y'.ok=true∧y'.le y=true∧y'≠y
  ·obtain⟨y',h1,h2,h3,h4⟩:=h
   have hlt:(y'.e+y'.r).toNat<(y.e+y.r).toNat:=by
    have e1:¬(y'.e=y.e∧y'.r=y.r):=fun e=>h4 (by cases y;cases y';simp at e;simp[e])
    simp[Tm.le,Tm.ok] at h2 h3 ho
    omega
   cases n with
   |zero=>omega
   |succ n=>
    obtain⟨z,q1,q2⟩:=xO l n y' (by omega) h1 h2
    exact⟨z,q1,Tm.le_trans q2 h3⟩
  exact⟨y,⟨hy,ho,fun y' h1 h2 h3=>Decidable.byContradiction fun h4=>h ⟨y',h1,h2,h3,h4⟩⟩,Tm.le_refl y⟩
theorem aBl{l:List Tm}{y:Tm}(hy:y∈l)(ho:y.ok=true):∃z∈ofT l,z.le y=true:=by
 obtain⟨z,h1,h2⟩:=xO l _ y (Nat.le_refl _) hy ho
 exact⟨z,(vF l z).2 h1,h2⟩
theorem aGp{l:List Tm}{x:Tm}(h:x∈ofT l):x.ok=true∧x∈l:=⟨((vF l x).1 h).2.1,((vF l x).1 h).1⟩
theorem aFk{a b:List Tm}(h:∀x:Tm,x.ok=true→(x∈a↔x∈b)):ofT a=ofT b:=by
 refine sM (zB a) (zB b) fun x=>?_
 rw[vF,vF]
 constructor
 ·rintro⟨h1,h2,h3⟩;exact⟨(h x h2).1 h1,h2,fun y hy ho=>h3 y ((h y ho).2 hy) ho⟩
 rintro⟨h1,h2,h3⟩;exact⟨(h x h2).2 h1,h2,fun y hy ho=>h3 y ((h y ho).1 hy) ho⟩
def atM(a b:List Tm):Bool:= !(b.any fun x=> !(a.any fun y=>y.le x))
theorem aHz{a b:List Tm}:atM a b=true↔∀x∈b,∃y∈a,y.le x=true:=by
 simp[atM]
end Go.Proofs.YthikfnmcjipobaaGreat
/-
Contracts of antichains moved by paths. No conditions.
-/
namespace Go.Proofs.YthikfnmcjipobaaGreat
set_option linter.unusedSimpArgs false
set_option linter.unusedVariables false
set_option linter.unusedSectionVars false
open Go.RowKit
attribute [local irreducible] IntKind.wrap
attribute [local go_sem] Option.some.injEq Prod.mk.injEq false_and and_false Bool.true_eq_false mP jR jX gG iV if_true Bool.true_and mF dS iH gL dQ aA.ok aA.next LOp.ok LOp.next bC.ok bC.out aQ.ev bN iI cH bO cO V.undef Sh.size gH fW cK aA.dok aA.dres LOp.dok LOp.dout lI iD gI eX List.take_succ_cons List.take_zero List.take_nil List.drop_succ_cons List.drop_zero List.drop_nil List.set_cons_succ List.set_cons_zero List.getD_cons_succ List.getD_cons_zero List.length_cons List.length_nil List.map_cons List.map_nil List.all_cons List.all_nil List.mem_cons List.not_mem_nil List.replicate_succ List.replicate_zero List.cons_append List.nil_append List.append_nil List.isEmpty_cons List.isEmpty_nil dW fJ hM Option.getD_some Option.isSome_some Option.isSome_none Nat.add_eq Nat.zero_add Nat.add_zero true_and and_true and_self true_implies implies_true false_implies forall_const forall_eq forall_eq_or_imp ne_eq not_false_eq_true not_true_eq_false Bool.not_true Bool.not_false decide_true decide_false Bool.and_true Bool.true_and Bool.and_false Bool.false_and true_or or_true false_or or_false eq_self Bool.false_eq_true mK iO gC aD fH eT eB dU cL dT aZ aX dN Int.toNat_natCast Int.toNat_zero List.take_length Hp.set_app Hp.del_app gW fV aA.plain LOp.isCall aA.dplain LOp.isStop eM kT gY lY fN V.gd_true V.gd_false fM eK eL fL bG aY aU fK eS beq_true beq_false dD dE dF cB cC bH bI cP eQ cE dK dH bJ dI dL eN eO bK dJ bF cD eP bP dG bQ bB gQ gO gP gN dM cG dX cR eG eF eE eD eC bX bW cZ cY cX cA bZ bY eJ eI eH dC dB dA cQ cF bS kM Hp.turn fT Option.isNone_some Option.isNone_none oL gF fO aA.plain2 LOp.isApp oM lP lQ iQ fS fR
end Go.Proofs.YthikfnmcjipobaaGreat
