/-
Texts of this proof,one behind the other. No conditions.
-/
import Derived.Test.YtmpmngakheoacaaGreatKf
import Derived.Test.YtmpmngakheoacaaGreatKe
import Derived.Test.YtmpmngakheoacaaGreatKg
import Derived.Test.YtmpmngakheoacaaGreatKi
import Derived.Test.YtmpmngakheoacaaGreatKk
import Derived.Test.YtmpmngakheoacaaGreatKj
/-
Contracts of package chain that sort nothing,and of the law's Document. No conditions.
-/
namespace Go.Proofs.YtmpmngakheoacaaGreat
open Nat renaming reduceAdd→jA,reduceSub→jB,reduceLT→jC,reduceLeDiff→jD,reduceEqDiff→jE
open Int renaming reduceToNat→jF,toNat_natCast→jG,natCast_add→jH,natCast_one→jI,natCast_zero→jJ
open List renaming length_map→jK,length_cons→jL,length_nil→jM,replicate_succ→jN,replicate_zero→jO,cons_append→jP,nil_append→jQ
set_option linter.unusedSimpArgs false
set_option linter.unusedVariables false
set_option linter.unusedSectionVars false
open Go.RowKit
attribute [local go_sem] gU dY aA.ok aA.next LOp.ok LOp.next bH.ok bH.out aU.ev bR jY cO bZ dI V.fits V.leafy V.cells V.cell V.undef gL fP cN Sh.size Hp.set Hp.del gS fZ gG cG aA.dok aA.dres LOp.dok LOp.dout mB jT mW bT lH Hp.turn veq gQ fM List.take_succ_cons List.take_zero List.take_nil List.drop_succ_cons List.drop_zero List.drop_nil List.set_cons_succ List.set_cons_zero List.getD_cons_succ List.getD_cons_zero jL jM List.map_cons List.map_nil List.all_cons List.all_nil List.mem_cons List.not_mem_nil jN jO jP jQ List.append_nil List.isEmpty_cons List.isEmpty_nil eH fQ iU Option.getD_some Option.isSome_some Option.isSome_none Nat.add_eq Nat.zero_add Nat.add_zero true_and and_true and_self true_implies implies_true false_implies forall_const forall_eq forall_eq_or_imp ne_eq not_false_eq_true not_true_eq_false Bool.not_true Bool.not_false decide_true decide_false Bool.and_true Bool.true_and Bool.and_false Bool.false_and true_or or_true false_or or_false eq_self Bool.false_eq_true nJ kE gJ aD fN eR eP eK dE eJ bJ bC dC jG Int.toNat_zero List.take_length
theorem aAw(x t:Tm)(n:Nat)(h:Hp)(hn:h n=some (.arr (.agg 2) [t.v])):bP Tryz.prog 102 [x.v, .ptr n (.agg 2) 0 0] h (.bool (x.le t)):=by
 refine aZ (fun L=>trivial) fun h' nx hh=>aK L.chain_Reaches_1_low fun hd=>?_
 simp only[jL,jM,jA,jB,jN,jO,jP,jQ,V.undef]
 have hn':=hh _ _ _ hn
 have hlt:=hd _ _ hn'
 have hne:(n=nx)=False:=by simp;omega
 have hne2:(n=nx+1)=False:=by simp;omega
 refine aI (aJ ?_)
 refine aX 2 rfl (by simp only[L.chain_Reaches_1_r0,Tm.v,go_sem,reduceIte,jA,jB,jC,jD,reduceCtorEq,jE,jF];try omega) ?_
 simp only[L.chain_Reaches_1_r0,Tm.v,go_sem,reduceIte,jA,jB,jC,jD,reduceCtorEq,jE,jF]
 refine aB (aI (aJ ?_))
 simp only[Tm.v] at hn'
 refine aX 2 rfl (by simp only[L.chain_Reaches_1_r1,Tm.v,hn',hne,go_sem,reduceIte,jA,jB,jC,jD,reduceCtorEq,jE,jF];try omega) ?_
 simp only[L.chain_Reaches_1_r1,Tm.v,hn',hne,go_sem,reduceIte,jA,jB,jC,jD,reduceCtorEq,jE,jF]
 refine aN (aDg x t _) (by simp only[Tm.v,go_sem,reduceIte,jA,jB,jC,jD,reduceCtorEq,jE,jF]) (aR _) ?_
 simp only[go_sem,reduceIte,jA,jB,jC,jD,reduceCtorEq,jE,jF]
 refine aX 1 rfl (by simp only[L.chain_Reaches_1_r1,go_sem,reduceIte,jA,jB,jC,jD,reduceCtorEq,jE,jF];try omega) ?_
 simp only[L.chain_Reaches_1_r1,go_sem,reduceIte,jA,jB,jC,jD,reduceCtorEq,jE,jF]
 refine aB (bQ (aO h' (aQ hd (Hp.le_refl _) (by omega) _) ⟨?_,rfl⟩))
 simp only[go_sem,reduceIte,jA,jB,jC,jD,reduceCtorEq,jE,jF]
theorem aBA(own:Own)(l:List Tm)(t:Tm)(h:Hp)(hl:l.length≤1000000):bP Tryz.prog 38 [tms own l,t.v] h (.bool (l.any fun x=>x.le t)):=by
 refine aZ (fun L=>trivial) fun h' nx hh=>aK L.chain_Reaches_low fun hd=>?_
 simp only[jL,jM,jA,jB,jN,jO,jP,jQ,V.undef]
 refine aI (aJ ?_)
 refine aX 2 rfl (by simp only[L.chain_Reaches_r0,Tm.v,go_sem,reduceIte,jA,jB,jC,jD,reduceCtorEq,jE,jF];try omega) ?_
 simp only[L.chain_Reaches_r0,Tm.v,go_sem,reduceIte,jA,jB,jC,jD,reduceCtorEq,jE,jF]
 refine aB (aI (aJ ?_))
 refine aX 2 rfl (by simp only[L.chain_Reaches_r1,Tm.v,go_sem,reduceIte,jA,jB,jC,jD,reduceCtorEq,jE,jF];try omega) ?_
 simp only[L.chain_Reaches_r1,Tm.v,go_sem,reduceIte,jA,jB,jC,jD,reduceCtorEq,jE,jF]
 refine aN (vJ (fun x=>x.le t) own l _ _ _ (fun x=>aAw x t nx _ (by simp[Tm.v,Hp.set])) hl) (by simp only[Tm.v,go_sem,reduceIte,jA,jB,jC,jD,reduceCtorEq,jE,jF]) (aR _) ?_
 simp only[go_sem,reduceIte,jA,jB,jC,jD,reduceCtorEq,jE,jF]
 refine aX 1 rfl (by simp only[L.chain_Reaches_r1,go_sem,reduceIte,jA,jB,jC,jD,reduceCtorEq,jE,jF];try omega) ?_
 simp only[L.chain_Reaches_r1,go_sem,reduceIte,jA,jB,jC,jD,reduceCtorEq,jE,jF]
 refine aB (bQ (aO h' (aQ hd (Hp.le_refl _) (by omega) _) ⟨?_,rfl⟩))
 simp only[go_sem,reduceIte,jA,jB,jC,jD,reduceCtorEq,jE,jF]
def uT(nx c:Nat):Nat→Own
 |0=> .nil
 |k+1=> .tok (nx+c*k+(c-1))
def zR(h:Hp)(nx c:Nat):Nat→Hp
 |0=>h
 |k+1=>h.set (nx+c*k+(c-1)) .tip
theorem aAe(own:Own)(l:List Tm)(h':Hp)(nx:Nat)(hl:l.length≤1000000):
 bO Tryz.prog 76 [tms own l] h' nx fun v h'' _=>v=tms (uT nx 4 l.length) l∧h''=zR h' nx 4 l.length:=by
 refine aK L.corollarylaw21_Document_low fun hd=>?_
 simp only[jL,jM,jA,jB,jN,jO,jP,jQ,V.undef]
 refine aI (aJ ?_)
 refine aX 1 rfl (by simp only[L.corollarylaw21_Document_r0,go_sem,reduceIte,jA,jB,jC,jD,reduceCtorEq,jE,jF];try omega) ?_
 simp only[L.corollarylaw21_Document_r0,go_sem,reduceIte,jA,jB,jC,jD,reduceCtorEq,jE,jF]
 refine aB (aI (aJ ?_))
 refine aX 1 rfl (by simp only[L.corollarylaw21_Document_r1,go_sem,reduceIte,jA,jB,jC,jD,reduceCtorEq,jE,jF];try omega) ?_
 simp only[L.corollarylaw21_Document_r1,go_sem,reduceIte,jA,jB,jC,jD,reduceCtorEq,jE,jF]
 refine aB (aI (aI (aJ ?_)))
 refine aX 3 rfl (by simp only[L.corollarylaw21_Document_r2,tms,jK,go_sem,reduceIte,jA,jB,jC,jD,reduceCtorEq,jE,jF];try omega) ?_
 simp only[L.corollarylaw21_Document_r2,tms,jK,go_sem,reduceIte,jA,jB,jC,jD,reduceCtorEq,jE,jF]
 refine aB (aG (oH (fun k:Nat=>k≤l.length) (fun k=>⟨aD 19 0 [(3,tms (uT nx 4 k) (l.take k)),(6,tms own l),(7, .int .i64 l.length),(8, .int .i64 k)],zR h' nx 4 k,nx+4*k⟩) (fun k=>l.length-k) 0 (Nat.zero_le _) ?_ ?_))
 ·refine nF (by simp only[WkL,aD,jH,jI,jJ,Tm.v,tms,uT,zR,go_sem,reduceIte,jA,jB,jC,jD,reduceCtorEq,jE,jF]) ?_ ?_
  ·exact Hp.le_refl _
  omega
 intro k hk
 simp only[aD,go_sem,reduceIte,jA,jB,jC,jD,reduceCtorEq,jE,jF]
 refine aI (aJ ?_)
 refine aX 1 rfl (by simp only[L.corollarylaw21_Document_r3,go_sem,reduceIte,jA,jB,jC,jD,reduceCtorEq,jE,jF];try omega) ?_
 simp only[L.corollarylaw21_Document_r3,go_sem,reduceIte,jA,jB,jC,jD,reduceCtorEq,jE,jF]
 refine aB (aI (cF _ rfl (fun hc=>?_) (fun hc=>?_)))
 ·have hlt:k<l.length:=by simpa using hc
  have hg:=aCQ Tm.v l k hlt
  have ht:l.take (k+1)=l.take k++[l[k]]:=List.take_succ_eq_append_getElem hlt
  have hbound:(min k l.length+1)*16≤140737488355328:=by omega
  refine aL (aB (aI (aG (aI (aJ ?_)))))
  cases k with
  |zero=>
   refine aX 4 rfl (by simp only[L.corollarylaw21_Document_r4,tms,jK,jG,hg,Tm.v,uT,zR,go_sem,reduceIte,jA,jB,jC,jD,reduceCtorEq,jE,jF];try omega) ?_
   simp only[L.corollarylaw21_Document_r4,tms,jK,jG,hg,Tm.v,uT,zR,go_sem,reduceIte,jA,jB,jC,jD,reduceCtorEq,jE,jF]
   refine aB (aJ ?_)
   refine aX 2 rfl (by simp only[L.corollarylaw21_Document_r5,tms,jK,Tm.v,go_sem,reduceIte,jA,jB,jC,jD,reduceCtorEq,jE,jF];try omega) ?_
   simp only[L.corollarylaw21_Document_r5,tms,jK,Tm.v,go_sem,reduceIte,jA,jB,jC,jD,reduceCtorEq,jE,jF]
   refine aN (sU l[0] _) (by simp only[Tm.v,go_sem,reduceIte,jA,jB,jC,jD,reduceCtorEq,jE,jF]) (aR _) ?_
   simp only[go_sem,reduceIte,jA,jB,jC,jD,reduceCtorEq,jE,jF]
   refine aX 3 rfl (by simp only[L.corollarylaw21_Document_r5,tms,jK,Tm.v,go_sem,reduceIte,jA,jB,jC,jD,reduceCtorEq,jE,jF];try omega) ?_
   simp only[L.corollarylaw21_Document_r5,tms,jK,Tm.v,go_sem,reduceIte,jA,jB,jC,jD,reduceCtorEq,jE,jF]
   refine aC (aB (aJ ?_))
   refine aX 2 rfl (by simp only[L.corollarylaw21_Document_r6,go_sem,reduceIte,jA,jB,jC,jD,reduceCtorEq,jE,jF];try omega) ?_
   simp only[L.corollarylaw21_Document_r6,go_sem,reduceIte,jA,jB,jC,jD,reduceCtorEq,jE,jF]
   refine jV (0+1) (by omega) (by omega) ?_
   rw[aY (by omega) (by omega)]
   refine nF (by simp only[WkL,aD,jH,jI,jJ,Tm.v,tms,uT,zR,ht,List.map_append,Int.zero_add,go_sem,reduceIte,jA,jB,jC,jD,reduceCtorEq,jE,jF]) ?_ ?_
   ·intro m b e
    simp only[zR,Hp.set] at e⊢
    split at e
    ·rw[if_pos (by omega)];exact e
    have:=hd m b e
    repeat rw[if_neg (by omega)]
    exact e
   omega
  |succ k=>
   have n1:(nx+4*k+3=nx+4*(k+1))=False:=by simp;omega
   have n2:(nx+4*k+3=nx+4*(k+1)+2)=False:=by simp;omega
   have n3:(nx+4*k+3=nx+4*(k+1)+1)=False:=by simp;omega
   refine aX 4 rfl (by simp only[L.corollarylaw21_Document_r4,tms,jK,jG,hg,Tm.v,uT,zR,go_sem,reduceIte,jA,jB,jC,jD,reduceCtorEq,jE,jF];try omega) ?_
   simp only[L.corollarylaw21_Document_r4,tms,jK,jG,hg,Tm.v,uT,zR,go_sem,reduceIte,jA,jB,jC,jD,reduceCtorEq,jE,jF]
   refine aB (aJ ?_)
   refine aX 2 rfl (by simp only[L.corollarylaw21_Document_r5,tms,jK,Tm.v,go_sem,reduceIte,jA,jB,jC,jD,reduceCtorEq,jE,jF];try omega) ?_
   simp only[L.corollarylaw21_Document_r5,tms,jK,Tm.v,go_sem,reduceIte,jA,jB,jC,jD,reduceCtorEq,jE,jF]
   refine aN (sU l[k+1] _) (by simp only[Tm.v,go_sem,reduceIte,jA,jB,jC,jD,reduceCtorEq,jE,jF]) (aR _) ?_
   simp only[go_sem,reduceIte,jA,jB,jC,jD,reduceCtorEq,jE,jF]
   refine aX 3 rfl (by simp only[L.corollarylaw21_Document_r5,tms,jK,Tm.v,List.length_take,n1,n2,n3,go_sem,reduceIte,jA,jB,jC,jD,reduceCtorEq,jE,jF];try omega) ?_
   simp only[L.corollarylaw21_Document_r5,tms,jK,Tm.v,List.length_take,n1,n2,n3,go_sem,reduceIte,jA,jB,jC,jD,reduceCtorEq,jE,jF]
   refine aC (aB (aJ ?_))
   refine aX 2 rfl (by simp only[L.corollarylaw21_Document_r6,go_sem,reduceIte,jA,jB,jC,jD,reduceCtorEq,jE,jF];try omega) ?_
   simp only[L.corollarylaw21_Document_r6,go_sem,reduceIte,jA,jB,jC,jD,reduceCtorEq,jE,jF]
   refine jV (k+1+1) (by omega) (by omega) ?_
   rw[aY (by omega) (by omega)]
   refine nF (by simp only[WkL,aD,jH,jI,jJ,Tm.v,tms,uT,zR,ht,List.map_append,Int.zero_add,go_sem,reduceIte,jA,jB,jC,jD,reduceCtorEq,jE,jF]) ?_ ?_
   ·intro m b e
    simp only[zR,Hp.set,Hp.del] at e⊢
    split at e
    ·rw[if_pos (by omega)];exact e
    have:=hd m b e
    repeat rw[if_neg (by omega)]
    exact e
   omega
 have hge:k=l.length:=by have:¬k<l.length:=by simpa using hc
                         omega
 subst hge
 refine gX ?_
 repeat (first|refine gB ?_|refine eT ?_|refine bG (by decide) ?_)
 refine eN ?_
 refine aB (aI (aJ ?_))
 refine aX 2 rfl (by simp only[L.corollarylaw21_Document_r7,go_sem,reduceIte,jA,jB,jC,jD,reduceCtorEq,jE,jF];try omega) ?_
 simp only[L.corollarylaw21_Document_r7,go_sem,reduceIte,jA,jB,jC,jD,reduceCtorEq,jE,jF]
 refine aB (bQ (aO _ (Hp.le_refl _) ⟨?_,rfl⟩))
 simp only[List.take_length,go_sem,reduceIte,jA,jB,jC,jD,reduceCtorEq,jE,jF]
end Go.Proofs.YtmpmngakheoacaaGreat
/-
Contracts of package chain:the antichain of times;the law's fixed fact. No conditions.
-/
namespace Go.Proofs.YtmpmngakheoacaaGreat
open Nat renaming reduceAdd→jA,reduceSub→jB,reduceLT→jC,reduceLeDiff→jD,reduceEqDiff→jE
open Int renaming reduceToNat→jF,toNat_natCast→jG,natCast_add→jH,natCast_one→jI,natCast_zero→jJ
open List renaming length_map→jK,length_cons→jL,length_nil→jM,replicate_succ→jN,replicate_zero→jO,cons_append→jP,nil_append→jQ
set_option linter.unusedSimpArgs false
set_option linter.unusedVariables false
set_option linter.unusedSectionVars false
open Go.RowKit Go.Sort
attribute [local go_sem] Option.some.injEq Prod.mk.injEq false_and and_false Bool.true_eq_false kA iE kD gA gK if_true Bool.true_and lT dN jX gU dY aA.ok aA.next LOp.ok LOp.next bH.ok bH.out aU.ev bR jY cO bZ dI V.undef Sh.size gS gG cG aA.dok aA.dres LOp.dok LOp.dout mB jT gQ fM List.take_succ_cons List.take_zero List.take_nil List.drop_succ_cons List.drop_zero List.drop_nil List.set_cons_succ List.set_cons_zero List.getD_cons_succ List.getD_cons_zero jL jM List.map_cons List.map_nil List.all_cons List.all_nil List.mem_cons List.not_mem_nil jN jO jP jQ List.append_nil List.isEmpty_cons List.isEmpty_nil eH fQ iU Option.getD_some Option.isSome_some Option.isSome_none Nat.add_eq Nat.zero_add Nat.add_zero true_and and_true and_self true_implies implies_true false_implies forall_const forall_eq forall_eq_or_imp ne_eq not_false_eq_true not_true_eq_false Bool.not_true Bool.not_false decide_true decide_false Bool.and_true Bool.true_and Bool.and_false Bool.false_and true_or or_true false_or or_false eq_self Bool.false_eq_true nJ kE gJ aD fN eR eP eK dE eJ bJ bC dC jG Int.toNat_zero List.take_length Hp.set_app Hp.del_app iP gI aA.plain LOp.isCall aA.dplain LOp.isStop fE lM iQ mT fX V.gd_true V.gd_false gF fC fD gE bS bI aW fY fJ beq_true beq_false dV dW dX cW cX bU bV dL fI cZ eD eA bW eB eE fF fG bX eC bM cY fH cB dZ cE bL iC iA iB hZ eF dB eG dM eY eX eW eV eU cQ cP dR dQ dP cU cT cS fB fA eZ dU dT dS dJ dA bT lH Hp.turn fZ Option.isNone_some Option.isNone_none
theorem Tm.fits_v(t:Tm):t.v.fits (.agg 2)=true:=by simp[Tm.v,V.fits,V.leafy]
theorem uZ:aP Tryz.prog 166=some (LB.SortedFunc (.agg 2) 177 178):=by kernel_rfl
theorem zK:aP Tryz.prog 177=some (LB.Collect (.agg 2) 206):=by kernel_rfl
theorem wF:aP Tryz.prog 206=some (LB.AppendSeq (.agg 2) (.agg [.int .i64 0, .int .i64 0]) 16):=by kernel_rfl
theorem aAC:aP Tryz.prog 167=some (LB.Values (.agg 2) 179):=by kernel_rfl
theorem xU:aP Tryz.prog 179=some (LB.ValuesIt (.agg 2) (.agg [.int .i64 0, .int .i64 0])):=by kernel_rfl
def qR(a b:Tm):Int:=orI [oO a.e b.e,oO a.r b.r]
theorem aFh(a b:Tm):bP Tryz.prog 87 [a.v,b.v] Hp.none (.int .i64 (qR a b)):=by
 refine aZ (fun L=>trivial) fun h' nx hh=>aK L.stamp_Compare_low fun hd=>?_
 simp only[jL,jM,jA,jB,jN,jO,jP,jQ,V.undef]
 repeat (first|with_reducible refine aI ?_|with_reducible refine aG ?_|with_reducible refine aL ?_|with_reducible refine aB ?_|with_reducible refine aC ?_|with_reducible refine aJ ?_|(refine aM rfl (by simp only[Tm.v,go_sem,reduceIte,jA,jB,jC,jD,reduceCtorEq,jE,jF];try omega) ?_;simp only[Tm.v,go_sem,reduceIte,jA,jB,jC,jD,reduceCtorEq,jE,jF])|(with_reducible refine aH ?_))
 refine gC rfl ?_
 refine dH rfl (by simp only[Tm.v,go_sem,reduceIte,jA,jB,jC,jD,reduceCtorEq,jE,jF];try omega) ?_
 simp only[Tm.v,go_sem,reduceIte,jA,jB,jC,jD,reduceCtorEq,jE,jF]
 refine cH (tI tA aBH a.e b.e Hp.none) rfl (cA _) ?_
 refine dH rfl (by simp only[Tm.v,go_sem,reduceIte,jA,jB,jC,jD,reduceCtorEq,jE,jF];try omega) ?_
 simp only[Tm.v,go_sem,reduceIte,jA,jB,jC,jD,reduceCtorEq,jE,jF]
 refine cH (tI tA aBH a.r b.r Hp.none) rfl (cA _) ?_
 refine dH rfl (by simp only[Tm.v,go_sem,reduceIte,jA,jB,jC,jD,reduceCtorEq,jE,jF];try omega) ?_
 simp only[Tm.v,go_sem,reduceIte,jA,jB,jC,jD,reduceCtorEq,jE,jF]
 refine cH (aBa aBe _ [oO a.e b.e,oO a.r b.r] (by simp) Hp.none) rfl (cA _) ?_
 refine dH rfl (by simp only[Tm.v,go_sem,reduceIte,jA,jB,jC,jD,reduceCtorEq,jE,jF];try omega) ?_
 simp only[Tm.v,go_sem,reduceIte,jA,jB,jC,jD,reduceCtorEq,jE,jF]
 refine eS (fK ?_)
 simp only[go_sem,reduceIte,jA,jB,jC,jD,reduceCtorEq,jE,jF]
 refine aB (bQ (aO h' ?_ ⟨rfl,rfl⟩))
 exact(by repeat (first|exact Hp.le_refl _|refine aQ hd ?_ (by omega) _|refine aV hd ?_ (by omega)))
theorem vK:(∀a b,oO a b<0↔a<b)∧∀a b,oO a b=0↔a=b:=by
 constructor<;>intro a b<;>unfold oO<;>(repeat' split)<;>omega
theorem aGq(a b:Tm):(qR a b<0)↔(a.e<b.e∨(a.e=b.e∧a.r<b.r)):=by
 have h1:=vK.1 a.e b.e
 have h2:=vK.2 a.e b.e
 have h3:=vK.1 a.r b.r
 unfold qR orI
 split
 ·rename_i h0
  have he:=h2.1 h0
  unfold orI
  split
  ·rename_i h4
   have:=(vK.2 a.r b.r).1 h4
   unfold orI
   omega
  omega
 rename_i h0
 have:a.e≠b.e:=fun h=>h0 (h2.2 h)
 omega
theorem wD(a b:Tm):ltOf qR a b=decide (a.e<b.e∨(a.e=b.e∧a.r<b.r)):=by
 unfold ltOf
 rw[Bool.eq_iff_iff]
 simp[aGq]
theorem aCb:SWO (ltOf qR):=by
 refine⟨fun x=>?_,fun x y z=>?_,fun x y z=>?_⟩<;>simp only[wD,decide_eq_true_eq,decide_eq_false_iff_not]<;>omega
theorem aFq(x y:Tm)(h1:ltOf qR x y=false)(h2:ltOf qR y x=false):x=y:=by
 simp only[wD,decide_eq_false_iff_not] at h1 h2
 cases x;cases y
 simp only[Tm.mk.injEq] at*
 omega
theorem aAt(own:Own)(l:List Tm)(hl:l.length≤1000000):
 bP Tryz.prog 166 [.fn (.func 179) [] [.ept .leaf [(tms own l).loose] 0 0], .fn (.func 87) [] []] Hp.none (lst (.agg 2) ((iJ qR l).map Tm.v)):=by
 have hs:∃own',(tms own l).loose=tms own' l:=by cases own<;>exact⟨_,rfl⟩
 obtain⟨own',hs⟩:=hs
 rw[hs]
 exact xS Tm.v aGB Tm.fits_v (fun x L=>x.names_v L) (by intro w;exact Tryz.isAgg27 w) (by intro w;exact Tryz.sizeOf27 w) (by kernel_rfl) uZ zK wF rfl (by omega) rfl _ _ Hp.none l
  (tR Tm.v Tm.fits_v xU rfl own' l (by omega)) (by omega) qR aCb aFq _ [] (fun x y=>by simpa using aFh x y)
def lS:List Tm→List Tm→List Tm
 |out,[]=>out
 |out,t::l=>lS (if t.ok&& !(out.any fun x=>x.le t) then out++[t] else out) l
def ofT(l:List Tm):List Tm:=lS [] (iJ qR l)
theorem aCu(out l:List Tm):(lS out l).length≤out.length+l.length:=by
 induction l generalizing out with
 |nil=>simp[lS]
 |cons t l ih=>
  unfold lS
  refine Nat.le_trans (ih _) ?_
  split<;>simp<;>omega
theorem xX(l:List Tm):(ofT l).length≤l.length:=by
 have:=aCu [] (iJ qR l)
 simpa [ofT,(iY qR l).length_eq] using this
theorem aBc(out l:List Tm)(t:Tm):lS out (l++[t])=if (t.ok&& !((lS out l).any fun x=>x.le t))=true then lS out l++[t] else lS out l:=by
 induction l generalizing out with
 |nil=>simp[lS]
 |cons x l ih=>simp only[jP,lS];exact ih _
theorem vL(own:Own)(l:List Tm)(hl:l.length≤1000000)(h:Hp):bP Tryz.prog 132 [tms own l] h (lst (.agg 2) ((ofT l).map Tm.v)):=by
 refine gN (fun L=>gD (fun L=>cV (Tm.names_v L) _) L) fun h' nx hh=>aK L.chain_Of_low fun hd=>?_
 simp only[jL,jM,jA,jB,jN,jO,jP,jQ,V.undef]
 repeat (first|with_reducible refine aI ?_|with_reducible refine aG ?_|with_reducible refine aL ?_|with_reducible refine aB ?_|with_reducible refine aC ?_|with_reducible refine aJ ?_|(refine aM rfl (by simp only[ go_sem,reduceIte,jA,jB,jC,jD,reduceCtorEq,jE,jF];try omega) ?_;simp only[ go_sem,reduceIte,jA,jB,jC,jD,reduceCtorEq,jE,jF])|(with_reducible refine aH ?_))
 refine aN (yH aAC own (l.map Tm.v) (fun L=>cV (Tm.names_v L) _) Hp.none) rfl (cA _) ?_
 simp only[go_sem,reduceIte,jA,jB,jC,jD,reduceCtorEq,jE,jF]
 refine aN (aAt own l hl) rfl (cA _) ?_
 simp only[go_sem,reduceIte,jA,jB,jC,jD,reduceCtorEq,jE,jF]
 obtain⟨S,hS⟩:∃S,S=iJ qR l:=⟨_,rfl⟩
 have hSl:S.length=l.length:=by rw[hS];exact(iY qR l).length_eq
 rw[←hS]
 obtain⟨ow,how⟩:=oI (.agg 2) (S.map Tm.v)
 rw[how]
 repeat (first|with_reducible refine aI ?_|with_reducible refine aG ?_|with_reducible refine aL ?_|with_reducible refine aB ?_|with_reducible refine aC ?_|with_reducible refine aJ ?_|(refine aM rfl (by simp only[jK,go_sem,reduceIte,jA,jB,jC,jD,reduceCtorEq,jE,jF];try omega) ?_;simp only[jK,go_sem,reduceIte,jA,jB,jC,jD,reduceCtorEq,jE,jF])|(with_reducible refine aH ?_))
 obtain⟨C,hC⟩:∃C:Nat×Own→Hp→Nat→Prop,∀i o hp nx1,C (i,o) hp nx1↔(i≤S.length∧h'.le hp∧nx≤nx1∧aT hp nx1∧((o= .nil∧lS [] (S.take i)=[])∨∃id,nx≤id∧o= .tok id∧hp id=some .tip∧lS [] (S.take i)≠ [])):=⟨fun p hp nx1=>(p.1≤S.length∧h'.le hp∧nx≤nx1∧aT hp nx1∧((p.2= .nil∧lS [] (S.take p.1)=[])∨∃id,nx≤id∧p.2= .tok id∧hp id=some .tip∧lS [] (S.take p.1)≠ [])),fun _ _ _ _=>Iff.rfl⟩
 refine bD (fun p=>aD 28 0 [(3,tms p.2 (lS [] (S.take p.1))),(8, .sl (.agg 2) ow (S.map Tm.v)),(9, .int .i64 S.length),(10, .int .i64 p.1)]) C (fun p=>S.length-p.1) (0, .nil) ((hC _ _ _ _).2 ⟨Nat.zero_le _,Hp.le_refl _,Nat.le_refl _,hd, .inl ⟨rfl,by simp[lS]⟩⟩) ?_ ?_
 ·simp only[WkL,aD,jH,jI,jJ,lS,tms,go_sem,reduceIte,jA,jB,jC,jD,reduceCtorEq,jE,jF]
 rintro⟨i,o⟩ hp nx1 hCi
 obtain⟨hi,hle,hnx,hdm,hown⟩:=(hC _ _ _ _).1 hCi
 simp only[aD,go_sem,reduceIte,jA,jB,jC,jD,reduceCtorEq,jE,jF]
 repeat (first|with_reducible refine aI ?_|with_reducible refine aG ?_|with_reducible refine aL ?_|with_reducible refine aB ?_|with_reducible refine aC ?_|with_reducible refine aJ ?_|(refine aM rfl (by simp only[ go_sem,reduceIte,jA,jB,jC,jD,reduceCtorEq,jE,jF];try omega) ?_;simp only[ go_sem,reduceIte,jA,jB,jC,jD,reduceCtorEq,jE,jF])|(with_reducible refine aH ?_))
 refine cF _ rfl (fun hc=>?_) (fun hc=>?_)
 ·have hlt:i<S.length:=by simpa using hc
  have hg:=bB Tm.v S i hlt
  have htk:S.take (i+1)=S.take i++[S[i]]:=List.take_succ_eq_append_getElem hlt
  have hlen:(lS [] (S.take i)).length≤1000000:=Nat.le_trans (aCu _ _) (by simp;omega)
  repeat (first|with_reducible refine aI ?_|with_reducible refine aG ?_|with_reducible refine aL ?_|with_reducible refine aB ?_|with_reducible refine aC ?_|with_reducible refine aJ ?_|(refine aM rfl (by simp only[hg,jK,jG,Tm.fits_v,go_sem,reduceIte,jA,jB,jC,jD,reduceCtorEq,jE,jF];try omega) ?_;simp only[hg,jK,jG,Tm.fits_v,go_sem,reduceIte,jA,jB,jC,jD,reduceCtorEq,jE,jF])|(with_reducible refine aH ?_))
  refine aN (yR S[i] _) rfl (aR _) ?_
  simp only[ go_sem,reduceIte,jA,jB,jC,jD,reduceCtorEq,jE,jF]
  repeat (first|with_reducible refine aI ?_|with_reducible refine aG ?_|with_reducible refine aL ?_|with_reducible refine aB ?_|with_reducible refine aC ?_|with_reducible refine aJ ?_|(refine aM rfl (by simp only[ go_sem,reduceIte,jA,jB,jC,jD,reduceCtorEq,jE,jF];try omega) ?_;simp only[ go_sem,reduceIte,jA,jB,jC,jD,reduceCtorEq,jE,jF])|(with_reducible refine aH ?_))
  refine aGi (S[i].ok) rfl rfl ?sl ?h1 ?h2
  case h1=>
   intro hgd
   simp only[Tm.fits_v,go_sem,reduceIte,jA,jB,jC,jD,reduceCtorEq,jE,jF]
   repeat (first|with_reducible refine aI ?_|with_reducible refine aG ?_|with_reducible refine aL ?_|with_reducible refine aB ?_|with_reducible refine aC ?_|with_reducible refine aJ ?_|(refine aM rfl (by simp only[Tm.fits_v,go_sem,reduceIte,jA,jB,jC,jD,reduceCtorEq,jE,jF];try omega) ?_;simp only[Tm.fits_v,go_sem,reduceIte,jA,jB,jC,jD,reduceCtorEq,jE,jF])|(with_reducible refine aH ?_))
   refine aN (aBA o (lS [] (S.take i)) S[i] _ hlen) rfl (aR _) ?_
   simp only[go_sem,reduceIte,jA,jB,jC,jD,reduceCtorEq,jE,jF]
   repeat (first|with_reducible refine aI ?_|with_reducible refine aG ?_|with_reducible refine aL ?_|with_reducible refine aB ?_|with_reducible refine aC ?_|with_reducible refine aJ ?_|(refine aM rfl (by simp only[ go_sem,reduceIte,jA,jB,jC,jD,reduceCtorEq,jE,jF];try omega) ?_;simp only[ go_sem,reduceIte,jA,jB,jC,jD,reduceCtorEq,jE,jF])|(with_reducible refine aH ?_))
   exact rfl
  simp only[go_sem,reduceIte,jA,jB,jC,jD,reduceCtorEq,jE,jF]
  repeat (first|with_reducible refine aI ?_|with_reducible refine aG ?_|with_reducible refine aL ?_|with_reducible refine aB ?_|with_reducible refine aC ?_|with_reducible refine aJ ?_|(refine aM rfl (by simp only[ go_sem,reduceIte,jA,jB,jC,jD,reduceCtorEq,jE,jF];try omega) ?_;simp only[ go_sem,reduceIte,jA,jB,jC,jD,reduceCtorEq,jE,jF])|(with_reducible refine aH ?_))
  refine cF _ rfl (fun hc=>?_) (fun hc=>?_)
  ·have hnew:lS [] (S.take (i+1))=lS [] (S.take i)++[S[i]]:=by
    rw[htk,aBc,if_pos]
    revert hc
    cases S[i].ok<;>simp
   rcases hown with⟨rfl,hemp⟩|⟨id,hid,rfl,htip,hne⟩
   ·rw[hemp] at hnew⊢
    repeat (first|with_reducible refine aI ?_|with_reducible refine aG ?_|with_reducible refine aL ?_|with_reducible refine aB ?_|with_reducible refine aC ?_|with_reducible refine aJ ?_|(refine aM rfl (by simp only[tms,Tm.fits_v,dC,List.map_nil,go_sem,reduceIte,jA,jB,jC,jD,reduceCtorEq,jE,jF];try omega) ?_;simp only[tms,Tm.fits_v,dC,List.map_nil,go_sem,reduceIte,jA,jB,jC,jD,reduceCtorEq,jE,jF])|(with_reducible refine aH ?_))
    rw[aY (by omega) (by omega)]
    refine aF (i+1, .tok (nx1+3)) (by simp only;omega) ((hC _ _ _ _).2 ⟨by omega,?_,by omega,?_, .inr ⟨nx1+3,by omega,rfl,?_,by rw[hnew];simp⟩⟩) ?_
    ·repeat (first|exact hle|refine lZ ?_ (aT.none hd (by omega)) _|refine rH ?_ (aT.none hd (by omega)))
    ·repeat (first|exact aT.up hdm (by omega)|refine aT.set2 ?_ (by omega) _|refine aT.del ?_)
    ·simp only[go_sem,reduceIte,jA,jB,jC,jD,reduceCtorEq,jE,jF]
    simp only[WkL,aD,jH,jI,jJ,tms,hnew,List.map_nil,go_sem,reduceIte,jA,jB,jC,jD,reduceCtorEq,jE,jF]
   have hlt2:=hdm _ _ htip
   have f1:(id=nx1)=False:=by simp;omega
   have f2:(id=nx1+2)=False:=by simp;omega
   have hb1:((lS [] (S.take i)).length+1)*16≤140737488355328:=by omega
   repeat (first|with_reducible refine aI ?_|with_reducible refine aG ?_|with_reducible refine aL ?_|with_reducible refine aB ?_|with_reducible refine aC ?_|with_reducible refine aJ ?_|(refine aM rfl (by simp only[tms,Tm.fits_v,dC,jK,hb1,f1,f2,htip,go_sem,reduceIte,jA,jB,jC,jD,reduceCtorEq,jE,jF];try omega) ?_;simp only[tms,Tm.fits_v,dC,jK,hb1,f1,f2,htip,go_sem,reduceIte,jA,jB,jC,jD,reduceCtorEq,jE,jF])|(with_reducible refine aH ?_))
   rw[aY (by omega) (by omega)]
   refine aF (i+1, .tok (nx1+3)) (by simp only;omega) ((hC _ _ _ _).2 ⟨by omega,?_,by omega,?_, .inr ⟨nx1+3,by omega,rfl,?_,by rw[hnew];simp⟩⟩) ?_
   ·repeat (first|exact hle|refine lZ ?_ (aT.none hd (by omega)) _|refine rH ?_ (aT.none hd (by omega)))
   ·repeat (first|exact aT.up hdm (by omega)|refine aT.set2 ?_ (by omega) _|refine aT.del ?_)
   ·simp only[go_sem,reduceIte,jA,jB,jC,jD,reduceCtorEq,jE,jF]
   simp only[WkL,aD,jH,jI,jJ,tms,hnew,List.map_append,List.map_cons,List.map_nil,go_sem,reduceIte,jA,jB,jC,jD,reduceCtorEq,jE,jF]
  have hnew:lS [] (S.take (i+1))=lS [] (S.take i):=by
   rw[htk,aBc,if_neg]
   revert hc
   cases S[i].ok<;>simp
  repeat (first|with_reducible refine aI ?_|with_reducible refine aG ?_|with_reducible refine aL ?_|with_reducible refine aB ?_|with_reducible refine aC ?_|with_reducible refine aJ ?_|(refine aM rfl (by simp only[ go_sem,reduceIte,jA,jB,jC,jD,reduceCtorEq,jE,jF];try omega) ?_;simp only[ go_sem,reduceIte,jA,jB,jC,jD,reduceCtorEq,jE,jF])|(with_reducible refine aH ?_))
  rw[aY (by omega) (by omega)]
  refine aF (i+1,o) (by simp only;omega) ((hC _ _ _ _).2 ⟨by omega,?_,by omega,?_,?_⟩) ?_
  ·repeat (first|exact hle|refine lZ ?_ (aT.none hd (by omega)) _|refine rH ?_ (aT.none hd (by omega)))
  ·repeat (first|exact aT.up hdm (by omega)|refine aT.set2 ?_ (by omega) _|refine aT.del ?_)
  ·rw[hnew]
   rcases hown with h1|⟨id,hid,h1,htip,hne⟩
   ·exact .inl h1
   have hlt2:=hdm _ _ htip
   have f1:(id=nx1)=False:=by simp;omega
   exact .inr ⟨id,hid,h1,by simp only[htip,f1,go_sem,reduceIte,jA,jB,jC,jD,reduceCtorEq,jE,jF],hne⟩
  simp only[WkL,aD,jH,jI,jJ,tms,hnew,go_sem,reduceIte,jA,jB,jC,jD,reduceCtorEq,jE,jF]
 have hge:i=S.length:=by have:¬i<S.length:=by simpa using hc
                         omega
 refine gX ?_
 repeat (first|with_reducible refine gB ?_|with_reducible refine eT ?_|with_reducible refine fL ?_|with_reducible refine bG (by decide) ?_|with_reducible refine eN ?_|with_reducible refine aB ?_)
 repeat (first|with_reducible refine aI ?_|with_reducible refine aG ?_|with_reducible refine aL ?_|with_reducible refine aB ?_|with_reducible refine aC ?_|with_reducible refine aJ ?_|(refine aM rfl (by simp only[ go_sem,reduceIte,jA,jB,jC,jD,reduceCtorEq,jE,jF];try omega) ?_;simp only[ go_sem,reduceIte,jA,jB,jC,jD,reduceCtorEq,jE,jF])|(with_reducible refine aH ?_))
 refine bQ (aO hp (Hp.le_refl _) ⟨?_,hle⟩)
 simp only[go_sem,reduceIte,jA,jB,jC,jD,reduceCtorEq,jE,jF]
 rw[hge,List.take_length] at hown⊢
 rw[hS,show lS [] (iJ qR l)=ofT l from rfl] at hown⊢
 rcases hown with⟨rfl,h1⟩|⟨id,hid,rfl,htip,hne⟩
 ·rw[h1];rfl
 generalize ofT l=r at hne⊢
 cases r with
 |nil=>exact absurd rfl hne
 |cons x r=>rfl
end Go.Proofs.YtmpmngakheoacaaGreat
/-
Plain law:the two ways to make an antichain of times give one list. No program in sight. No conditions.
-/
namespace Go.Proofs.YtmpmngakheoacaaGreat
set_option linter.unusedSimpArgs false
set_option linter.unusedVariables false
set_option linter.unusedSectionVars false
open Go.RowKit Go.Sort
theorem Tm.less_irrefl(a:Tm):a.less a=false:=by simp[Tm.less]
theorem Tm.less_tri(a b:Tm)(h1:a.less b=false)(h2:b.less a=false):a=b:=by
 cases a;cases b
 simp[Tm.less] at*
 omega
theorem Tm.less_trans{a b c:Tm}(h1:a.less b=true)(h2:b.less c=true):a.less c=true:=by
 simp[Tm.less] at*
 omega
theorem Tm.le_lex{a b:Tm}(h:a.le b=true):b.less a=false:=by
 simp[Tm.less,Tm.le] at*
 omega
theorem Tm.le_refl(a:Tm):a.le a=true:=by simp[Tm.le]
theorem Tm.le_trans{a b c:Tm}(h1:a.le b=true)(h2:b.le c=true):a.le c=true:=by
 simp[Tm.le] at*
 omega
def qK(l:List Tm)(x:Tm):Prop:=x∈l∧x.ok=true∧∀y∈l,y.ok=true→y.le x=true→y=x
def mQ(l:List Tm):Prop:=l.Pairwise fun a b=>a.less b=true
theorem sG{a b:List Tm}(ha:mQ a)(hb:mQ b)(h:∀x,x∈a↔x∈b):a=b:=by
 have nd:∀{l:List Tm},mQ l→l.Nodup:=fun hl=>hl.imp (fun{x y} hxy e=>by subst e;rw[Tm.less_irrefl] at hxy;cases hxy)
 refine List.Perm.eq_of_pairwise (le:=fun(u v:Tm)=>u.less v=true) (fun x y _ _ h1 h2=>?_) ha hb ((List.perm_ext_iff_of_nodup (nd ha) (nd hb)).2 h)
 have:=Tm.less_trans h1 h2
 rw[Tm.less_irrefl] at this;cases this
theorem aCv:∀(rest pre out:List Tm),(∀x∈pre,∀y∈rest,y.less x=false)→rest.Pairwise (fun x y=>y.less x=false)→mQ out→(∀x,x∈out↔qK pre x)→(∀y∈pre,y.ok=true→∃z∈out,z.le y=true)→
 mQ (lS out rest)∧∀x,x∈lS out rest↔qK (pre++rest) x
 | [],pre,out,_,_,hs,hm,_=>by simpa [lS] using⟨hs,hm⟩
 |t::rest,pre,out,h1,h2,hs,hm,hc=>by
  have h2':=List.pairwise_cons.1 h2
  have low:∀x∈pre,t.le x=true→t=x:=fun x hx hle=>(Tm.less_tri _ _ (h1 x hx t (by simp)) (Tm.le_lex hle))
  have key:∀out',mQ out'→(∀x,x∈out'↔qK (pre++[t]) x)→(∀y∈pre++[t],y.ok=true→∃z∈out',z.le y=true)→mQ (lS out' rest)∧∀x,x∈lS out' rest↔qK (pre++t::rest) x:=by
   intro out' q1 q2 q3
   have:=aCv rest (pre++[t]) out' (fun x hx y hy=>by
    rcases List.mem_append.1 hx with hx|hx
    ·exact h1 x hx y (by simp[hy])
    have:x=t:=by simpa using hx
    subst this
    exact h2'.1 y hy) h2'.2 q1 q2 q3
   simpa using this
  unfold lS
  split
  ·rename_i hk
   simp only[Bool.and_eq_true,Bool.not_eq_true',List.any_eq_false] at hk
   obtain⟨hok,hno⟩:=hk
   have hno':∀x∈out,x.le t=false:=fun x hx=>by simpa using hno x hx
   refine key _ ?_ ?_ ?_
   ·refine List.pairwise_append.2 ⟨hs,by simp,fun x hx y hy=>?_⟩
    have:y=t:=by simpa using hy
    subst this
    have hxp:=((hm x).1 hx).1
    cases hl:x.less y with
    |true=>rfl
    |false=>
     have:=Tm.less_tri _ _ hl (h1 x hxp y (by simp))
     subst this
     have:=hno' x hx
     rw[Tm.le_refl] at this;cases this
   ·intro x
    simp only[List.mem_append,List.mem_singleton]
    constructor
    ·rintro(hx|rfl)
     ·obtain⟨a,b,c⟩:=(hm x).1 hx
      refine⟨by simp[a],b,fun y hy hyo hyl=>?_⟩
      rcases List.mem_append.1 hy with hy|hy
      ·exact c y hy hyo hyl
      have:y=t:=by simpa using hy
      subst this
      exact low x a hyl
     refine⟨by simp,hok,fun y hy hyo hyl=>?_⟩
     rcases List.mem_append.1 hy with hy|hy
     ·obtain⟨z,hz,hzl⟩:=hc y hy hyo
      have:=hno' z hz
      rw[Tm.le_trans hzl hyl] at this;cases this
     simpa using hy
    rintro⟨a,b,c⟩
    rcases List.mem_append.1 a with hx|hx
    ·exact .inl ((hm x).2 ⟨hx,b,fun y hy=>c y (by simp[hy])⟩)
    exact .inr (by simpa using hx)
   intro y hy hyo
   rcases List.mem_append.1 hy with hy|hy
   ·obtain⟨z,hz,hzl⟩:=hc y hy hyo
    exact⟨z,by simp[hz],hzl⟩
   have:y=t:=by simpa using hy
   subst this
   exact⟨y,by simp,Tm.le_refl _⟩
  rename_i hk
  have hk':t.ok=true→∃z∈out,z.le t=true:=fun hok=>by
   simp only[hok,Bool.true_and,Bool.not_eq_true',Bool.not_eq_false] at hk
   obtain⟨z,hz,hzl⟩:=List.any_eq_true.1 hk
   exact⟨z,hz,hzl⟩
  refine key _ hs ?_ ?_
  ·intro x
   constructor
   ·intro hx
    obtain⟨a,b,c⟩:=(hm x).1 hx
    refine⟨by simp[a],b,fun y hy hyo hyl=>?_⟩
    rcases List.mem_append.1 hy with hy|hy
    ·exact c y hy hyo hyl
    have:y=t:=by simpa using hy
    subst this
    exact low x a hyl
   rintro⟨a,b,c⟩
   rcases List.mem_append.1 a with hx|hx
   ·exact(hm x).2 ⟨hx,b,fun y hy=>c y (by simp[hy])⟩
   have:x=t:=by simpa using hx
   subst this
   obtain⟨z,hz,hzl⟩:=hk' b
   have hz':=(hm z).1 hz
   have:=c z (by simp[hz'.1]) hz'.2.1 hzl
   rwa [this] at hz
  intro y hy hyo
  rcases List.mem_append.1 hy with hy|hy
  ·exact hc y hy hyo
  have:y=t:=by simpa using hy
  subst this
  exact hk' hyo
def rI(l:List Tm)(i:Nat)(t:Tm):Bool:=t.ok&& !((List.range l.length).any fun k=>match l[k]? with|some y=>y.ok&&y.le t&&(decide (y≠t)||decide (k<i))|none=>false)
def aAE(out:List Tm)(t:Tm):List Tm:=out.takeWhile (·.less t)++t::out.dropWhile (·.less t)
def eQ(l:List Tm):Nat→List Tm
 |0=>[]
 |i+1=>match l[i]? with
  |some t=>if rI l i t=true then aAE (eQ l i) t else eQ l i
  |none=>eQ l i
theorem aCJ(out:List Tm)(t x:Tm):x∈aAE out t↔x=t∨x∈out:=by
 unfold aAE
 conv=>rhs;rw[←List.takeWhile_append_dropWhile (p:=fun x:Tm=>x.less t) (l:=out)]
 simp only[List.mem_append,List.mem_cons]
 constructor
 ·rintro(h|h|h)<;>simp[h]
 rintro(h|h|h)<;>simp[h]
theorem aCI{out:List Tm}{t:Tm}(hs:mQ out)(hn:t∉out):mQ (aAE out t):=by
 induction out with
 |nil=>simp[aAE,mQ]
 |cons a out ih=>
  have hs':=List.pairwise_cons.1 hs
  have hn':t≠a∧t∉out:=by simpa using hn
  unfold aAE
  cases ha:a.less t with
  |true=>
   have:=ih hs'.2 hn'.2
   simp only[List.takeWhile_cons,List.dropWhile_cons,ha,if_true,List.cons_append]
   refine List.pairwise_cons.2 ⟨fun y hy=>?_,this⟩
   have hy':y∈aAE out t:=hy
   rcases(aCJ out t y).1 hy' with rfl|hy
   ·exact ha
   exact hs'.1 y hy
  |false=>
   simp only[List.takeWhile_cons,List.dropWhile_cons,ha,Bool.false_eq_true,if_false,List.nil_append]
   have hta:t.less a=true:=by
    cases h:t.less a with
    |true=>rfl
    |false=>exact absurd (Tm.less_tri _ _ h ha) hn'.1
   refine List.pairwise_cons.2 ⟨fun y hy=>?_,hs⟩
   rcases List.mem_cons.1 hy with rfl|hy
   ·exact hta
   exact Tm.less_trans hta (hs'.1 y hy)
theorem rV(l:List Tm)(i:Nat)(t:Tm):rI l i t=true↔t.ok=true∧∀k y,l[k]?=some y→y.ok=true→y.le t=true→y=t∧i≤k:=by
 unfold rI
 simp only[Bool.and_eq_true,Bool.not_eq_true',List.any_eq_false,List.mem_range]
 constructor
 ·rintro⟨h1,h2⟩
  refine⟨h1,fun k y hk ho hl=>?_⟩
  have hlt:=(List.getElem?_eq_some_iff.1 hk).1
  have:=h2 k hlt
  rw[hk] at this
  simp[ho,hl] at this
  exact⟨this.1,this.2⟩
 rintro⟨h1,h2⟩
 refine⟨h1,fun k hk=>?_⟩
 rw[List.getElem?_eq_getElem hk]
 simp only
 intro hc
 simp only[Bool.and_eq_true,Bool.or_eq_true,decide_eq_true_eq] at hc
 obtain⟨⟨a,b⟩,c⟩:=hc
 obtain⟨q1,q2⟩:=h2 k l[k] (List.getElem?_eq_getElem hk) a b
 rcases c with c|c
 ·exact c q1
 omega
theorem rP(l:List Tm):∀i,mQ (eQ l i)∧∀x,x∈eQ l i↔∃j,j<i∧l[j]?=some x∧rI l j x=true
 |0=>⟨by simp[eQ,mQ],fun x=>by simp[eQ]⟩
 |i+1=>by
  obtain⟨h1,h2⟩:=rP l i
  have step:∀x,(∃j,j<i+1∧l[j]?=some x∧rI l j x=true)↔((∃j,j<i∧l[j]?=some x∧rI l j x=true)∨(l[i]?=some x∧rI l i x=true)):=by
   intro x
   constructor
   ·rintro⟨j,hj,a,b⟩
    by_cases e:j=i
    ·subst e;exact .inr ⟨a,b⟩
    exact .inl ⟨j,by omega,a,b⟩
   rintro(⟨j,hj,a,b⟩|⟨a,b⟩)
   ·exact⟨j,by omega,a,b⟩
   exact⟨i,by omega,a,b⟩
  unfold eQ
  split
  ·rename_i t ht
   split
   ·rename_i hk
    have hn:t∉eQ l i:=fun hm=>by
     obtain⟨j,hj,a,b⟩:=(h2 t).1 hm
     have:=((rV l i t).1 hk).2 j t a ((rV l i t).1 hk).1 (Tm.le_refl _)
     omega
    refine⟨aCI h1 hn,fun x=>?_⟩
    rw[aCJ,step,h2,ht]
    constructor
    ·rintro(rfl|h)
     ·exact .inr ⟨rfl,hk⟩
     exact .inl h
    rintro(h|⟨h,_⟩)
    ·exact .inr h
    injection h with h;exact .inl h.symm
   rename_i hk
   refine⟨h1,fun x=>?_⟩
   rw[step,h2,ht]
   constructor
   ·exact .inl
   rintro(h|⟨h,hk2⟩)
   ·exact h
   injection h with h;subst h;exact absurd hk2 hk
  rename_i ht
  refine⟨h1,fun x=>?_⟩
  rw[step,h2,ht]
  simp
theorem wX(l:List Tm)(x:Tm):x∈eQ l l.length↔qK l x:=by
 rw[(rP l l.length).2]
 constructor
 ·rintro⟨j,hj,a,b⟩
  obtain⟨q1,q2⟩:=(rV l j x).1 b
  refine⟨List.mem_of_getElem? a,q1,fun y hy hyo hyl=>?_⟩
  obtain⟨k,hk,rfl⟩:=List.getElem_of_mem hy
  exact(q2 k _ (List.getElem?_eq_getElem hk) hyo hyl).1
 rintro⟨a,b,c⟩
 --the first place where it stands
 have hex:∃j:Nat,l[j]?=some x:=by
  obtain⟨k,hk,rfl⟩:=List.getElem_of_mem a
  exact⟨k,List.getElem?_eq_getElem hk⟩
 have first:∃j:Nat,l[j]?=some x∧∀k:Nat,k<j→l[k]?≠some x:=by
  obtain⟨j,hj⟩:=hex
  induction j using Nat.strongRecOn with
  |_ j ih=>
   by_cases h:∃k,k<j∧l[k]?=some x
   ·obtain⟨k,hk,hkx⟩:=h;exact ih k hk hkx
   exact⟨j,hj,fun k hk hkx=>h ⟨k,hk,hkx⟩⟩
 obtain⟨j,hj,hfirst⟩:=first
 refine⟨j,(List.getElem?_eq_some_iff.1 hj).1,hj,(rV l j x).2 ⟨b,fun k y hk hyo hyl=>?_⟩⟩
 have hy:=c y (List.mem_of_getElem? hk) hyo hyl
 refine⟨hy,?_⟩
 rcases Nat.lt_or_ge k j with h|h
 ·exact absurd (hy▸hk) (hfirst k h)
 exact h
theorem aDH(l:List Tm):ofT l=eQ l l.length:=by
 have hs:=nD aCb l
 have hp:=iY qR l
 have hl:∀a b:Tm,ltOf qR a b=a.less b:=fun a b=>by
  rw[wD,Bool.eq_iff_iff]
  simp[Tm.less]
 have inv:=aCv (iJ qR l) [] [] (fun x hx=>by cases hx) (hs.imp fun{x y} h=>by rw[←hl];exact h) (by simp[mQ]) (fun x=>by simp[qK]) (fun y hy=>by cases hy)
 refine sG inv.1 (rP l l.length).1 fun x=>?_
 rw[wX]
 refine(inv.2 x).trans ?_
 unfold qK
 simp only[List.nil_append,hp.mem_iff]
end Go.Proofs.YtmpmngakheoacaaGreat
/-
Contracts:the document's antichain of times. No conditions.
-/
namespace Go.Proofs.YtmpmngakheoacaaGreat
open Nat renaming reduceAdd→jA,reduceSub→jB,reduceLT→jC,reduceLeDiff→jD,reduceEqDiff→jE
open Int renaming reduceToNat→jF,toNat_natCast→jG,natCast_add→jH,natCast_one→jI,natCast_zero→jJ
open List renaming length_map→jK,length_cons→jL,length_nil→jM,replicate_succ→jN,replicate_zero→jO,cons_append→jP,nil_append→jQ
set_option linter.unusedSimpArgs false
set_option linter.unusedVariables false
set_option linter.unusedSectionVars false
open Go.RowKit
attribute [local go_sem] Option.some.injEq Prod.mk.injEq false_and and_false Bool.true_eq_false kA iE kD gA gK if_true Bool.true_and lT dN jX gU dY aA.ok aA.next LOp.ok LOp.next bH.ok bH.out aU.ev bR jY cO bZ dI V.undef Sh.size gS gG cG aA.dok aA.dres LOp.dok LOp.dout mB jT gQ fM List.take_succ_cons List.take_zero List.take_nil List.drop_succ_cons List.drop_zero List.drop_nil List.set_cons_succ List.set_cons_zero List.getD_cons_succ List.getD_cons_zero jL jM List.map_cons List.map_nil List.all_cons List.all_nil List.mem_cons List.not_mem_nil jN jO jP jQ List.append_nil List.isEmpty_cons List.isEmpty_nil eH fQ iU Option.getD_some Option.isSome_some Option.isSome_none Nat.add_eq Nat.zero_add Nat.add_zero true_and and_true and_self true_implies implies_true false_implies forall_const forall_eq forall_eq_or_imp ne_eq not_false_eq_true not_true_eq_false Bool.not_true Bool.not_false decide_true decide_false Bool.and_true Bool.true_and Bool.and_false Bool.false_and true_or or_true false_or or_false eq_self Bool.false_eq_true nJ kE gJ aD fN eR eP eK dE eJ bJ bC dC jG Int.toNat_zero List.take_length Hp.set_app Hp.del_app iP gI aA.plain LOp.isCall aA.dplain LOp.isStop fE lM iQ mT fX V.gd_true V.gd_false gF fC fD gE bS bI aW fY fJ beq_true beq_false dV dW dX cW cX bU bV dL fI cZ eD eA bW eB eE fF fG bX eC bM cY fH cB dZ cE bL iC iA iB hZ eF dB eG dM eY eX eW eV eU cQ cP dR dQ dP cU cT cS fB fA eZ dU dT dS dJ dA bT lH Hp.turn fZ Option.isNone_some Option.isNone_none
def qB(l:List Tm)(i:Nat)(t:Tm)(k:Nat):Bool:=t.ok&& !((List.range k).any fun k=>match l[k]? with|some y=>y.ok&&y.le t&&(decide (y≠t)||decide (k<i))|none=>false)
theorem xE(l:List Tm)(i:Nat)(t:Tm)(k:Nat)(hk:k<l.length):qB l i t (k+1)=(qB l i t k&& !(l[k].ok&&l[k].le t&&(decide (l[k]≠t)||decide (k<i)))):=by
 unfold qB
 rw[List.range_succ,List.any_append]
 simp only[List.any_cons,List.any_nil,Bool.or_false,List.getElem?_eq_getElem hk]
 cases t.ok<;>cases ((List.range k).any fun k=>match l[k]? with|some y=>y.ok&&y.le t&&(decide (y≠t)||decide (k<i))|none=>false)<;>simp
theorem yG(a b:Tm):veq (.plain (.agg 2) [.int, .int]) a.v b.v=some (decide (a=b)):=by
 have h1:((a.v).fits (.agg 2)&&(b.v).fits (.agg 2))=true:=by rw[a.fits_v,b.fits_v];rfl
 have h2:decide (a=b)=(a.e==b.e&&a.r==b.r):=by
  cases a;cases b
  rw[Bool.eq_iff_iff]
  simp
 rw[h2]
 simp only[veq,h1,if_true]
 simp[Tm.v,V.cells,gQ,fM]
theorem aBY{α:Type}(p:α→Bool)(l:List α)(n:Nat)(hn:n≤l.length)(h1:∀x∈l.take n,p x=true)(h2:∀(h:n<l.length),p l[n]=false):l.takeWhile p=l.take n∧l.dropWhile p=l.drop n:=by
 induction l generalizing n with
 |nil=>simp at hn;subst hn;simp
 |cons a l ih=>
  cases n with
  |zero=>
   have:=h2 (by simp)
   simp only[List.getElem_cons_zero] at this
   simp[List.takeWhile_cons,List.dropWhile_cons,this]
  |succ n=>
   have ha:=h1 a (by simp)
   obtain⟨q1,q2⟩:=ih n (by simpa using hn) (fun x hx=>h1 x (by simp[hx])) (fun h=>h2 (by simpa using h))
   simp[List.takeWhile_cons,List.dropWhile_cons,ha,q1,q2]
theorem aAW(l:List Tm):∀i,(eQ l i).length≤i
 |0=>by simp[eQ]
 |i+1=>by
  have:=aAW l i
  unfold eQ
  split
  ·split
   ·unfold aAE
    have e:∀t:Tm,((eQ l i).takeWhile (·.less t)).length+((eQ l i).dropWhile (·.less t)).length=(eQ l i).length:=fun t=>by rw[←List.length_append,List.takeWhile_append_dropWhile]
    rename_i t _ _
    have:=e t
    simp only[List.length_append,jL]
    omega
   omega
  omega
set_option maxHeartbeats 4000000 in
theorem aFv(own:Own)(l:List Tm)(hl:l.length≤1000000)(h:Hp):bP Tryz.prog 80 [tms own l] h (lst (.agg 2) ((eQ l l.length).map Tm.v)):=by
 refine gN (fun L=>gD (fun L=>cV (Tm.names_v L) _) L) fun h' nx hh=>aK L.corollaryref21_Of_low fun hd=>?_
 simp only[jL,jM,jA,jB,jN,jO,jP,jQ,V.undef]
 repeat (first|with_reducible refine aI ?_|with_reducible refine aG ?_|with_reducible refine aL ?_|with_reducible refine aB ?_|with_reducible refine aC ?_|with_reducible refine aJ ?_|(refine aM rfl (by simp only[ go_sem,reduceIte,jA,jB,jC,jD,reduceCtorEq,jE,jF];try omega) ?_;simp only[ go_sem,reduceIte,jA,jB,jC,jD,reduceCtorEq,jE,jF])|(with_reducible refine aH ?_))
 obtain⟨C,hC⟩:∃C:Nat×Own→Hp→Nat→Prop,∀i o hp nx1,C (i,o) hp nx1↔(i≤l.length∧h'.le hp∧nx≤nx1∧aT hp nx1∧((o= .nil∧eQ l i=[])∨∃id,nx≤id∧o= .tok id∧hp id=some .tip∧eQ l i≠ [])):=⟨fun p hp nx1=>(p.1≤l.length∧h'.le hp∧nx≤nx1∧aT hp nx1∧((p.2= .nil∧eQ l p.1=[])∨∃id,nx≤id∧p.2= .tok id∧hp id=some .tip∧eQ l p.1≠ [])),fun _ _ _ _=>Iff.rfl⟩
 refine bD (fun p=>aD 92 0 [(0,tms own l),(3,tms p.2 (eQ l p.1)),(4, .int .i64 p.1)]) C (fun p=>l.length-p.1) (0, .nil) ((hC _ _ _ _).2 ⟨Nat.zero_le _,Hp.le_refl _,Nat.le_refl _,hd, .inl ⟨rfl,rfl⟩⟩) ?_ ?_
 ·simp only[WkL,aD,jH,jI,jJ,eQ,tms,go_sem,reduceIte,jA,jB,jC,jD,reduceCtorEq,jE,jF]
 rintro⟨i,o⟩ hp nx1 hCi
 obtain⟨hi,hle,hnx,hdm,hown⟩:=(hC _ _ _ _).1 hCi
 simp only[aD,go_sem,reduceIte,jA,jB,jC,jD,reduceCtorEq,jE,jF]
 repeat (first|with_reducible refine aI ?_|with_reducible refine aG ?_|with_reducible refine aL ?_|with_reducible refine aB ?_|with_reducible refine aC ?_|with_reducible refine aJ ?_|(refine aM rfl (by simp only[tms,jK,go_sem,reduceIte,jA,jB,jC,jD,reduceCtorEq,jE,jF];try omega) ?_;simp only[tms,jK,go_sem,reduceIte,jA,jB,jC,jD,reduceCtorEq,jE,jF])|(with_reducible refine aH ?_))
 refine cF _ rfl (fun hc=>?_) (fun hc=>?_)
 ·have hlt:i<l.length:=by simpa using hc
  have hg:=bB Tm.v l i hlt
  repeat (first|with_reducible refine aI ?_|with_reducible refine aG ?_|with_reducible refine aL ?_|with_reducible refine aB ?_|with_reducible refine aC ?_|with_reducible refine aJ ?_|(refine aM rfl (by simp only[tms,hg,jK,jG,Tm.fits_v,go_sem,reduceIte,jA,jB,jC,jD,reduceCtorEq,jE,jF];try omega) ?_;simp only[tms,hg,jK,jG,Tm.fits_v,go_sem,reduceIte,jA,jB,jC,jD,reduceCtorEq,jE,jF])|(with_reducible refine aH ?_))
  refine aN (rA l[i] _) rfl (aR _) ?_
  simp only[ go_sem,reduceIte,jA,jB,jC,jD,reduceCtorEq,jE,jF]
  repeat (first|with_reducible refine aI ?_|with_reducible refine aG ?_|with_reducible refine aL ?_|with_reducible refine aB ?_|with_reducible refine aC ?_|with_reducible refine aJ ?_|(refine aM rfl (by simp only[ go_sem,reduceIte,jA,jB,jC,jD,reduceCtorEq,jE,jF];try omega) ?_;simp only[ go_sem,reduceIte,jA,jB,jC,jD,reduceCtorEq,jE,jF])|(with_reducible refine aH ?_))
  have hsucc:eQ l (i+1)=if rI l i l[i]=true then aAE (eQ l i) l[i] else eQ l i:=by
   conv=>lhs;unfold eQ
   rw[List.getElem?_eq_getElem hlt]
  --the inner loop
  refine bD (fun k:Nat=>aD 92 0 [(0,tms own l),(3,tms o (eQ l i)),(4, .int .i64 i),(5, .bool (qB l i l[i] k)),(6, .int .i64 k)]) (fun k h2 nx2=>k≤l.length∧h2=hp∧nx1≤nx2) (fun k=>l.length-k) 0 ⟨Nat.zero_le _,rfl,Nat.le_refl _⟩ ?_ ?_
  ·simp only[WkL,aD,jH,jI,jJ,tms,qB,List.range_zero,List.any_nil,go_sem,reduceIte,jA,jB,jC,jD,reduceCtorEq,jE,jF]
  rintro k h2 nx2 ⟨hk,rfl,hnx2⟩
  generalize hQ:dD _ _ _ _ _=Q0
  simp only[aD,go_sem,reduceIte,jA,jB,jC,jD,reduceCtorEq,jE,jF]
  repeat (first|with_reducible refine aI ?_|with_reducible refine aG ?_|with_reducible refine aL ?_|with_reducible refine aB ?_|with_reducible refine aC ?_|with_reducible refine aJ ?_|(refine aM rfl (by simp only[tms,jK,go_sem,reduceIte,jA,jB,jC,jD,reduceCtorEq,jE,jF];try omega) ?_;simp only[tms,jK,go_sem,reduceIte,jA,jB,jC,jD,reduceCtorEq,jE,jF])|(with_reducible refine aH ?_))
  refine cF _ rfl (fun hc2=>?_) (fun hc2=>?_)
  ·have hltk:k<l.length:=by simpa using hc2
   have hgk:=bB Tm.v l k hltk
   repeat (first|with_reducible refine aI ?_|with_reducible refine aG ?_|with_reducible refine aL ?_|with_reducible refine aB ?_|with_reducible refine aC ?_|with_reducible refine aJ ?_|(refine aM rfl (by simp only[ go_sem,reduceIte,jA,jB,jC,jD,reduceCtorEq,jE,jF];try omega) ?_;simp only[ go_sem,reduceIte,jA,jB,jC,jD,reduceCtorEq,jE,jF])|(with_reducible refine aH ?_))
   refine gC rfl ?_
   refine dH rfl (by simp only[tms,hgk,jK,jG,Tm.fits_v,go_sem,reduceIte,jA,jB,jC,jD,reduceCtorEq,jE,jF];try omega) ?_
   simp only[tms,hgk,jK,jG,Tm.fits_v,go_sem,reduceIte,jA,jB,jC,jD,reduceCtorEq,jE,jF]
   refine cH (rA l[k] Hp.none) rfl (cA _) ?_
   refine dH rfl (by simp only[Tm.fits_v,go_sem,reduceIte,jA,jB,jC,jD,reduceCtorEq,jE,jF];try omega) ?_
   simp only[Tm.fits_v,go_sem,reduceIte,jA,jB,jC,jD,reduceCtorEq,jE,jF]
   refine vG (true) _ rfl rfl ?sla ?h1a ?h2a
   case h1a=>
    intro hgc hgd
    simp only[tms,hgk,hg,jK,jG,Tm.fits_v,go_sem,reduceIte,jA,jB,jC,jD,reduceCtorEq,jE,jF]
    refine dH rfl (by simp only[tms,hgk,hg,jK,jG,Tm.fits_v,go_sem,reduceIte,jA,jB,jC,jD,reduceCtorEq,jE,jF];try omega) ?_
    simp only[tms,hgk,hg,jK,jG,Tm.fits_v,go_sem,reduceIte,jA,jB,jC,jD,reduceCtorEq,jE,jF]
    refine cH (aBC l[k] l[i] Hp.none) rfl (cA _) ?_
    refine eS ⟨?_,?_,?_⟩<;>exact rfl
   simp only[go_sem,reduceIte,jA,jB,jC,jD,reduceCtorEq,jE,jF]
   refine dH rfl (by simp only[ go_sem,reduceIte,jA,jB,jC,jD,reduceCtorEq,jE,jF];try omega) ?_
   simp only[ go_sem,reduceIte,jA,jB,jC,jD,reduceCtorEq,jE,jF]
   refine vG (true) _ rfl rfl ?slb ?h1b ?h2b
   case h1b=>
    intro hgc hgd
    simp only[tms,hgk,hg,jK,jG,Tm.fits_v,yG,go_sem,reduceIte,jA,jB,jC,jD,reduceCtorEq,jE,jF]
    refine dH rfl (by simp only[tms,hgk,hg,jK,jG,Tm.fits_v,yG,go_sem,reduceIte,jA,jB,jC,jD,reduceCtorEq,jE,jF];try omega) ?_
    simp only[tms,hgk,hg,jK,jG,Tm.fits_v,yG,go_sem,reduceIte,jA,jB,jC,jD,reduceCtorEq,jE,jF]
    refine eS ⟨?_,?_,?_⟩<;>exact rfl
   simp only[go_sem,reduceIte,jA,jB,jC,jD,reduceCtorEq,jE,jF]
   refine vG (_) _ rfl rfl ?slc ?h1c ?h2c
   case h1c=>
    intro hgc hgd
    simp only[ go_sem,reduceIte,jA,jB,jC,jD,reduceCtorEq,jE,jF]
    refine dH rfl (by simp only[ go_sem,reduceIte,jA,jB,jC,jD,reduceCtorEq,jE,jF];try omega) ?_
    simp only[ go_sem,reduceIte,jA,jB,jC,jD,reduceCtorEq,jE,jF]
    refine eS ⟨?_,?_,?_⟩<;>exact rfl
   simp only[go_sem,reduceIte,jA,jB,jC,jD,reduceCtorEq,jE,jF]
   refine vG (true) _ rfl rfl ?sld ?h1d ?h2d
   case h1d=>
    intro hgc hgd
    simp only[hgd,go_sem,reduceIte,jA,jB,jC,jD,reduceCtorEq,jE,jF]
    refine dH rfl (by simp only[hgd,go_sem,reduceIte,jA,jB,jC,jD,reduceCtorEq,jE,jF];try omega) ?_
    simp only[hgd,go_sem,reduceIte,jA,jB,jC,jD,reduceCtorEq,jE,jF]
    refine eS ⟨?_,?_,?_⟩<;>exact rfl
   simp only[go_sem,reduceIte,jA,jB,jC,jD,reduceCtorEq,jE,jF]
   refine dH rfl (by simp only[ go_sem,reduceIte,jA,jB,jC,jD,reduceCtorEq,jE,jF];try omega) ?_
   simp only[ go_sem,reduceIte,jA,jB,jC,jD,reduceCtorEq,jE,jF]
   refine eS (fK ?_)
   simp only[go_sem,reduceIte,jA,jB,jC,jD,reduceCtorEq,jE,jF]
   refine aB ?_
   have h3:decide ((k:Int)<i)=decide (k<i):=by simp
   refine cF _ rfl (fun hc3=>?_) (fun hc3=>?_)
   ·repeat (first|with_reducible refine aI ?_|with_reducible refine aG ?_|with_reducible refine aL ?_|with_reducible refine aB ?_|with_reducible refine aC ?_|with_reducible refine aJ ?_|(refine aM rfl (by simp only[ go_sem,reduceIte,jA,jB,jC,jD,reduceCtorEq,jE,jF];try omega) ?_;simp only[ go_sem,reduceIte,jA,jB,jC,jD,reduceCtorEq,jE,jF])|(with_reducible refine aH ?_))
    rw[aY (by omega) (by omega)]
    rw[←hQ]
    refine aF (k+1) (by omega) ⟨by omega,rfl,by omega⟩ ?_
    have hkeep:qB l i l[i] (k+1)=false:=by
     rw[xE l i l[i] k hltk]
     revert hc3
     rw[h3]
     by_cases he:l[k]=l[i]<;>by_cases hki:k<i<;>cases l[k].ok<;>cases l[k].le l[i]<;>simp[he,hki]
    simp only[WkL,aD,jH,jI,jJ,tms,hkeep,go_sem,reduceIte,jA,jB,jC,jD,reduceCtorEq,jE,jF]
   repeat (first|with_reducible refine aI ?_|with_reducible refine aG ?_|with_reducible refine aL ?_|with_reducible refine aB ?_|with_reducible refine aC ?_|with_reducible refine aJ ?_|(refine aM rfl (by simp only[ go_sem,reduceIte,jA,jB,jC,jD,reduceCtorEq,jE,jF];try omega) ?_;simp only[ go_sem,reduceIte,jA,jB,jC,jD,reduceCtorEq,jE,jF])|(with_reducible refine aH ?_))
   rw[aY (by omega) (by omega)]
   rw[←hQ]
   refine aF (k+1) (by omega) ⟨by omega,rfl,by omega⟩ ?_
   have hkeep:qB l i l[i] (k+1)=qB l i l[i] k:=by
    rw[xE l i l[i] k hltk]
    revert hc3
    rw[h3]
    by_cases he:l[k]=l[i]<;>by_cases hki:k<i<;>cases l[k].ok<;>cases l[k].le l[i]<;>simp[he,hki]
   simp only[WkL,aD,jH,jI,jJ,tms,hkeep,go_sem,reduceIte,jA,jB,jC,jD,reduceCtorEq,jE,jF]
  have hge:k=l.length:=by have:¬k<l.length:=by simpa using hc2
                          omega
  rw[←hQ]
  refine gX ?_
  repeat (first|with_reducible refine gB ?_|with_reducible refine eT ?_|with_reducible refine fL ?_|with_reducible refine bG (by decide) ?_|with_reducible refine eN ?_|with_reducible refine aB ?_)
  have hkr:qB l i l[i] k=rI l i l[i]:=by rw[hge];rfl
  rw[hkr]
  clear hQ Q0
  generalize hQ:kS 1 _=Q0
  repeat (first|with_reducible refine aI ?_|with_reducible refine aG ?_|with_reducible refine aL ?_|with_reducible refine aB ?_|with_reducible refine aC ?_|with_reducible refine aJ ?_|(refine aM rfl (by simp only[ go_sem,reduceIte,jA,jB,jC,jD,reduceCtorEq,jE,jF];try omega) ?_;simp only[ go_sem,reduceIte,jA,jB,jC,jD,reduceCtorEq,jE,jF])|(with_reducible refine aH ?_))
  refine cF _ rfl (fun hc3=>?_) (fun hc3=>?_)
  ·have hkf:rI l i l[i]=false:=by simpa using hc3
   refine gX ?_
   repeat (first|with_reducible refine gB ?_|with_reducible refine eT ?_|with_reducible refine fL ?_|with_reducible refine bG (by decide) ?_|with_reducible refine eN ?_|with_reducible refine aB ?_)
   rw[←hQ]
   repeat (first|with_reducible refine gB ?_|with_reducible refine eT ?_|with_reducible refine fL ?_|with_reducible refine bG (by decide) ?_|with_reducible refine eN ?_|with_reducible refine aB ?_)
   repeat (first|with_reducible refine aI ?_|with_reducible refine aG ?_|with_reducible refine aL ?_|with_reducible refine aB ?_|with_reducible refine aC ?_|with_reducible refine aJ ?_|(refine aM rfl (by simp only[ go_sem,reduceIte,jA,jB,jC,jD,reduceCtorEq,jE,jF];try omega) ?_;simp only[ go_sem,reduceIte,jA,jB,jC,jD,reduceCtorEq,jE,jF])|(with_reducible refine aH ?_))
   rw[aY (by omega) (by omega)]
   refine aF (i+1,o) (by simp only;omega) ((hC _ _ _ _).2 ⟨by omega,hle,by omega,hdm.up (by omega),?_⟩) ?_
   ·rw[hsucc,hkf];simpa using hown
   simp only[hkf,Bool.false_eq_true,if_false] at hsucc
   simp only[WkL,aD,jH,jI,jJ,tms,hsucc,go_sem,reduceIte,jA,jB,jC,jD,reduceCtorEq,jE,jF]
  have hkt:rI l i l[i]=true:=by simpa using hc3
  simp only[hkt,if_true] at hsucc
  repeat (first|with_reducible refine aI ?_|with_reducible refine aG ?_|with_reducible refine aL ?_|with_reducible refine aB ?_|with_reducible refine aC ?_|with_reducible refine aJ ?_|(refine aM rfl (by simp only[ go_sem,reduceIte,jA,jB,jC,jD,reduceCtorEq,jE,jF];try omega) ?_;simp only[ go_sem,reduceIte,jA,jB,jC,jD,reduceCtorEq,jE,jF])|(with_reducible refine aH ?_))
  --the place
  refine bD (fun a:Nat=>aD 92 0 [(0,tms own l),(3,tms o (eQ l i)),(4, .int .i64 i),(7, .int .i64 a)]) (fun a h2' nx3=>a≤(eQ l i).length∧(∀x∈(eQ l i).take a,x.less l[i]=true)∧h2'=h2∧nx1≤nx3) (fun a=>(eQ l i).length-a) 0 ⟨Nat.zero_le _,by simp,rfl,by omega⟩ ?_ ?_
  ·simp only[WkL,aD,jH,jI,jJ,tms,go_sem,reduceIte,jA,jB,jC,jD,reduceCtorEq,jE,jF]
  rintro a h3 nx3 ⟨ha,hless,rfl,hnx3⟩
  generalize hQ3:dD _ _ _ _ _=Q3
  simp only[aD,go_sem,reduceIte,jA,jB,jC,jD,reduceCtorEq,jE,jF]
  repeat (first|with_reducible refine aI ?_|with_reducible refine aG ?_|with_reducible refine aL ?_|with_reducible refine aB ?_|with_reducible refine aC ?_|with_reducible refine aJ ?_|(refine aM rfl (by simp only[ go_sem,reduceIte,jA,jB,jC,jD,reduceCtorEq,jE,jF];try omega) ?_;simp only[ go_sem,reduceIte,jA,jB,jC,jD,reduceCtorEq,jE,jF])|(with_reducible refine aH ?_))
  refine gC rfl ?_
  have hlenO:=aAW l i
  have fin:∀nx4,nx1≤nx4→(eQ l i).takeWhile (·.less l[i])=(eQ l i).take a→(eQ l i).dropWhile (·.less l[i])=(eQ l i).drop a→lwp Tryz.prog (.draw 15 L.corollaryref21_Of_r14 L.corollaryref21_Of_r14t) Q0 ⟨aD 92 0 [(0,tms own l),(3,tms o (eQ l i)),(4, .int .i64 i),(7, .int .i64 a)],h3,nx4⟩:=by
   intro nx4 hnx4 w1 w2
   have hins:eQ l (i+1)=(eQ l i).take a++l[i]::(eQ l i).drop a:=by rw[hsucc];unfold aAE;rw[w1,w2]
   simp only[aD,go_sem,reduceIte,jA,jB,jC,jD,reduceCtorEq,jE,jF]
   refine gC rfl ?_
   refine dH rfl (by simp only[hg,tms,jK,List.length_take,List.length_drop,List.length_append,jG,Tm.fits_v,go_sem,reduceIte,jA,jB,jC,jD,reduceCtorEq,jE,jF];try omega) ?_
   simp only[hg,tms,jK,List.length_take,List.length_drop,List.length_append,jG,Tm.fits_v,go_sem,reduceIte,jA,jB,jC,jD,reduceCtorEq,jE,jF]
   have htk:(List.map Tm.v (eQ l i)).take (eQ l i).length=List.map Tm.v (eQ l i):=by
    rw[List.take_of_length_le (by simp)]
   refine eS (iR ?_)
   simp only[go_sem,reduceIte,jA,jB,jC,jD,reduceCtorEq,jE,jF]
   repeat (first|with_reducible refine aI ?_|with_reducible refine aG ?_|with_reducible refine aL ?_|with_reducible refine aB ?_|with_reducible refine aC ?_|with_reducible refine aJ ?_|(refine aM rfl (by simp only[ go_sem,reduceIte,jA,jB,jC,jD,reduceCtorEq,jE,jF];try omega) ?_;simp only[ go_sem,reduceIte,jA,jB,jC,jD,reduceCtorEq,jE,jF])|(with_reducible refine aH ?_))
   rw[←hQ]
   repeat (first|with_reducible refine aI ?_|with_reducible refine aG ?_|with_reducible refine aL ?_|with_reducible refine aB ?_|with_reducible refine aC ?_|with_reducible refine aJ ?_|(refine aM rfl (by simp only[ go_sem,reduceIte,jA,jB,jC,jD,reduceCtorEq,jE,jF];try omega) ?_;simp only[ go_sem,reduceIte,jA,jB,jC,jD,reduceCtorEq,jE,jF])|(with_reducible refine aH ?_))
   rw[aY (by omega) (by omega)]
   refine aF (i+1, .tok (nx4+14)) (by simp only;omega) ((hC _ _ _ _).2 ⟨by omega,?_,by omega,?_, .inr ⟨nx4+14,by omega,rfl,?_,by rw[hins];simp⟩⟩) ?_
   ·repeat (first|exact hle|refine lZ ?_ (aT.none hd (by omega)) _|refine rH ?_ (aT.none hd (by omega)))
   ·have hdm:=hdm.up hnx4
    repeat (first|exact aT.up hdm (by omega)|refine aT.set2 ?_ (by omega) _|refine aT.del ?_)
   ·simp only[go_sem,reduceIte,jA,jB,jC,jD,reduceCtorEq,jE,jF]
   simp only[WkL,aD,jH,jI,jJ,tms,hins,htk,List.map_append,List.map_cons,List.map_take,List.map_drop,List.append_assoc,go_sem,reduceIte,jA,jB,jC,jD,reduceCtorEq,jE,jF]
  refine dH rfl (by simp only[tms,jK,go_sem,reduceIte,jA,jB,jC,jD,reduceCtorEq,jE,jF];try omega) ?_
  simp only[tms,jK,go_sem,reduceIte,jA,jB,jC,jD,reduceCtorEq,jE,jF]
  by_cases hal:a<(eQ l i).length
  ·have hal':decide ((a:Int)<((eQ l i).length:Int))=true:=by simpa using hal
   have hga:=bB Tm.v (eQ l i) a hal
   simp only[hal',go_sem,reduceIte,jA,jB,jC,jD,reduceCtorEq,jE,jF]
   refine aCX (by simp only[hga,hg,tms,jK,jG,Tm.fits_v,go_sem,reduceIte,jA,jB,jC,jD,reduceCtorEq,jE,jF];try omega) ?_
   simp only[hga,hg,tms,jK,jG,Tm.fits_v,go_sem,reduceIte,jA,jB,jC,jD,reduceCtorEq,jE,jF]
   refine aAc rfl (fun _=>?_) (fun h=>absurd rfl h)
   refine cH (aDC (eQ l i)[a] l[i] Hp.none) rfl (cA _) ?_
   refine aCX (by simp only[ go_sem,reduceIte,jA,jB,jC,jD,reduceCtorEq,jE,jF];try omega) ?_
   simp only[ go_sem,reduceIte,jA,jB,jC,jD,reduceCtorEq,jE,jF]
   refine eS (fK ?_)
   simp only[go_sem,reduceIte,jA,jB,jC,jD,reduceCtorEq,jE,jF]
   refine aB ?_
   refine cF _ rfl (fun hc4=>?_) (fun hc4=>?_)
   ·repeat (first|with_reducible refine aI ?_|with_reducible refine aG ?_|with_reducible refine aL ?_|with_reducible refine aB ?_|with_reducible refine aC ?_|with_reducible refine aJ ?_|(refine aM rfl (by simp only[ go_sem,reduceIte,jA,jB,jC,jD,reduceCtorEq,jE,jF];try omega) ?_;simp only[ go_sem,reduceIte,jA,jB,jC,jD,reduceCtorEq,jE,jF])|(with_reducible refine aH ?_))
    rw[aY (by omega) (by omega)]
    rw[←hQ3]
    refine aF (a+1) (by omega) ⟨by omega,?_,rfl,by omega⟩ ?_
    ·intro x hx
     rw[List.take_succ_eq_append_getElem hal,List.mem_append,List.mem_singleton] at hx
     rcases hx with hx|rfl
     ·exact hless x hx
     exact hc4
    simp only[WkL,aD,jH,jI,jJ,tms,go_sem,reduceIte,jA,jB,jC,jD,reduceCtorEq,jE,jF]
   rw[←hQ3]
   refine gX ?_
   repeat (first|with_reducible refine gB ?_|with_reducible refine eT ?_|with_reducible refine fL ?_|with_reducible refine bG (by decide) ?_|with_reducible refine eN ?_)
   obtain⟨w1,w2⟩:=aBY (fun x:Tm=>x.less l[i]) (eQ l i) a ha hless (fun h=>by simpa using hc4)
   refine xW _ (nF ?_ (Hp.le_refl _) (Nat.le_refl _)) (fin _ (by omega) w1 w2)
   simp only[WkL,aD,jH,jI,jJ,tms,go_sem,reduceIte,jA,jB,jC,jD,reduceCtorEq,jE,jF]
  have hal':decide ((a:Int)<((eQ l i).length:Int))=false:=by simpa using hal
  simp only[hal',go_sem,reduceIte,jA,jB,jC,jD,reduceCtorEq,jE,jF]
  refine vG true _ rfl rfl [] (fun _ h=>absurd h (by simp)) ?_
  simp only[go_sem,reduceIte,jA,jB,jC,jD,reduceCtorEq,jE,jF]
  refine dH rfl (by simp only[ go_sem,reduceIte,jA,jB,jC,jD,reduceCtorEq,jE,jF];try omega) ?_
  simp only[ go_sem,reduceIte,jA,jB,jC,jD,reduceCtorEq,jE,jF]
  refine eS (fK ?_)
  simp only[go_sem,reduceIte,jA,jB,jC,jD,reduceCtorEq,jE,jF]
  refine aB ?_
  refine cF _ rfl (fun hc4=>?_) (fun hc4=>?_)
  ·cases hc4
  rw[←hQ3]
  refine gX ?_
  repeat (first|with_reducible refine gB ?_|with_reducible refine eT ?_|with_reducible refine fL ?_|with_reducible refine bG (by decide) ?_|with_reducible refine eN ?_)
  obtain⟨w1,w2⟩:=aBY (fun x:Tm=>x.less l[i]) (eQ l i) a ha hless (fun h=>absurd h hal)
  refine xW _ (nF ?_ (Hp.le_refl _) (Nat.le_refl _)) (fin _ (by omega) w1 w2)
  simp only[WkL,aD,jH,jI,jJ,tms,go_sem,reduceIte,jA,jB,jC,jD,reduceCtorEq,jE,jF]
 have hge:i=l.length:=by have:¬i<l.length:=by simpa using hc
                         omega
 refine gX ?_
 repeat (first|with_reducible refine gB ?_|with_reducible refine eT ?_|with_reducible refine fL ?_|with_reducible refine bG (by decide) ?_|with_reducible refine eN ?_|with_reducible refine aB ?_)
 repeat (first|with_reducible refine aI ?_|with_reducible refine aG ?_|with_reducible refine aL ?_|with_reducible refine aB ?_|with_reducible refine aC ?_|with_reducible refine aJ ?_|(refine aM rfl (by simp only[ go_sem,reduceIte,jA,jB,jC,jD,reduceCtorEq,jE,jF];try omega) ?_;simp only[ go_sem,reduceIte,jA,jB,jC,jD,reduceCtorEq,jE,jF])|(with_reducible refine aH ?_))
 refine bQ (aO hp (Hp.le_refl _) ⟨?_,hle⟩)
 simp only[go_sem,reduceIte,jA,jB,jC,jD,reduceCtorEq,jE,jF]
 rw[hge] at hown⊢
 rcases hown with⟨rfl,h1⟩|⟨id,hid,rfl,htip,hne⟩
 ·rw[h1];rfl
 generalize eQ l l.length=r at hne⊢
 cases r with
 |nil=>exact absurd rfl hne
 |cons x r=>rfl
end Go.Proofs.YtmpmngakheoacaaGreat
/-
corollarylaw21.ChainTells returns true for every input,and leaves its arguments as they were. Conditions:none.
-/
namespace Go.Proofs.YtmpmngakheoacaaGreat
set_option linter.unusedSimpArgs false
set_option linter.unusedVariables false
set_option linter.unusedSectionVars false
open Go.ChangeShapes Go.WideShapes Go.ChangeAt Go.RowKit
attribute [local go_sem] Option.some.injEq Prod.mk.injEq false_and and_false Bool.true_eq_false kA iE kD gA gK if_true Bool.true_and lT dN jX gU dY aA.ok aA.next LOp.ok LOp.next bH.ok bH.out aU.ev bR jY cO bZ dI V.undef Sh.size gS gG cG aA.dok aA.dres LOp.dok LOp.dout mB jT gQ fM List.take_succ_cons List.take_zero List.take_nil List.drop_succ_cons List.drop_zero List.drop_nil List.set_cons_succ List.set_cons_zero List.getD_cons_succ List.getD_cons_zero List.length_cons List.length_nil List.map_cons List.map_nil List.all_cons List.all_nil List.mem_cons List.not_mem_nil List.replicate_succ List.replicate_zero List.cons_append List.nil_append List.append_nil List.isEmpty_cons List.isEmpty_nil eH fQ iU Option.getD_some Option.isSome_some Option.isSome_none Nat.add_eq Nat.zero_add Nat.add_zero true_and and_true and_self true_implies implies_true false_implies forall_const forall_eq forall_eq_or_imp ne_eq not_false_eq_true not_true_eq_false Bool.not_true Bool.not_false decide_true decide_false Bool.and_true Bool.true_and Bool.and_false Bool.false_and true_or or_true false_or or_false eq_self Bool.false_eq_true nJ kE gJ aD fN eR eP eK dE eJ bJ bC dC Int.toNat_natCast Int.toNat_zero List.take_length Hp.set_app Hp.del_app iP gI aA.plain LOp.isCall aA.dplain LOp.isStop fE lM iQ mT fX V.gd_true V.gd_false gF fC fD gE bS bI aW fY fJ beq_true beq_false dV dW dX cW cX bU bV dL fI cZ eD eA bW eB eE fF fG bX eC bM cY fH cB dZ cE bL iC iA iB hZ eF dB eG dM eY eX eW eV eU cQ cP dR dQ dP cU cT cS fB fA eZ dU dT dS dJ dA bT lH Hp.turn fZ Option.isNone_some Option.isNone_none
theorem aAH(own:Own)(l:List Tm)(h:Hp)(hl:l.length≤1000000):bP Tryz.prog 76 [tms own l] h (lst (.agg 2) (l.map Tm.v)):=by
 refine gN (fun L=>gD (fun L=>cV (Tm.names_v L) _) L) fun h' nx hh=>?_
 have c:=aAe own l h' nx hl
 refine⟨c.1,fun K cargs hlv hr hv=>((c.mono (R':=fun v' h'' _=>v'.loose=lst (.agg 2) (l.map Tm.v)∧h'.le h'') ?_).2 K cargs hlv hr hv)⟩
 rintro v h'' nx' hnx ⟨rfl,rfl⟩
 have hd:aT h' nx:=fun m b hm=>hlv m (hr.lt m b hm)
 cases l with
 |nil=>exact⟨rfl,Hp.le_refl _⟩
 |cons t l=>exact⟨rfl,lZ (Hp.le_refl _) (hd.none (by omega)) _⟩
end Go.Proofs.YtmpmngakheoacaaGreat
/-
corollarylaw21.ChainOf returns true for every input,and leaves its arguments as they were. Conditions:none.
-/
namespace Go.Proofs.YtmpmngakheoacaaGreat
open Nat renaming reduceAdd→jA,reduceSub→jB,reduceLT→jC,reduceLeDiff→jD,reduceEqDiff→jE
open Int renaming reduceToNat→jF,toNat_natCast→jG,natCast_add→jH,natCast_one→jI,natCast_zero→jJ
open List renaming length_map→jK,length_cons→jL,length_nil→jM,replicate_succ→jN,replicate_zero→jO,cons_append→jP,nil_append→jQ
set_option linter.unusedSimpArgs false
set_option linter.unusedVariables false
set_option linter.unusedSectionVars false
open Go.ChangeShapes Go.WideShapes Go.ChangeAt Go.RowKit
theorem aHa{a k:Nat}:(a=a+1+(k+1))=False:=xB (by omega)
theorem aGT{a k:Nat}:(a+1+(k+1)=a)=False:=xB (by omega)
attribute [local go_sem] Option.some.injEq Prod.mk.injEq false_and and_false Bool.true_eq_false kA iE kD gA gK if_true Bool.true_and lT dN jX gU dY aA.ok aA.next LOp.ok LOp.next bH.ok bH.out aU.ev bR jY cO bZ dI V.undef Sh.size gS gG cG aA.dok aA.dres LOp.dok LOp.dout mB jT gQ fM List.take_succ_cons List.take_zero List.take_nil List.drop_succ_cons List.drop_zero List.drop_nil List.set_cons_succ List.set_cons_zero List.getD_cons_succ List.getD_cons_zero jL jM List.map_cons List.map_nil List.all_cons List.all_nil List.mem_cons List.not_mem_nil jN jO jP jQ List.append_nil List.isEmpty_cons List.isEmpty_nil eH fQ iU Option.getD_some Option.isSome_some Option.isSome_none Nat.add_eq Nat.zero_add Nat.add_zero true_and and_true and_self true_implies implies_true false_implies forall_const forall_eq forall_eq_or_imp ne_eq not_false_eq_true not_true_eq_false Bool.not_true Bool.not_false decide_true decide_false Bool.and_true Bool.true_and Bool.and_false Bool.false_and true_or or_true false_or or_false eq_self Bool.false_eq_true nJ kE gJ aD fN eR eP eK dE eJ bJ bC dC jG Int.toNat_zero List.take_length Hp.set_app Hp.del_app iP gI aA.plain LOp.isCall aA.dplain LOp.isStop fE lM iQ mT fX V.gd_true V.gd_false gF fC fD gE bS bI aW fY fJ beq_true beq_false dV dW dX cW cX bU bV dL fI cZ eD eA bW eB eE fF fG bX eC bM cY fH cB dZ cE bL iC iA iB hZ eF dB eG dM eY eX eW eV eU cQ cP dR dQ dP cU cT cS fB fA eZ dU dT dS dJ dA bT lH Hp.turn fZ Option.isNone_some Option.isNone_none
attribute [local go_sem] aHa aGT
theorem aDz(own own':Own)(a b:List Tm)(ha:a.length≤1000000000)(h:Hp):
 bP Tryz.prog 75 [tms own a,tms own' b] h (.bool (decide (a=b))):=by
 refine aZ (fun L=>trivial) fun h' nx hh=>aK L.corollaryref21_Same_low fun hd=>?_
 simp only[jL,jM,jA,jB,jN,jO,jP,jQ,V.undef]
 repeat (first|with_reducible refine aI ?_|with_reducible refine aG ?_|with_reducible refine aL ?_|with_reducible refine aB ?_|with_reducible refine aC ?_|with_reducible refine aJ ?_|(refine aM rfl (by simp only[tms,jK,go_sem,reduceIte,jA,jB,jC,jD,reduceCtorEq,jE,jF];try omega) ?_;simp only[tms,jK,go_sem,reduceIte,jA,jB,jC,jD,reduceCtorEq,jE,jF])|(with_reducible refine aH ?_))
 refine cF _ rfl (fun hc=>?_) (fun hc=>?_)
 ·repeat (first|with_reducible refine aI ?_|with_reducible refine aG ?_|with_reducible refine aL ?_|with_reducible refine aB ?_|with_reducible refine aC ?_|with_reducible refine aJ ?_|(refine aM rfl (by simp only[ go_sem,reduceIte,jA,jB,jC,jD,reduceCtorEq,jE,jF];try omega) ?_;simp only[ go_sem,reduceIte,jA,jB,jC,jD,reduceCtorEq,jE,jF])|(with_reducible refine aH ?_))
  refine bQ ?_
  repeat (first|with_reducible refine kJ ?_|with_reducible refine gW ?_|with_reducible refine iK ?_|with_reducible refine iL ?_)
  refine aO h' (Hp.le_refl _) ⟨?_,rfl⟩
  have:a≠b:=by rintro rfl;simp at hc
  simp only[this,go_sem,reduceIte,jA,jB,jC,jD,reduceCtorEq,jE,jF]
 have hab:a.length=b.length:=by
  have:((a.length:Int))=b.length:=by simpa using hc
  omega
 repeat (first|with_reducible refine aI ?_|with_reducible refine aG ?_|with_reducible refine aL ?_|with_reducible refine aB ?_|with_reducible refine aC ?_|with_reducible refine aJ ?_|(refine aM rfl (by simp only[ go_sem,reduceIte,jA,jB,jC,jD,reduceCtorEq,jE,jF];try omega) ?_;simp only[ go_sem,reduceIte,jA,jB,jC,jD,reduceCtorEq,jE,jF])|(with_reducible refine aH ?_))
 refine bD (fun i:Nat=>aD 26 0 [(0,tms own a),(1,tms own' b),(5, .int .i64 i)]) (fun i h2 nx2=>i≤a.length∧a.take i=b.take i∧h2=h') (fun i=>a.length-i) 0 ⟨Nat.zero_le _,rfl,rfl⟩ ?_ ?_
 ·simp only[WkL,aD,jH,jI,jJ,tms,go_sem,reduceIte,jA,jB,jC,jD,reduceCtorEq,jE,jF]
 rintro i h2 nx2 ⟨hi,hno,rfl⟩
 generalize hQ:dD _ _ _ _ _=Q0
 simp only[aD,go_sem,reduceIte,jA,jB,jC,jD,reduceCtorEq,jE,jF]
 repeat (first|with_reducible refine aI ?_|with_reducible refine aG ?_|with_reducible refine aL ?_|with_reducible refine aB ?_|with_reducible refine aC ?_|with_reducible refine aJ ?_|(refine aM rfl (by simp only[tms,jK,go_sem,reduceIte,jA,jB,jC,jD,reduceCtorEq,jE,jF];try omega) ?_;simp only[tms,jK,go_sem,reduceIte,jA,jB,jC,jD,reduceCtorEq,jE,jF])|(with_reducible refine aH ?_))
 refine cF _ rfl (fun hc=>?_) (fun hc=>?_)
 ·have hlt:i<a.length:=by simpa using hc
  have hlt':i<b.length:=by omega
  have hg:=bB Tm.v a i hlt
  have hg':=bB Tm.v b i hlt'
  repeat (first|with_reducible refine aI ?_|with_reducible refine aG ?_|with_reducible refine aL ?_|with_reducible refine aB ?_|with_reducible refine aC ?_|with_reducible refine aJ ?_|(refine aM rfl (by simp only[ go_sem,reduceIte,jA,jB,jC,jD,reduceCtorEq,jE,jF];try omega) ?_;simp only[ go_sem,reduceIte,jA,jB,jC,jD,reduceCtorEq,jE,jF])|(with_reducible refine aH ?_))
  refine gC rfl ?_
  refine dH rfl (by simp only[tms,hg,hg',yG,Tm.fits_v,jG,jK,go_sem,reduceIte,jA,jB,jC,jD,reduceCtorEq,jE,jF];try omega) ?_
  simp only[tms,hg,hg',yG,Tm.fits_v,jG,jK,go_sem,reduceIte,jA,jB,jC,jD,reduceCtorEq,jE,jF]
  refine eS (fK ?_)
  simp only[go_sem,reduceIte,jA,jB,jC,jD,reduceCtorEq,jE,jF]
  refine aB ?_
  rw[←hQ]
  refine cF _ rfl (fun hc=>?_) (fun hc=>?_)
  ·repeat (first|with_reducible refine aI ?_|with_reducible refine aG ?_|with_reducible refine aL ?_|with_reducible refine aB ?_|with_reducible refine aC ?_|with_reducible refine aJ ?_|(refine aM rfl (by simp only[ go_sem,reduceIte,jA,jB,jC,jD,reduceCtorEq,jE,jF];try omega) ?_;simp only[ go_sem,reduceIte,jA,jB,jC,jD,reduceCtorEq,jE,jF])|(with_reducible refine aH ?_))
   refine bQ ?_
   repeat (first|with_reducible refine kJ ?_|with_reducible refine gW ?_|with_reducible refine iK ?_|with_reducible refine iL ?_)
   refine aO h2 (Hp.le_refl _) ⟨?_,rfl⟩
   have hne:a[i]≠b[i]:=by simpa using hc
   have:a≠b:=by rintro rfl;exact hne rfl
   simp only[this,go_sem,reduceIte,jA,jB,jC,jD,reduceCtorEq,jE,jF]
  repeat (first|with_reducible refine aI ?_|with_reducible refine aG ?_|with_reducible refine aL ?_|with_reducible refine aB ?_|with_reducible refine aC ?_|with_reducible refine aJ ?_|(refine aM rfl (by simp only[ go_sem,reduceIte,jA,jB,jC,jD,reduceCtorEq,jE,jF];try omega) ?_;simp only[ go_sem,reduceIte,jA,jB,jC,jD,reduceCtorEq,jE,jF])|(with_reducible refine aH ?_))
  have he:a[i]=b[i]:=by simpa using hc
  rw[aY (by omega) (by omega)]
  refine aF (i+1) (by omega) ⟨by omega,?_,rfl⟩ ?_
  ·rw[List.take_succ_eq_append_getElem hlt,List.take_succ_eq_append_getElem hlt',hno,he]
  simp only[WkL,aD,jH,jI,jJ,tms,go_sem,reduceIte,jA,jB,jC,jD,reduceCtorEq,jE,jF]
 have hge:i=a.length:=by have:¬i<a.length:=by simpa using hc
                         omega
 rw[←hQ]
 refine gX ?_
 repeat (first|with_reducible refine gB ?_|with_reducible refine eT ?_|with_reducible refine fL ?_|with_reducible refine bG (by decide) ?_|with_reducible refine eN ?_|with_reducible refine aB ?_)
 repeat (first|with_reducible refine aI ?_|with_reducible refine aG ?_|with_reducible refine aL ?_|with_reducible refine aB ?_|with_reducible refine aC ?_|with_reducible refine aJ ?_|(refine aM rfl (by simp only[ go_sem,reduceIte,jA,jB,jC,jD,reduceCtorEq,jE,jF];try omega) ?_;simp only[ go_sem,reduceIte,jA,jB,jC,jD,reduceCtorEq,jE,jF])|(with_reducible refine aH ?_))
 refine bQ (aO h2 (Hp.le_refl _) ⟨?_,rfl⟩)
 have:a=b:=by
  rw[hge,List.take_length] at hno
  rw[hno,hab,List.take_length]
 simp only[this,go_sem,reduceIte,jA,jB,jC,jD,reduceCtorEq,jE,jF]
theorem aGk(own own':Own)(a b:List Tm)(ha:a.length≤1000000)(h:Hp):bP Tryz.prog 19 [tms own a,tms own' b] h (.bool (decide (a=b))):=by
 refine aZ (fun L=>trivial) fun h' nx hh=>aK L.corollarylaw21_Is_low fun hd=>?_
 simp only[jL,jM,jA,jB,jN,jO,jP,jQ,V.undef]
 repeat (first|with_reducible refine aI ?_|with_reducible refine aG ?_|with_reducible refine aL ?_|with_reducible refine aB ?_|with_reducible refine aC ?_|with_reducible refine aJ ?_|(refine aM rfl (by simp only[ go_sem,reduceIte,jA,jB,jC,jD,reduceCtorEq,jE,jF];try omega) ?_;simp only[ go_sem,reduceIte,jA,jB,jC,jD,reduceCtorEq,jE,jF])|(with_reducible refine aH ?_))
 refine aN (aAH own a _ ha) rfl (aR _) ?_
 obtain⟨o2,ho2⟩:=oI (.agg 2) (a.map Tm.v)
 rw[ho2]
 simp only[go_sem,reduceIte,jA,jB,jC,jD,reduceCtorEq,jE,jF]
 repeat (first|with_reducible refine aI ?_|with_reducible refine aG ?_|with_reducible refine aL ?_|with_reducible refine aB ?_|with_reducible refine aC ?_|with_reducible refine aJ ?_|(refine aM rfl (by simp only[ go_sem,reduceIte,jA,jB,jC,jD,reduceCtorEq,jE,jF];try omega) ?_;simp only[ go_sem,reduceIte,jA,jB,jC,jD,reduceCtorEq,jE,jF])|(with_reducible refine aH ?_))
 refine aN (aDz o2 own' a b (by omega) _) rfl (aR _) ?_
 simp only[go_sem,reduceIte,jA,jB,jC,jD,reduceCtorEq,jE,jF]
 repeat (first|with_reducible refine aI ?_|with_reducible refine aG ?_|with_reducible refine aL ?_|with_reducible refine aB ?_|with_reducible refine aC ?_|with_reducible refine aJ ?_|(refine aM rfl (by simp only[ go_sem,reduceIte,jA,jB,jC,jD,reduceCtorEq,jE,jF];try omega) ?_;simp only[ go_sem,reduceIte,jA,jB,jC,jD,reduceCtorEq,jE,jF])|(with_reducible refine aH ?_))
 exact bQ (aO h' (Hp.le_refl _) ⟨rfl,rfl⟩)
end Go.Proofs.YtmpmngakheoacaaGreat
/-
Contracts of slices.Concat and of package chain's Join. No conditions.
-/
namespace Go.Proofs.YtmpmngakheoacaaGreat
open Nat renaming reduceAdd→jA,reduceSub→jB,reduceLT→jC,reduceLeDiff→jD,reduceEqDiff→jE
open Int renaming reduceToNat→jF,toNat_natCast→jG,natCast_add→jH,natCast_one→jI,natCast_zero→jJ
open List renaming length_map→jK,length_cons→jL,length_nil→jM,replicate_succ→jN,replicate_zero→jO,cons_append→jP,nil_append→jQ
set_option linter.unusedSimpArgs false
set_option linter.unusedVariables false
set_option linter.unusedSectionVars false
open Go.ChangeShapes Go.WideShapes Go.ChangeAt Go.RowKit
attribute [local go_sem] Option.some.injEq Prod.mk.injEq false_and and_false Bool.true_eq_false kA iE kD gA gK if_true Bool.true_and lT dN jX gU dY aA.ok aA.next LOp.ok LOp.next bH.ok bH.out aU.ev bR jY cO bZ dI V.undef Sh.size gS gG cG aA.dok aA.dres LOp.dok LOp.dout mB jT gQ fM List.take_succ_cons List.take_zero List.take_nil List.drop_succ_cons List.drop_zero List.drop_nil List.set_cons_succ List.set_cons_zero List.getD_cons_succ List.getD_cons_zero jL jM List.map_cons List.map_nil List.all_cons List.all_nil List.mem_cons List.not_mem_nil jN jO jP jQ List.append_nil List.isEmpty_cons List.isEmpty_nil eH fQ iU Option.getD_some Option.isSome_some Option.isSome_none Nat.add_eq Nat.zero_add Nat.add_zero true_and and_true and_self true_implies implies_true false_implies forall_const forall_eq forall_eq_or_imp ne_eq not_false_eq_true not_true_eq_false Bool.not_true Bool.not_false decide_true decide_false Bool.and_true Bool.true_and Bool.and_false Bool.false_and true_or or_true false_or or_false eq_self Bool.false_eq_true nJ kE gJ aD fN eR eP eK dE eJ bJ bC dC jG Int.toNat_zero List.take_length Hp.set_app Hp.del_app iP gI aA.plain LOp.isCall aA.dplain LOp.isStop fE lM iQ mT fX V.gd_true V.gd_false gF fC fD gE bS bI aW fY fJ beq_true beq_false dV dW dX cW cX bU bV dL fI cZ eD eA bW eB eE fF fG bX eC bM cY fH cB dZ cE bL iC iA iB hZ eF dB eG dM eY eX eW eV eU cQ cP dR dQ dP cU cT cS fB fA eZ dU dT dS dJ dA bT lH Hp.turn fZ Option.isNone_some Option.isNone_none
theorem aAD:aP Tryz.prog 133=some (LB.Concat (.agg 2) 16 9 168):=by kernel_rfl
theorem aCC:aP Tryz.prog 168=some (LB.Grow (.agg 2) (.agg [.int .i64 0, .int .i64 0]) 16 9):=by kernel_rfl
theorem aBP(own o1 o2:Own)(a b:List Tm)(hl:a.length+b.length≤1000000)(h:Hp):bP Tryz.prog 133 [.sl .leaf own [tms o1 a,tms o2 b]] h (lst (.agg 2) ((a++b).map Tm.v)):=by
 refine gN (fun L=>gD (fun L=>cV (Tm.names_v L) _) L) fun h' nx hh=>?_
 have hT:fS [(o1,a.map Tm.v),(o2,b.map Tm.v)]=(a++b).map Tm.v:=by simp[fS]
 have c:=aBO aAD aCC (by omega) own [(o1,a.map Tm.v),(o2,b.map Tm.v)] (by simp) (by rw[hT];simp;omega) h' nx
 have c2:=bO.freezeA (k:= .agg 2) (G:=fun es=>es=(a++b).map Tm.v) (c.mono fun v h'' _ _ hv=>⟨_,rfl,by rw[hT] at hv;exact hv⟩)
 refine⟨c2.1,fun K cargs hlv hr hv=>((c2.mono (R':=fun v' h'' _=>v'.loose=lst (.agg 2) ((a++b).map Tm.v)∧h'.le h'') ?_).2 K cargs hlv hr hv)⟩
 rintro v h'' nx' hnx ⟨es,rfl,hf⟩
 exact⟨hf.loose,hf.le (fun m b hm=>hlv m (hr.lt m b hm))⟩
theorem aES(o1 o2:Own)(a b:List Tm)(hl:a.length+b.length≤1000000)(h:Hp):bP Tryz.prog 77 [tms o1 a,tms o2 b] h (lst (.agg 2) ((ofT (a++b)).map Tm.v)):=by
 refine aZ (fun L=>gD (fun L=>cV (Tm.names_v L) _) L) fun h' nx hh=>aK L.chain_Join_low fun hd=>?_
 simp only[jL,jM,jA,jB,jN,jO,jP,jQ,V.undef]
 repeat (first|with_reducible refine aI ?_|with_reducible refine aG ?_|with_reducible refine aL ?_|with_reducible refine aB ?_|with_reducible refine aC ?_|with_reducible refine aJ ?_|(refine aM rfl (by simp only[ go_sem,reduceIte,jA,jB,jC,jD,reduceCtorEq,jE,jF];try omega) ?_;simp only[ go_sem,reduceIte,jA,jB,jC,jD,reduceCtorEq,jE,jF])|(with_reducible refine aH ?_))
 refine aN (aBP _ o1 o2 a b hl _) rfl (aR _) ?_
 obtain⟨o3,ho3⟩:=oI (.agg 2) ((a++b).map Tm.v)
 simp only[ho3,go_sem,reduceIte,jA,jB,jC,jD,reduceCtorEq,jE,jF]
 repeat (first|with_reducible refine aI ?_|with_reducible refine aG ?_|with_reducible refine aL ?_|with_reducible refine aB ?_|with_reducible refine aC ?_|with_reducible refine aJ ?_|(refine aM rfl (by simp only[ go_sem,reduceIte,jA,jB,jC,jD,reduceCtorEq,jE,jF];try omega) ?_;simp only[ go_sem,reduceIte,jA,jB,jC,jD,reduceCtorEq,jE,jF])|(with_reducible refine aH ?_))
 refine aN (vL o3 (a++b) (by simp;omega) _) rfl (aR _) ?_
 simp only[go_sem,reduceIte,jA,jB,jC,jD,reduceCtorEq,jE,jF]
 repeat (first|with_reducible refine aI ?_|with_reducible refine aG ?_|with_reducible refine aL ?_|with_reducible refine aB ?_|with_reducible refine aC ?_|with_reducible refine aJ ?_|(refine aM rfl (by simp only[ go_sem,reduceIte,jA,jB,jC,jD,reduceCtorEq,jE,jF];try omega) ?_;simp only[ go_sem,reduceIte,jA,jB,jC,jD,reduceCtorEq,jE,jF])|(with_reducible refine aH ?_))
 refine bQ (aO h' ?_ ⟨rfl,rfl⟩)
 exact(by repeat (first|exact Hp.le_refl _|refine aQ hd ?_ (by omega) _|refine aV hd ?_ (by omega)))
end Go.Proofs.YtmpmngakheoacaaGreat
/-
The antichain of times:plain laws. No program in sight. No conditions.
-/
namespace Go.Proofs.YtmpmngakheoacaaGreat
set_option linter.unusedSimpArgs false
set_option linter.unusedVariables false
set_option linter.unusedSectionVars false
open Go.RowKit
theorem yV(l:List Tm):mQ (ofT l):=by rw[aDH];exact(rP l l.length).1
theorem uU(l:List Tm)(x:Tm):x∈ofT l↔qK l x:=by rw[aDH];exact wX l x
theorem Tm.le_antisymm{a b:Tm}(h1:a.le b=true)(h2:b.le a=true):a=b:=by
 cases a;cases b
 simp[Tm.le] at*
 omega
theorem xD(l:List Tm):∀(n:Nat) (y:Tm),(y.e+y.r).toNat≤n→y∈l→y.ok=true→∃z,qK l z∧z.le y=true
 |n,y,hn,hy,ho=>by
  by_cases h:∃y',y'∈l∧y'.ok=true∧y'.le y=true∧y'≠y
  ·obtain⟨y',h1,h2,h3,h4⟩:=h
   have hlt:(y'.e+y'.r).toNat<(y.e+y.r).toNat:=by
    have e1:¬(y'.e=y.e∧y'.r=y.r):=fun e=>h4 (by cases y;cases y';simp at e;simp[e])
    simp[Tm.le,Tm.ok] at h2 h3 ho
    omega
   cases n with
   |zero=>omega
   |succ n=>
    obtain⟨z,q1,q2⟩:=xD l n y' (by omega) h1 h2
    exact⟨z,q1,Tm.le_trans q2 h3⟩
  exact⟨y,⟨hy,ho,fun y' h1 h2 h3=>Decidable.byContradiction fun h4=>h ⟨y',h1,h2,h3,h4⟩⟩,Tm.le_refl y⟩
theorem rR{l:List Tm}{y:Tm}(hy:y∈l)(ho:y.ok=true):∃z∈ofT l,z.le y=true:=by
 obtain⟨z,h1,h2⟩:=xD l _ y (Nat.le_refl _) hy ho
 exact⟨z,(uU l z).2 h1,h2⟩
theorem pE{l:List Tm}{x:Tm}(h:x∈ofT l):x.ok=true∧x∈l:=⟨((uU l x).1 h).2.1,((uU l x).1 h).1⟩
end Go.Proofs.YtmpmngakheoacaaGreat
/-
Contracts of antichains moved by paths. No conditions.
-/
namespace Go.Proofs.YtmpmngakheoacaaGreat
open Go.Proofs.YtmpmngakheoacaaGreat renaming kU→uA,iZ→uB,fT→uC,fU→uD,eL→uE,kW→uF,dH→uG,fV→uH,fW→uI,eM→uJ,eS→uK,fK→uL,iR→uM,kX→uN,gV→uO,bG→uP,kY→uQ,kV→uR,gC→uS
open Nat renaming reduceAdd→jA,reduceSub→jB,reduceLT→jC,reduceLeDiff→jD,reduceEqDiff→jE
open Int renaming reduceToNat→jF,toNat_natCast→jG,natCast_add→jH,natCast_one→jI,natCast_zero→jJ
open List renaming length_map→jK,length_cons→jL,length_nil→jM,replicate_succ→jN,replicate_zero→jO,cons_append→jP,nil_append→jQ
set_option linter.unusedSimpArgs false
set_option linter.unusedVariables false
set_option linter.unusedSectionVars false
open Go.RowKit
attribute [local irreducible] IntKind.wrap
attribute [local go_sem] Option.some.injEq Prod.mk.injEq false_and and_false Bool.true_eq_false kA iE kD gA gK if_true Bool.true_and lT dN jX gU dY aA.ok aA.next LOp.ok LOp.next bH.ok bH.out aU.ev bR jY cO bZ dI V.undef Sh.size gS gG cG aA.dok aA.dres LOp.dok LOp.dout mB jT gQ fM List.take_succ_cons List.take_zero List.take_nil List.drop_succ_cons List.drop_zero List.drop_nil List.set_cons_succ List.set_cons_zero List.getD_cons_succ List.getD_cons_zero jL jM List.map_cons List.map_nil List.all_cons List.all_nil List.mem_cons List.not_mem_nil jN jO jP jQ List.append_nil List.isEmpty_cons List.isEmpty_nil eH fQ iU Option.getD_some Option.isSome_some Option.isSome_none Nat.add_eq Nat.zero_add Nat.add_zero true_and and_true and_self true_implies implies_true false_implies forall_const forall_eq forall_eq_or_imp ne_eq not_false_eq_true not_true_eq_false Bool.not_true Bool.not_false decide_true decide_false Bool.and_true Bool.true_and Bool.and_false Bool.false_and true_or or_true false_or or_false eq_self Bool.false_eq_true nJ kE gJ aD fN eR eP eK dE eJ bJ bC dC jG Int.toNat_zero List.take_length Hp.set_app Hp.del_app iP gI aA.plain LOp.isCall aA.dplain LOp.isStop fE lM iQ mT fX V.gd_true V.gd_false gF fC fD gE bS bI aW fY fJ beq_true beq_false dV dW dX cW cX bU bV dL fI cZ eD eA bW eB eE fF fG bX eC bM cY fH cB dZ cE bL iC iA iB hZ eF dB eG dM eY eX eW eV eU cQ cP dR dQ dP cU cT cS fB fA eZ dU dT dS dJ dA bT lH Hp.turn fZ Option.isNone_some Option.isNone_none sC iO gO aA.plain2 LOp.isApp sE nQ nR lP gZ gY
def gM(p:Pa):List Tm→List Tm
 | []=>[]
 |t::l=>(if (p.of t).2=0 then [(p.of t).1] else [])++gM p l
theorem aAA(p:Pa)(a b:List Tm):gM p (a++b)=gM p a++gM p b:=by
 induction a with
 |nil=>rfl
 |cons t a ih=>simp[gM,ih]
theorem yZ(p:Pa)(a:List Tm):(gM p a).length≤a.length:=by
 induction a with
 |nil=>simp[gM]
 |cons t a ih=>simp only[gM,List.length_append,jL];split<;>simp<;>omega
theorem xC(p:Pa)(l:List Tm)(i:Nat)(h:i<l.length):gM p (l.take (i+1))=gM p (l.take i)++(if (p.of l[i]).2=0 then [(p.of l[i]).1] else []):=by
 rw[List.take_succ_eq_append_getElem h,aAA]
 simp[gM]
theorem aDJ(own:Own)(l:List Tm)(p:Pa)(hl:l.length≤100000)(h:Hp):bP Tryz.prog 78 [tms own l,p.v] h (lst (.agg 2) ((ofT (gM p l)).map Tm.v)):=by
 refine aZ (fun L=>gD (fun L=>cV (Tm.names_v L) _) L) fun h' nx hh=>aK L.chain_Moved_low fun hd=>?_
 simp only[jL,jM,jA,jB,jN,jO,jP,jQ,V.undef]
 (repeat' (first|(with_reducible first|refine stp ?_|refine uP (by decide) ?_|refine uQ (fun _=>?_) (fun _=>?_))|((first|(with_reducible refine uA ?_;first|refine uB rfl ?_ ?_|(first|refine uC rfl ?_|refine uD rfl ?_)|refine uE rfl ?_)|(with_reducible refine uF ?_;first|refine uG rfl ?_ ?_|(first|refine uH rfl ?_|refine uI rfl ?_)|refine uJ rfl ?_|refine uK (uL ?_)|refine uK (uM ?_))|(with_reducible refine uN ?_;refine uO rfl ?_))<;>try simp only[p.fits_v,jK,go_sem,reduceIte,jA,jB,jC,jD,reduceCtorEq,jE,jF])|(with_reducible refine uR ?_;refine uS rfl ?_)|omega))
 refine bD (fun q:Nat×Own=>aD 31 0 [(3, .ptr nx (.agg 2) 0 0),(5,tms q.2 (gM p (l.take q.1))),(10,tms own l),(11, .int .i64 l.length),(12, .int .i64 q.1)])
  (fun q hp nx1=>q.1≤l.length∧nx+1≤nx1∧aT hp nx1∧Hp.same (nx+1) (h'.set nx (.arr (.agg 2) [p.v])) hp∧Acc hp (nx+1) q.2 ((gM p (l.take q.1)).map Tm.v))
  (fun q=>l.length-q.1) (0, .nil) ⟨Nat.zero_le _,Nat.le_refl _,(by(try dsimp only);repeat (first|exact aT.up hd (by omega)|refine aT.set2 ?_ (by omega) _|refine aT.del ?_|refine aT.delO ?_ _)),Hp.same.rfl',Acc.nil⟩ ?_ ?_
 ·simp only[WkL,aD,jH,jI,jJ,tms,gM,List.take_zero,List.map_nil,go_sem,reduceIte,jA,jB,jC,jD,reduceCtorEq,jE,jF]
 rintro⟨i,o⟩ hp nx1 ⟨hi,hnx,hdm,hsm,hacc⟩
 generalize hQ:dD _ _ _ _ _=Q0
 have c1:hp nx=some (.arr (.agg 2) [p.v]):=by rw[hsm nx (by omega)];simp only[go_sem,reduceIte,jA,jB,jC,jD,reduceCtorEq,jE,jF]
 have hlt0:nx<nx1:=by omega
 have hcap:(gM p (l.take i)).length≤100000:=Nat.le_trans (yZ _ _) (by simp;omega)
 simp only[aD,go_sem,reduceIte,jA,jB,jC,jD,reduceCtorEq,jE,jF]
 rcases Nat.lt_or_ge i l.length with hlt|hge
 ·have hc:decide ((i:Int)<(l.length:Int))=true:=by simpa using hlt
  have hg:=bB Tm.v l i hlt
  have hw:IntKind.i64.wrap ((i:Int)+1)=((i+1:Nat):Int):=by rw[aY]<;>omega
  (repeat' (first|(with_reducible first|refine stp ?_|refine uP (by decide) ?_|refine uQ (fun _=>?_) (fun _=>?_))|((first|(with_reducible refine uA ?_;first|refine uB rfl ?_ ?_|refine aN (aCt p l[i] _) rfl (aR _) ?_|refine vB (n0:=nx+1) rfl (by(try dsimp only);repeat' (first|exact hacc|exact Acc.new _ (by simp) (by omega)|exact oV.new (by omega)|exact aT.ntip hdm (by omega)|exact mJ|exact nU (by assumption)|refine mH (by omega) ?_|refine mI ?_|refine Acc.set ?_ ?_ _|refine oV.set ?_ ?_ _)) rfl (by simp) (by simp only[jK,c1,hlt0,hc,hg,hlt,hw,pT,Tm.fits_v,p.fits_v,jK,go_sem,reduceIte,jA,jB,jC,jD,reduceCtorEq,jE,jF];try omega) ?_|(first|refine uC rfl ?_|refine uD rfl ?_)|refine uE rfl ?_)|(with_reducible refine uF ?_;first|refine uG rfl ?_ ?_|(first|refine uH rfl ?_|refine uI rfl ?_)|refine uJ rfl ?_|refine uK (uL ?_)|refine uK (uM ?_))|(with_reducible refine uN ?_;refine uO rfl ?_))<;>try simp only[c1,hlt0,hc,hg,hlt,hw,pT,Tm.fits_v,p.fits_v,jK,go_sem,reduceIte,jA,jB,jC,jD,reduceCtorEq,jE,jF])|(with_reducible refine uR ?_;refine uS rfl ?_)|omega))
  ·rename_i hx
   have hn:gM p (l.take (i+1))=gM p (l.take i)++[(p.of l[i]).1]:=by rw[xC p l i hlt,if_pos (of_decide_eq_true hx)]
   rw[←hQ]
   refine aF (i+1, .tok (nx1+5)) (by dsimp only;omega) ⟨hlt,by omega,(by(try dsimp only);repeat (first|exact aT.up hdm (by omega)|refine aT.set2 ?_ (by omega) _|refine aT.del ?_|refine aT.delO ?_ _)),(by(try dsimp only);repeat (first|exact hsm|refine bK ?_ (by omega) _|refine bE ?_ (by omega)|refine nY ?_ (fun id e=>by have:=(hacc).ge id e;omega))),?_⟩ ?_
   ·dsimp only;rw[hn];exact Acc.new _ (by simp) (by omega)
   simp only[WkL,aD,jH,jI,jJ,tms,hn,List.map_append,go_sem,reduceIte,jA,jB,jC,jD,reduceCtorEq,jE,jF]
  rename_i hx
  have hn:gM p (l.take (i+1))=gM p (l.take i):=by rw[xC p l i hlt,if_neg (of_decide_eq_false hx),List.append_nil]
  rw[←hQ]
  refine aF (i+1,o) (by dsimp only;omega) ⟨hlt,by omega,(by(try dsimp only);repeat (first|exact aT.up hdm (by omega)|refine aT.set2 ?_ (by omega) _|refine aT.del ?_|refine aT.delO ?_ _)),(by(try dsimp only);repeat (first|exact hsm|refine bK ?_ (by omega) _|refine bE ?_ (by omega)|refine nY ?_ (fun id e=>by have:=(hacc).ge id e;omega))),?_⟩ ?_
  ·dsimp only;rw[hn];exact(by(try dsimp only);repeat' (first|exact hacc|exact Acc.new _ (by simp) (by omega)|exact oV.new (by omega)|exact aT.ntip hdm (by omega)|exact mJ|exact nU (by assumption)|refine mH (by omega) ?_|refine mI ?_|refine Acc.set ?_ ?_ _|refine oV.set ?_ ?_ _))
  simp only[WkL,aD,jH,jI,jJ,tms,hn,go_sem,reduceIte,jA,jB,jC,jD,reduceCtorEq,jE,jF]
 have hc:decide ((i:Int)<(l.length:Int))=false:=by simpa using hge
 (repeat' (first|(with_reducible first|refine stp ?_|refine uP (by decide) ?_|refine uQ (fun _=>?_) (fun _=>?_))|((first|(with_reducible refine uA ?_;first|refine uB rfl ?_ ?_|(first|refine uC rfl ?_|refine uD rfl ?_)|refine uE rfl ?_)|(with_reducible refine uF ?_;first|refine uG rfl ?_ ?_|(first|refine uH rfl ?_|refine uI rfl ?_)|refine uJ rfl ?_|refine uK (uL ?_)|refine uK (uM ?_))|(with_reducible refine uN ?_;refine uO rfl ?_))<;>try simp only[hc,go_sem,reduceIte,jA,jB,jC,jD,reduceCtorEq,jE,jF])|(with_reducible refine uR ?_;refine uS rfl ?_)|omega))
 rw[←hQ]
 (repeat' (first|(with_reducible first|refine stp ?_|refine uP (by decide) ?_|refine uQ (fun _=>?_) (fun _=>?_))|((first|(with_reducible refine uA ?_;first|refine uB rfl ?_ ?_|refine aN (vL _ _ (Nat.le_trans hcap (by omega)) _) rfl (aR _) ?_|(first|refine uC rfl ?_|refine uD rfl ?_)|refine uE rfl ?_)|(with_reducible refine uF ?_;first|refine uG rfl ?_ ?_|(first|refine uH rfl ?_|refine uI rfl ?_)|refine uJ rfl ?_|refine uK (uL ?_)|refine uK (uM ?_))|(with_reducible refine uN ?_;refine uO rfl ?_))<;>try simp only[hc,go_sem,reduceIte,jA,jB,jC,jD,reduceCtorEq,jE,jF])|(with_reducible refine uR ?_;refine uS rfl ?_)|omega))
 refine aO h' (hsm.le (fun m b e=>by have:=hd m b e;omega) (by repeat (first|exact Hp.le_refl _|refine aQ hd ?_ (by omega) _|refine aV hd ?_ (by omega)))) ⟨?_,rfl⟩
 simp only[go_sem,reduceIte,jA,jB,jC,jD,reduceCtorEq,jE,jF]
 rw[show i=l.length by omega,List.take_length]
end Go.Proofs.YtmpmngakheoacaaGreat
/-
Antichains joined,and what paths make of a time. Plain laws. No conditions.
-/
namespace Go.Proofs.YtmpmngakheoacaaGreat
set_option linter.unusedSimpArgs false
set_option linter.unusedVariables false
set_option linter.unusedSectionVars false
theorem aFz(a b:List Tm):ofT (ofT a++ofT b)=ofT (a++b):=by
 refine sG (yV _) (yV _) fun x=>?_
 rw[uU,uU]
 constructor
 ·rintro⟨h1,h2,h3⟩
  refine⟨?_,h2,fun y hy ho hle=>?_⟩
  ·rcases List.mem_append.1 h1 with h|h
   ·exact List.mem_append.2 (.inl (pE h).2)
   exact List.mem_append.2 (.inr (pE h).2)
  obtain⟨z,hz,hzo,hzy⟩:∃z,z∈ofT a++ofT b∧z.ok=true∧z.le y=true:=by
   rcases List.mem_append.1 hy with h|h
   ·obtain⟨z,hz,hl⟩:=rR h ho
    exact⟨z,List.mem_append.2 (.inl hz),(pE hz).1,hl⟩
   obtain⟨z,hz,hl⟩:=rR h ho
   exact⟨z,List.mem_append.2 (.inr hz),(pE hz).1,hl⟩
  have e:=h3 z hz hzo (Tm.le_trans hzy hle)
  rw[e] at hzy
  exact Tm.le_antisymm hle hzy
 rintro⟨h1,h2,h3⟩
 refine⟨?_,h2,fun y hy ho hle=>h3 y ?_ ho hle⟩
 ·rcases List.mem_append.1 h1 with h|h
  ·obtain⟨z,hz,hl⟩:=rR h h2
   have e:=h3 z (List.mem_append.2 (.inl (pE hz).2)) (pE hz).1 hl
   rw[e] at hz
   exact List.mem_append.2 (.inl hz)
  obtain⟨z,hz,hl⟩:=rR h h2
  have e:=h3 z (List.mem_append.2 (.inr (pE hz).2)) (pE hz).1 hl
  rw[e] at hz
  exact List.mem_append.2 (.inr hz)
 rcases List.mem_append.1 hy with h|h
 ·exact List.mem_append.2 (.inl (pE h).2)
 exact List.mem_append.2 (.inr (pE h).2)
def iD(t:Tm)(l:List Pa):List Tm:=l.flatMap fun p=>if (p.of t).2=0 then [(p.of t).1] else []
theorem xP(t:Tm)(l:List Pa)(k:Nat)(h:k<l.length):iD t (l.take (k+1))=iD t (l.take k)++(if (l[k].of t).2=0 then [(l[k].of t).1] else []):=by
 unfold iD
 rw[List.take_succ_eq_append_getElem h,List.flatMap_append]
 simp
theorem aDb(t:Tm)(p:Pa)(l:List Pa):iD t (p::l)=(if (p.of t).2=0 then [(p.of t).1] else [])++iD t l:=by simp[iD]
theorem tH(t:Tm)(l:List Pa):(iD t l).length≤l.length:=by
 induction l with
 |nil=>simp[iD]
 |cons p l ih=>
  rw[aDb,List.length_append,List.length_cons]
  split
  ·rw[List.length_singleton];omega
  rw[List.length_nil];omega
theorem aDK(p:Pa)(t:Tm):gM p [t]=if (p.of t).2=0 then [(p.of t).1] else []:=by simp[gM]
theorem aGh:ofT []=[]:=List.eq_nil_of_length_eq_zero (by have:=xX [];simpa using this)
theorem aDa(t:Tm)(l:List Pa)(k:Nat)(h:k<l.length):ofT (ofT (iD t (l.take k))++ofT (gM l[k] [t]))=ofT (iD t (l.take (k+1))):=by
 rw[aFz,xP t l k h,aDK]
end Go.Proofs.YtmpmngakheoacaaGreat
/-
Contracts:path.Could,the document's Least and Could. No conditions.
-/
namespace Go.Proofs.YtmpmngakheoacaaGreat
open Go.Proofs.YtmpmngakheoacaaGreat renaming kU→uA,iZ→uB,fT→uC,fU→uD,eL→uE,kW→uF,dH→uG,fV→uH,fW→uI,eM→uJ,eS→uK,fK→uL,iR→uM,kX→uN,gV→uO,bG→uP,kY→uQ,kV→uR,gC→uS
open Nat renaming reduceAdd→jA,reduceSub→jB,reduceLT→jC,reduceLeDiff→jD,reduceEqDiff→jE
open Int renaming reduceToNat→jF,toNat_natCast→jG,natCast_add→jH,natCast_one→jI,natCast_zero→jJ
open List renaming length_map→jK,length_cons→jL,length_nil→jM,replicate_succ→jN,replicate_zero→jO,cons_append→jP,nil_append→jQ
set_option linter.unusedSimpArgs false
set_option linter.unusedVariables false
set_option linter.unusedSectionVars false
open Go.RowKit Go.Sort
attribute [local irreducible] IntKind.wrap
attribute [local go_sem] Option.some.injEq Prod.mk.injEq false_and and_false Bool.true_eq_false kA iE kD gA gK if_true Bool.true_and lT dN jX gU dY aA.ok aA.next LOp.ok LOp.next bH.ok bH.out aU.ev bR jY cO bZ dI V.undef Sh.size gS gG cG aA.dok aA.dres LOp.dok LOp.dout mB jT gQ fM List.take_succ_cons List.take_zero List.take_nil List.drop_succ_cons List.drop_zero List.drop_nil List.set_cons_succ List.set_cons_zero List.getD_cons_succ List.getD_cons_zero jL jM List.map_cons List.map_nil List.all_cons List.all_nil List.mem_cons List.not_mem_nil jN jO jP jQ List.append_nil List.isEmpty_cons List.isEmpty_nil eH fQ iU Option.getD_some Option.isSome_some Option.isSome_none Nat.add_eq Nat.zero_add Nat.add_zero true_and and_true and_self true_implies implies_true false_implies forall_const forall_eq forall_eq_or_imp ne_eq not_false_eq_true not_true_eq_false Bool.not_true Bool.not_false decide_true decide_false Bool.and_true Bool.true_and Bool.and_false Bool.false_and true_or or_true false_or or_false eq_self Bool.false_eq_true nJ kE gJ aD fN eR eP eK dE eJ bJ bC dC jG Int.toNat_zero List.take_length Hp.set_app Hp.del_app iP gI aA.plain LOp.isCall aA.dplain LOp.isStop fE lM iQ mT fX V.gd_true V.gd_false gF fC fD gE bS bI aW fY fJ beq_true beq_false dV dW dX cW cX bU bV dL fI cZ eD eA bW eB eE fF fG bX eC bM cY fH cB dZ cE bL iC iA iB hZ eF dB eG dM eY eX eW eV eU cQ cP dR dQ dP cU cT cS fB fA eZ dU dT dS dJ dA bT lH Hp.turn fZ Option.isNone_some Option.isNone_none sC iO gO aA.plain2 LOp.isApp sE nQ nR lP gZ gY
theorem tD(P:Int)(ws:List Wy)(a b:Int):(kC P ws a b).length≤2:=rZ (aDP P ws a b)
set_option maxRecDepth 100000 in
theorem aCs(o:Own)(P:Int)(ws:List Wy)(hl:ws.length≤1000)(a b:Int)(t:Tm)(h:Hp):
 bP Tryz.prog 20 [mps o P ws, .int .i64 a,t.v, .int .i64 b] h (lst (.agg 2) ((ofT (iD t (kC P ws a b))).map Tm.v)):=by
 have hmf:(mps o P ws).fits (.agg 2)=true:=by simp[mps,V.fits,V.leafy,wys]
 have hft:=Tm.fits_v t
 refine aZ (fun L=>gD (fun L=>cV (Tm.names_v L) _) L) fun h' nx hh=>aK L.path_Could_low fun hd=>?_
 simp only[jL,jM,jA,jB,jN,jO,jP,jQ,V.undef]
 obtain⟨l,hll⟩:∃l,l=kC P ws a b:=⟨_,rfl⟩
 have hlen:l.length≤2:=by rw[hll];exact tD P ws a b
 obtain⟨ol,hol⟩:=oI (.agg 2) (l.map Pa.v)
 have cL:∀h,bP Tryz.prog 17 [mps o P ws, .int .i64 a, .int .i64 b] h (pas ol l):=fun h=>by
  have e:=wY o P ws hl a b h
  rw[←hll,hol] at e
  exact e
 rw[←hll]
 clear hll hol
 have h0:lst (.agg 2) ((ofT (iD t [])).map Tm.v)= .sl (.agg 2) .nil []:=by
  rw[show iD t []=[] from rfl,aGh];rfl
 (repeat' (first|(with_reducible first|refine stp ?_|refine uP (by decide) ?_|refine uQ (fun _=>?_) (fun _=>?_))|((first|(with_reducible refine uA ?_;first|refine uB rfl ?_ ?_|refine aN (cL _) rfl (aR _) ?_|(first|refine uC rfl ?_|refine uD rfl ?_)|refine uE rfl ?_)|(with_reducible refine uF ?_;first|refine uG rfl ?_ ?_|(first|refine uH rfl ?_|refine uI rfl ?_)|refine uJ rfl ?_|refine uK (uL ?_)|refine uK (uM ?_))|(with_reducible refine uN ?_;refine uO rfl ?_))<;>try simp only[hmf,hft,jK,go_sem,reduceIte,jA,jB,jC,jD,reduceCtorEq,jE,jF])|(with_reducible refine uR ?_;refine uS rfl ?_)|omega))
 refine bD (fun i:Nat=>aD 29 0 [(6, .ptr (nx+1) (.agg 2) 0 0),(9,lst (.agg 2) ((ofT (iD t (l.take i))).map Tm.v)),(15,pas ol l),(16, .int .i64 l.length),(17, .int .i64 i)])
  (fun i hp nx1=>i≤l.length∧nx+2≤nx1∧hp (nx+1)=some (.arr (.agg 2) [t.v])∧Hp.same nx h' hp)
  (fun i=>l.length-i) 0 ⟨Nat.zero_le _,by first|omega|(dsimp only;omega),by simp only[go_sem,reduceIte,jA,jB,jC,jD,reduceCtorEq,jE,jF],(by(try dsimp only);repeat (first|exact Hp.same.rfl'|refine bK ?_ (by omega) _|refine bE ?_ (by omega)))⟩ ?_ ?_
 ·simp only[WkL,aD,jH,jI,jJ,pas,h0,go_sem,reduceIte,jA,jB,jC,jD,reduceCtorEq,jE,jF]
 rintro i hp nx1 ⟨hi,hnx,hm,hsm⟩
 generalize hQ:dD _ _ _ _ _=Q0
 simp only[aD,go_sem,reduceIte,jA,jB,jC,jD,reduceCtorEq,jE,jF]
 have l1:nx+1<nx1:=by omega
 rcases Nat.lt_or_ge i l.length with hlt|hge
 ·have hc:decide ((i:Int)<(l.length:Int))=true:=decide_eq_true (by omega)
  have hg:(l.map Pa.v).getD i (.tup [])=l[i].v:=bB Pa.v l i hlt
  have hw:IntKind.i64.wrap ((i:Int)+1)=((i+1:Nat):Int):=by rw[aY]<;>omega
  have hfp:=Pa.fits_v l[i]
  obtain⟨o1,ho1⟩:=oI (.agg 2) ((ofT (iD t (l.take i))).map Tm.v)
  obtain⟨o2,ho2⟩:=oI (.agg 2) ((ofT (gM l[i] [t])).map Tm.v)
  have hs:=aDa t l i hlt
  have hb1:=xX (iD t (l.take i))
  have hb2:=tH t (l.take i)
  have hb3:=xX (gM l[i] [t])
  have hb4:=yZ l[i] [t]
  have hb5:(l.take i).length=i:=by simp;omega
  simp only[jL,jM] at hb4
  have cM:∀ow h,bP Tryz.prog 78 [.sl (.agg 2) ow [t.v],l[i].v] h (tms o2 (ofT (gM l[i] [t]))):=fun ow h=>by
   have e:=aDJ ow [t] l[i] (by simp) h
   rw[ho2] at e
   exact e
  have cJ:∀h,bP Tryz.prog 77 [tms o1 (ofT (iD t (l.take i))),tms o2 (ofT (gM l[i] [t]))] h (lst (.agg 2) ((ofT (iD t (l.take (i+1)))).map Tm.v)):=fun h=>by
   rw[←hs];exact aES o1 o2 _ _ (by omega) h
  rw[ho1]
  (repeat' (first|(with_reducible first|refine stp ?_|refine uP (by decide) ?_|refine uQ (fun _=>?_) (fun _=>?_))|((first|(with_reducible refine uA ?_;first|refine uB rfl ?_ ?_|refine aN (cM _ _) rfl (aR _) ?_|refine aN (cJ _) rfl (aR _) ?_|(first|refine uC rfl ?_|refine uD rfl ?_)|refine uE rfl ?_)|(with_reducible refine uF ?_;first|refine uG rfl ?_ ?_|(first|refine uH rfl ?_|refine uI rfl ?_)|refine uJ rfl ?_|refine uK (uL ?_)|refine uK (uM ?_))|(with_reducible refine uN ?_;refine uO rfl ?_))<;>try simp only[hm,hc,hg,hlt,hw,hfp,hft,l1,jK,go_sem,reduceIte,jA,jB,jC,jD,reduceCtorEq,jE,jF])|(with_reducible refine uR ?_;refine uS rfl ?_)|omega))
  rw[←hQ]
  refine aF (i+1) (by omega) ⟨hlt,by omega,?_,(by(try dsimp only);repeat (first|exact hsm|refine bK ?_ (by omega) _|refine bE ?_ (by omega)))⟩ ?_
  ·simp only[hm,l1,go_sem,reduceIte,jA,jB,jC,jD,reduceCtorEq,jE,jF]
  simp only[WkL,aD,jH,jI,jJ,pas,go_sem,reduceIte,jA,jB,jC,jD,reduceCtorEq,jE,jF]
 have hc:decide ((i:Int)<(l.length:Int))=false:=decide_eq_false (by omega)
 (repeat' (first|(with_reducible first|refine stp ?_|refine uP (by decide) ?_|refine uQ (fun _=>?_) (fun _=>?_))|((first|(with_reducible refine uA ?_;first|refine uB rfl ?_ ?_|(first|refine uC rfl ?_|refine uD rfl ?_)|refine uE rfl ?_)|(with_reducible refine uF ?_;first|refine uG rfl ?_ ?_|(first|refine uH rfl ?_|refine uI rfl ?_)|refine uJ rfl ?_|refine uK (uL ?_)|refine uK (uM ?_))|(with_reducible refine uN ?_;refine uO rfl ?_))<;>try simp only[hc,go_sem,reduceIte,jA,jB,jC,jD,reduceCtorEq,jE,jF])|(with_reducible refine uR ?_;refine uS rfl ?_)|omega))
 rw[←hQ]
 (repeat' (first|(with_reducible first|refine stp ?_|refine uP (by decide) ?_|refine uQ (fun _=>?_) (fun _=>?_))|((first|(with_reducible refine uA ?_;first|refine uB rfl ?_ ?_|(first|refine uC rfl ?_|refine uD rfl ?_)|refine uE rfl ?_)|(with_reducible refine uF ?_;first|refine uG rfl ?_ ?_|(first|refine uH rfl ?_|refine uI rfl ?_)|refine uJ rfl ?_|refine uK (uL ?_)|refine uK (uM ?_))|(with_reducible refine uN ?_;refine uO rfl ?_))<;>try simp only[ go_sem,reduceIte,jA,jB,jC,jD,reduceCtorEq,jE,jF])|(with_reducible refine uR ?_;refine uS rfl ?_)|omega))
 refine aO h' (hsm.le hd (Hp.le_refl _)) ⟨?_,rfl⟩
 simp only[List.take_of_length_le (show l.length≤i by omega),go_sem,reduceIte,jA,jB,jC,jD,reduceCtorEq,jE,jF]
set_option maxRecDepth 100000 in
theorem wW(o:Own)(P:Int)(ws:List Wy)(hl:ws.length≤1000)(a b:Int)(h:Hp):
 bP Tryz.prog 18 [mps o P ws, .int .i64 a, .int .i64 b] h (lst (.agg 2) ((kC P ws a b).map Pa.v)):=by
 have hmf:(mps o P ws).fits (.agg 2)=true:=by simp[mps,V.fits,V.leafy,wys]
 have hcell:(mps o P ws).cell 0= .int .i64 P:=rfl
 refine aZ (fun L=>gD (fun L=>cV (Pa.names_v L) _) L) fun h' nx hh=>aK L.corollaryref22_Least_low fun hd=>?_
 simp only[jL,jM,jA,jB,jN,jO,jP,jQ,V.undef]
 have out:∀(hn':kC P ws a b=[]) (sl:List V) (nx2:Nat),sl.getD 6 V.undef= .sl (.agg 2) .nil []→tY [wS.slot 6] (fun v' h'' x=>v'=lst (.agg 2) ((kC P ws a b).map Pa.v)∧h''=h') eO.ret ⟨sl,h'.set nx (.arr (.agg 2) [mps o P ws]),nx2⟩:=fun hn' sl nx2 e=>by
  refine aO h' (by repeat (first|exact Hp.le_refl _|refine aQ hd ?_ (by omega) _|refine aV hd ?_ (by omega))) ⟨by rw[hn'];exact e,rfl⟩
 cases hr:mZ P ws with
 |false=>
  (repeat' (first|(with_reducible first|refine stp ?_|refine uP (by decide) ?_|refine uQ (fun _=>?_) (fun _=>?_))|((first|(with_reducible refine uA ?_;first|refine uB rfl ?_ ?_|refine aN (kN o P ws hl _) rfl (aR _) ?_|(first|refine uC rfl ?_|refine uD rfl ?_)|refine uE rfl ?_)|(with_reducible refine uF ?_;first|refine uG rfl ?_ ?_|(first|refine uH rfl ?_|refine uI rfl ?_)|refine uJ rfl ?_|refine uK (uL ?_)|refine uK (uM ?_))|(with_reducible refine uN ?_;refine uO rfl ?_))<;>try simp only[hmf,hcell,hr,go_sem,reduceIte,jA,jB,jC,jD,reduceCtorEq,jE,jF])|(with_reducible refine uR ?_;refine uS rfl ?_)|omega))
  exact out (by simp[kC,hr]) _ _ rfl
 |true=>
  obtain⟨n,l,R⟩:=(pW P ws).1 hr
  have hP:=R.pl
  have hn:=R.le
  have hlw:l.length≤1000:=by have:=R.eq;rw[this] at hl;simpa using hl
  subst hP
  by_cases h1:a<0
  ·(repeat' (first|(with_reducible first|refine stp ?_|refine uP (by decide) ?_|refine uQ (fun _=>?_) (fun _=>?_))|((first|(with_reducible refine uA ?_;first|refine uB rfl ?_ ?_|refine aN (kN o n ws hl _) rfl (aR _) ?_|(first|refine uC rfl ?_|refine uD rfl ?_)|refine uE rfl ?_)|(with_reducible refine uF ?_;first|refine uG rfl ?_ ?_|(first|refine uH rfl ?_|refine uI rfl ?_)|refine uJ rfl ?_|refine uK (uL ?_)|refine uK (uM ?_))|(with_reducible refine uN ?_;refine uO rfl ?_))<;>try simp only[hmf,hcell,hr,h1,decide_true,decide_false,go_sem,reduceIte,jA,jB,jC,jD,reduceCtorEq,jE,jF])|(with_reducible refine uR ?_;refine uS rfl ?_)|omega))
   exact out (by unfold kC;rw[if_neg (by omega)]) _ _ rfl
  by_cases h2:b<0
  ·(repeat' (first|(with_reducible first|refine stp ?_|refine uP (by decide) ?_|refine uQ (fun _=>?_) (fun _=>?_))|((first|(with_reducible refine uA ?_;first|refine uB rfl ?_ ?_|refine aN (kN o n ws hl _) rfl (aR _) ?_|(first|refine uC rfl ?_|refine uD rfl ?_)|refine uE rfl ?_)|(with_reducible refine uF ?_;first|refine uG rfl ?_ ?_|(first|refine uH rfl ?_|refine uI rfl ?_)|refine uJ rfl ?_|refine uK (uL ?_)|refine uK (uM ?_))|(with_reducible refine uN ?_;refine uO rfl ?_))<;>try simp only[hmf,hcell,hr,h1,h2,decide_true,decide_false,go_sem,reduceIte,jA,jB,jC,jD,reduceCtorEq,jE,jF])|(with_reducible refine uR ?_;refine uS rfl ?_)|omega))
   exact out (by unfold kC;rw[if_neg (by omega)]) _ _ rfl
  by_cases h3:a≥n
  ·(repeat' (first|(with_reducible first|refine stp ?_|refine uP (by decide) ?_|refine uQ (fun _=>?_) (fun _=>?_))|((first|(with_reducible refine uA ?_;first|refine uB rfl ?_ ?_|refine aN (kN o n ws hl _) rfl (aR _) ?_|(first|refine uC rfl ?_|refine uD rfl ?_)|refine uE rfl ?_)|(with_reducible refine uF ?_;first|refine uG rfl ?_ ?_|(first|refine uH rfl ?_|refine uI rfl ?_)|refine uJ rfl ?_|refine uK (uL ?_)|refine uK (uM ?_))|(with_reducible refine uN ?_;refine uO rfl ?_))<;>try simp only[hmf,hcell,hr,h1,h2,h3,decide_true,decide_false,go_sem,reduceIte,jA,jB,jC,jD,reduceCtorEq,jE,jF])|(with_reducible refine uR ?_;refine uS rfl ?_)|omega))
   exact out (by unfold kC;rw[if_neg (by omega)]) _ _ rfl
  by_cases h4:b≥n
  ·(repeat' (first|(with_reducible first|refine stp ?_|refine uP (by decide) ?_|refine uQ (fun _=>?_) (fun _=>?_))|((first|(with_reducible refine uA ?_;first|refine uB rfl ?_ ?_|refine aN (kN o n ws hl _) rfl (aR _) ?_|(first|refine uC rfl ?_|refine uD rfl ?_)|refine uE rfl ?_)|(with_reducible refine uF ?_;first|refine uG rfl ?_ ?_|(first|refine uH rfl ?_|refine uI rfl ?_)|refine uJ rfl ?_|refine uK (uL ?_)|refine uK (uM ?_))|(with_reducible refine uN ?_;refine uO rfl ?_))<;>try simp only[hmf,hcell,hr,h1,h2,h3,h4,decide_true,decide_false,go_sem,reduceIte,jA,jB,jC,jD,reduceCtorEq,jE,jF])|(with_reducible refine uR ?_;refine uS rfl ?_)|omega))
   exact out (by unfold kC;rw[if_neg (by omega)]) _ _ rfl
  obtain⟨a',rfl⟩:∃a':Nat,a=a':=⟨a.toNat,by omega⟩
  obtain⟨b',rfl⟩:∃b':Nat,b=b':=⟨b.toNat,by omega⟩
  have hm:mps o n ws= .agg [.int .i64 n,wes o l]:=by rw[R.eq];simp only[mps,wys,wes,List.map_map];rfl
  have hf:∀h,bP Tryz.prog 74 [mps o n ws, .int .i64 a'] h (sM n l a'):=fun h=>by rw[hm];exact aBz o n l a' R.fit R.turn (by omega) hn hlw h
  have hbn:b'<(mV n l a').length:=by rw[rX];omega
  have hgd:((mV n l a').map fun m:List Pa=>lst (.agg 2) (m.map Pa.v)).getD b' (.tup [])=lst (.agg 2) ((mL l a' b').map Pa.v):=by
   rw[bB _ _ _ hbn];simp[mV]
  have hll:(lst (.agg 2) ((mL l a' b').map Pa.v)).leafy=true:=by unfold lst;split<;>rfl
  have hb':((b':Int)<(n:Int))=True:=eq_true (by omega)
  have hb0:((0:Int)≤(b':Int))=True:=eq_true (by omega)
  have hlm:kC n ws a' b'=mL l a' b':=by
   unfold kC
   rw[if_pos ⟨hr,by omega,by omega,by omega,by omega⟩,R.eq,we_wy]
   rfl
  (repeat' (first|(with_reducible first|refine stp ?_|refine uP (by decide) ?_|refine uQ (fun _=>?_) (fun _=>?_))|((first|(with_reducible refine uA ?_;first|refine uB rfl ?_ ?_|refine aN (kN o n ws hl _) rfl (aR _) ?_|refine aN (hf _) rfl (aR _) ?_|(first|refine uC rfl ?_|refine uD rfl ?_)|refine uE rfl ?_)|(with_reducible refine uF ?_;first|refine uG rfl ?_ ?_|(first|refine uH rfl ?_|refine uI rfl ?_)|refine uJ rfl ?_|refine uK (uL ?_)|refine uK (uM ?_))|(with_reducible refine uN ?_;refine uO rfl ?_))<;>try simp only[hmf,hcell,hr,h1,h2,h3,h4,sM,hgd,hll,hb',hb0,jK,rX,and_self,decide_true,decide_false,go_sem,reduceIte,jA,jB,jC,jD,reduceCtorEq,jE,jF])|(with_reducible refine uR ?_;refine uS rfl ?_)|omega))
  refine aO h' (by repeat (first|exact Hp.le_refl _|refine aQ hd ?_ (by omega) _|refine aV hd ?_ (by omega))) ⟨?_,rfl⟩
  rw[hlm]
  simp only[jG,go_sem,reduceIte,jA,jB,jC,jD,reduceCtorEq,jE,jF]
set_option maxRecDepth 100000 in
theorem aCm(o:Own)(P:Int)(ws:List Wy)(hl:ws.length≤1000)(a b:Int)(t:Tm)(h:Hp):
 bP Tryz.prog 21 [mps o P ws, .int .i64 a,t.v, .int .i64 b] h (lst (.agg 2) ((ofT (iD t (kC P ws a b))).map Tm.v)):=by
 have hmf:(mps o P ws).fits (.agg 2)=true:=by simp[mps,V.fits,V.leafy,wys]
 have hft:=Tm.fits_v t
 refine aZ (fun L=>gD (fun L=>cV (Tm.names_v L) _) L) fun h' nx hh=>aK L.corollaryref22_Could_low fun hd=>?_
 simp only[jL,jM,jA,jB,jN,jO,jP,jQ,V.undef]
 obtain⟨l,hll⟩:∃l,l=kC P ws a b:=⟨_,rfl⟩
 have hlen:l.length≤2:=by rw[hll];exact tD P ws a b
 obtain⟨ol,hol⟩:=oI (.agg 2) (l.map Pa.v)
 have cL:∀h,bP Tryz.prog 18 [mps o P ws, .int .i64 a, .int .i64 b] h (pas ol l):=fun h=>by
  have e:=wW o P ws hl a b h
  rw[←hll,hol] at e
  exact e
 rw[←hll]
 clear hll hol
 (repeat' (first|(with_reducible first|refine stp ?_|refine uP (by decide) ?_|refine uQ (fun _=>?_) (fun _=>?_))|((first|(with_reducible refine uA ?_;first|refine uB rfl ?_ ?_|refine aN (cL _) rfl (aR _) ?_|(first|refine uC rfl ?_|refine uD rfl ?_)|refine uE rfl ?_)|(with_reducible refine uF ?_;first|refine uG rfl ?_ ?_|(first|refine uH rfl ?_|refine uI rfl ?_)|refine uJ rfl ?_|refine uK (uL ?_)|refine uK (uM ?_))|(with_reducible refine uN ?_;refine uO rfl ?_))<;>try simp only[hmf,hft,jK,go_sem,reduceIte,jA,jB,jC,jD,reduceCtorEq,jE,jF])|(with_reducible refine uR ?_;refine uS rfl ?_)|omega))
 refine bD (fun q:Nat×Own=>aD 41 0 [(6, .ptr (nx+1) (.agg 2) 0 0),(9,pas ol l),(10,tms q.2 (iD t (l.take q.1))),(11, .int .i64 q.1)])
  (fun q hp nx1=>q.1≤l.length∧nx+2≤nx1∧aT hp nx1∧Hp.same (nx+2) ((h'.set nx (.arr (.agg 2) [mps o P ws])).set (nx+1) (.arr (.agg 2) [t.v])) hp∧Acc hp (nx+2) q.2 ((iD t (l.take q.1)).map Tm.v))
  (fun q=>l.length-q.1) (0, .nil) ⟨Nat.zero_le _,by first|omega|(dsimp only;omega),(by(try dsimp only);repeat (first|exact aT.up hd (by omega)|refine aT.set2 ?_ (by omega) _|refine aT.del ?_|refine aT.delO ?_ _)),Hp.same.rfl',Acc.nil⟩ ?_ ?_
 ·simp only[WkL,aD,jH,jI,jJ,tms,pas,List.take_zero,show iD t []=[] from rfl,List.map_nil,go_sem,reduceIte,jA,jB,jC,jD,reduceCtorEq,jE,jF]
 rintro⟨i,oo⟩ hp nx1 ⟨hi,hnx,hdm,hsm,hacc⟩
 generalize hQ:dD _ _ _ _ _=Q0
 dsimp only at hi hacc
 simp only[aD,go_sem,reduceIte,jA,jB,jC,jD,reduceCtorEq,jE,jF]
 have l1:nx+1<nx1:=by omega
 have hm:hp (nx+1)=some (.arr (.agg 2) [t.v]):=by rw[hsm (nx+1) (by omega)];simp only[go_sem,reduceIte,jA,jB,jC,jD,reduceCtorEq,jE,jF]
 have hcap:(iD t (l.take i)).length≤100000:=Nat.le_trans (tH _ _) (by simp;omega)
 rcases Nat.lt_or_ge i l.length with hlt|hge
 ·have hc:decide ((i:Int)<(l.length:Int))=true:=decide_eq_true (by omega)
  have hg:(l.map Pa.v).getD i (.tup [])=l[i].v:=bB Pa.v l i hlt
  have hw:IntKind.i64.wrap ((i:Int)+1)=((i+1:Nat):Int):=by rw[aY]<;>omega
  have hfp:=Pa.fits_v l[i]
  have heq:∀n:Int,(n==0)=decide (n=0):=fun n=>rfl
  have hn:=xP t l i hlt
  (repeat' (first|(with_reducible first|refine stp ?_|refine uP (by decide) ?_|refine uQ (fun _=>?_) (fun _=>?_))|((first|(with_reducible refine uA ?_;first|refine uB rfl ?_ ?_|refine vB (n0:=nx+2) rfl (by(try dsimp only);repeat' (first|exact hacc|exact Acc.new _ (by simp) (by omega)|exact oV.new (by omega)|exact aT.ntip hdm (by omega)|exact mJ|exact nU (by assumption)|refine mH (by omega) ?_|refine mI ?_|refine Acc.set ?_ ?_ _|refine oV.set ?_ ?_ _)) rfl (by simp) (by simp only[jK,hm,hc,hg,hlt,hw,hfp,hft,l1,heq,Tm.fits_v,jK,go_sem,reduceIte,jA,jB,jC,jD,reduceCtorEq,jE,jF];try omega) ?_|(first|refine uC rfl ?_|refine uD rfl ?_)|refine uE rfl ?_)|(with_reducible refine uF ?_;first|refine uG rfl ?_ ?_|refine oN (aBw l[i] t _) rfl (cA _) ?_|refine qG rfl rfl (by decide) (by(simp only[bT,go_sem,reduceIte,jA,jB,jC,jD,reduceCtorEq,jE,jF])<;>try omega) (by simp only[go_sem,reduceIte,jA,jB,jC,jD,reduceCtorEq,jE,jF]) (by simp only[go_sem,reduceIte,jA,jB,jC,jD,reduceCtorEq,jE,jF]) (by simp only[Tm.fits_v,hm,hc,hg,hlt,hw,hfp,hft,l1,heq,Tm.fits_v,jK,go_sem,reduceIte,jA,jB,jC,jD,reduceCtorEq,jE,jF]) ?_|(first|refine uH rfl ?_|refine uI rfl ?_)|refine uJ rfl ?_|refine uK (uL ?_)|refine uK (uM ?_))|(with_reducible refine uN ?_;refine uO rfl ?_))<;>try simp only[hm,hc,hg,hlt,hw,hfp,hft,l1,heq,Tm.fits_v,jK,go_sem,reduceIte,jA,jB,jC,jD,reduceCtorEq,jE,jF])|(with_reducible refine uR ?_;refine uS rfl ?_)|omega))
  ·rename_i hx
   rw[if_pos (of_decide_eq_true hx)] at hn
   rw[←hQ]
   refine aF (i+1, .tok (nx1+13)) (by dsimp only;omega) ⟨hlt,by omega,(by(try dsimp only);repeat (first|exact aT.up hdm (by omega)|refine aT.set2 ?_ (by omega) _|refine aT.del ?_|refine aT.delO ?_ _)),(by(try dsimp only);repeat (first|exact hsm|refine bK ?_ (by omega) _|refine bE ?_ (by omega)|refine nY ?_ (fun id e=>by have:=(hacc).ge id e;omega))),?_⟩ ?_
   ·dsimp only;rw[hn,List.map_append];exact Acc.new _ (by simp) (by omega)
   simp only[WkL,aD,jH,jI,jJ,tms,pas,hn,List.map_append,go_sem,reduceIte,jA,jB,jC,jD,reduceCtorEq,jE,jF]
  rename_i hx
  rw[if_neg (of_decide_eq_false hx),List.append_nil] at hn
  rw[←hQ]
  refine aF (i+1,oo) (by dsimp only;omega) ⟨hlt,by omega,(by(try dsimp only);repeat (first|exact aT.up hdm (by omega)|refine aT.set2 ?_ (by omega) _|refine aT.del ?_|refine aT.delO ?_ _)),(by(try dsimp only);repeat (first|exact hsm|refine bK ?_ (by omega) _|refine bE ?_ (by omega)|refine nY ?_ (fun id e=>by have:=(hacc).ge id e;omega))),?_⟩ ?_
  ·dsimp only;rw[hn];exact(by(try dsimp only);repeat' (first|exact hacc|exact Acc.new _ (by simp) (by omega)|exact oV.new (by omega)|exact aT.ntip hdm (by omega)|exact mJ|exact nU (by assumption)|refine mH (by omega) ?_|refine mI ?_|refine Acc.set ?_ ?_ _|refine oV.set ?_ ?_ _))
  simp only[WkL,aD,jH,jI,jJ,tms,pas,hn,go_sem,reduceIte,jA,jB,jC,jD,reduceCtorEq,jE,jF]
 have hc:decide ((i:Int)<(l.length:Int))=false:=decide_eq_false (by omega)
 (repeat' (first|(with_reducible first|refine stp ?_|refine uP (by decide) ?_|refine uQ (fun _=>?_) (fun _=>?_))|((first|(with_reducible refine uA ?_;first|refine uB rfl ?_ ?_|(first|refine uC rfl ?_|refine uD rfl ?_)|refine uE rfl ?_)|(with_reducible refine uF ?_;first|refine uG rfl ?_ ?_|(first|refine uH rfl ?_|refine uI rfl ?_)|refine uJ rfl ?_|refine uK (uL ?_)|refine uK (uM ?_))|(with_reducible refine uN ?_;refine uO rfl ?_))<;>try simp only[hc,jK,go_sem,reduceIte,jA,jB,jC,jD,reduceCtorEq,jE,jF])|(with_reducible refine uR ?_;refine uS rfl ?_)|omega))
 rw[←hQ]
 (repeat' (first|(with_reducible first|refine stp ?_|refine uP (by decide) ?_|refine uQ (fun _=>?_) (fun _=>?_))|((first|(with_reducible refine uA ?_;first|refine uB rfl ?_ ?_|refine aN (aFv _ _ (Nat.le_trans hcap (by omega)) _) rfl (aR _) ?_|(first|refine uC rfl ?_|refine uD rfl ?_)|refine uE rfl ?_)|(with_reducible refine uF ?_;first|refine uG rfl ?_ ?_|(first|refine uH rfl ?_|refine uI rfl ?_)|refine uJ rfl ?_|refine uK (uL ?_)|refine uK (uM ?_))|(with_reducible refine uN ?_;refine uO rfl ?_))<;>try simp only[hc,go_sem,reduceIte,jA,jB,jC,jD,reduceCtorEq,jE,jF])|(with_reducible refine uR ?_;refine uS rfl ?_)|omega))
 refine aO h' (hsm.le (fun m b e=>by have:=hd m b e;omega) (by repeat (first|exact Hp.le_refl _|refine aQ hd ?_ (by omega) _|refine aV hd ?_ (by omega)))) ⟨?_,rfl⟩
 simp only[←aDH,List.take_of_length_le (show l.length≤i by omega),go_sem,reduceIte,jA,jB,jC,jD,reduceCtorEq,jE,jF]
end Go.Proofs.YtmpmngakheoacaaGreat
