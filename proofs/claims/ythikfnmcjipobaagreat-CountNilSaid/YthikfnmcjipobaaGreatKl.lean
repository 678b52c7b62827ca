/-
Texts of this proof,one behind the other. No conditions.
-/
import Derived.Test.YthikfnmcjipobaaGreatKf
import Derived.Test.YthikfnmcjipobaaGreatKe
import Derived.Test.YthikfnmcjipobaaGreatKg
/-
Contracts of package chain that sort nothing,and of the law's Document. No conditions.
-/
namespace Go.Proofs.YthikfnmcjipobaaGreat
open Nat renaming reduceAdd→jA,reduceSub→jB,reduceLT→jC,reduceLeDiff→jD,reduceEqDiff→jE
open Int renaming reduceToNat→jF,toNat_natCast→jG,natCast_add→jH,natCast_one→jI,natCast_zero→jJ
open List renaming length_map→jK,length_cons→jL,length_nil→jM,replicate_succ→jN,replicate_zero→jO,cons_append→jP,nil_append→jQ
set_option linter.unusedSimpArgs false
set_option linter.unusedVariables false
set_option linter.unusedSectionVars false
open Go.RowKit
attribute [local go_sem] gF dN aA.ok aA.next LOp.ok LOp.next aZ.ok aZ.out aM.ev bK iA cB bO cK V.fits V.leafy V.cells V.cell V.undef gC eP dU Sh.size Hp.set Hp.del gA fO fS cH aA.dok aA.dres LOp.dok LOp.dout kZ gX qM bT kI Hp.turn veq gB eX List.take_succ_cons List.take_zero List.take_nil List.drop_succ_cons List.drop_zero List.drop_nil List.set_cons_succ List.set_cons_zero List.getD_cons_succ List.getD_cons_zero jL jM List.map_cons List.map_nil List.all_cons List.all_nil List.mem_cons List.not_mem_nil jN jO jP jQ List.append_nil List.isEmpty_cons List.isEmpty_nil dS fF gQ Option.getD_some Option.isSome_some Option.isSome_none Nat.add_eq Nat.zero_add Nat.add_zero true_and and_true and_self true_implies implies_true false_implies forall_const forall_eq forall_eq_or_imp ne_eq not_false_eq_true not_true_eq_false Bool.not_true Bool.not_false decide_true decide_false Bool.and_true Bool.true_and Bool.and_false Bool.false_and true_or or_true false_or or_false eq_self Bool.false_eq_true lY iH fY aG fC eV dX dQ cI dP bC aY dD jG Int.toNat_zero List.take_length
theorem yS(x t:Tm)(n:Nat)(h:Hp)(hn:h n=some (.arr (.agg 2) [t.v])):cJ Tryz.prog 85 [x.v, .ptr n (.agg 2) 0 0] h (.bool (x.le t)):=by
 refine bF (fun L=>trivial) fun h' nx hh=>aF L.chain_Reaches_1_low fun hd=>?_
 simp only[jL,jM,jA,jB,jN,jO,jP,jQ,V.undef]
 have hn':=hh _ _ hn rfl
 have hlt:=hd _ _ hn'
 have hne:(n=nx)=False:=by simp;omega
 have hne2:(n=nx+1)=False:=by simp;omega
 refine aO (aP ?_)
 refine cM 2 rfl (by simp only[L.chain_Reaches_1_r0,Tm.v,go_sem,reduceIte,jA,jB,jC,jD,reduceCtorEq,jE,jF];try omega) ?_
 simp only[L.chain_Reaches_1_r0,Tm.v,go_sem,reduceIte,jA,jB,jC,jD,reduceCtorEq,jE,jF]
 refine aB (aO (aP ?_))
 simp only[Tm.v] at hn'
 refine cM 2 rfl (by simp only[L.chain_Reaches_1_r1,Tm.v,hn',hne,go_sem,reduceIte,jA,jB,jC,jD,reduceCtorEq,jE,jF];try omega) ?_
 simp only[L.chain_Reaches_1_r1,Tm.v,hn',hne,go_sem,reduceIte,jA,jB,jC,jD,reduceCtorEq,jE,jF]
 refine aI (aCd x t _) (by simp only[Tm.v,go_sem,reduceIte,jA,jB,jC,jD,reduceCtorEq,jE,jF]) (aN _) ?_
 simp only[go_sem,reduceIte,jA,jB,jC,jD,reduceCtorEq,jE,jF]
 refine cM 1 rfl (by simp only[L.chain_Reaches_1_r1,go_sem,reduceIte,jA,jB,jC,jD,reduceCtorEq,jE,jF];try omega) ?_
 simp only[L.chain_Reaches_1_r1,go_sem,reduceIte,jA,jB,jC,jD,reduceCtorEq,jE,jF]
 refine aB (eC (aJ h' (aU hd (Hp.le_refl _) (by omega) _) ⟨?_,rfl⟩))
 simp only[go_sem,reduceIte,jA,jB,jC,jD,reduceCtorEq,jE,jF]
theorem aAA(own:Own)(l:List Tm)(t:Tm)(h:Hp)(hl:l.length≤1000000):cJ Tryz.prog 28 [tms own l,t.v] h (.bool (l.any fun x=>x.le t)):=by
 refine bF (fun L=>trivial) fun h' nx hh=>aF L.chain_Reaches_low fun hd=>?_
 simp only[jL,jM,jA,jB,jN,jO,jP,jQ,V.undef]
 refine aO (aP ?_)
 refine cM 2 rfl (by simp only[L.chain_Reaches_r0,Tm.v,go_sem,reduceIte,jA,jB,jC,jD,reduceCtorEq,jE,jF];try omega) ?_
 simp only[L.chain_Reaches_r0,Tm.v,go_sem,reduceIte,jA,jB,jC,jD,reduceCtorEq,jE,jF]
 refine aB (aO (aP ?_))
 refine cM 2 rfl (by simp only[L.chain_Reaches_r1,Tm.v,go_sem,reduceIte,jA,jB,jC,jD,reduceCtorEq,jE,jF];try omega) ?_
 simp only[L.chain_Reaches_r1,Tm.v,go_sem,reduceIte,jA,jB,jC,jD,reduceCtorEq,jE,jF]
 refine aI (tM (fun x=>x.le t) own l _ _ _ (fun x=>yS x t nx _ (by simp[Tm.v,Hp.set])) hl) (by simp only[Tm.v,go_sem,reduceIte,jA,jB,jC,jD,reduceCtorEq,jE,jF]) (aN _) ?_
 simp only[go_sem,reduceIte,jA,jB,jC,jD,reduceCtorEq,jE,jF]
 refine cM 1 rfl (by simp only[L.chain_Reaches_r1,go_sem,reduceIte,jA,jB,jC,jD,reduceCtorEq,jE,jF];try omega) ?_
 simp only[L.chain_Reaches_r1,go_sem,reduceIte,jA,jB,jC,jD,reduceCtorEq,jE,jF]
 refine aB (eC (aJ h' (aU hd (Hp.le_refl _) (by omega) _) ⟨?_,rfl⟩))
 simp only[go_sem,reduceIte,jA,jB,jC,jD,reduceCtorEq,jE,jF]
end Go.Proofs.YthikfnmcjipobaaGreat
/-
Contracts of package chain:the antichain of times;the law's fixed fact. No conditions.
-/
namespace Go.Proofs.YthikfnmcjipobaaGreat
open Nat renaming reduceAdd→jA,reduceSub→jB,reduceLT→jC,reduceLeDiff→jD,reduceEqDiff→jE
open Int renaming reduceToNat→jF,toNat_natCast→jG,natCast_add→jH,natCast_one→jI,natCast_zero→jJ
open List renaming length_map→jK,length_cons→jL,length_nil→jM,replicate_succ→jN,replicate_zero→jO,cons_append→jP,nil_append→jQ
set_option linter.unusedSimpArgs false
set_option linter.unusedVariables false
set_option linter.unusedSectionVars false
open Go.RowKit Go.Sort
attribute [local go_sem] Option.some.injEq Prod.mk.injEq false_and and_false Bool.true_eq_false mF iS iW gE iR if_true Bool.true_and lV dO gW gF dN aA.ok aA.next LOp.ok LOp.next aZ.ok aZ.out aM.ev bK iA cB bO cK V.undef Sh.size gA fS cH aA.dok aA.dres LOp.dok LOp.dout kZ gX gB eX List.take_succ_cons List.take_zero List.take_nil List.drop_succ_cons List.drop_zero List.drop_nil List.set_cons_succ List.set_cons_zero List.getD_cons_succ List.getD_cons_zero jL jM List.map_cons List.map_nil List.all_cons List.all_nil List.mem_cons List.not_mem_nil jN jO jP jQ List.append_nil List.isEmpty_cons List.isEmpty_nil dS fF gQ Option.getD_some Option.isSome_some Option.isSome_none Nat.add_eq Nat.zero_add Nat.add_zero true_and and_true and_self true_implies implies_true false_implies forall_const forall_eq forall_eq_or_imp ne_eq not_false_eq_true not_true_eq_false Bool.not_true Bool.not_false decide_true decide_false Bool.and_true Bool.true_and Bool.and_false Bool.false_and true_or or_true false_or or_false eq_self Bool.false_eq_true lY iH fY aG fC eV dX dQ cI dP bC aY dD jG Int.toNat_zero List.take_length Hp.set_app Hp.del_app gS fR aA.plain LOp.isCall aA.dplain LOp.isStop eO kK gT lP fL V.gd_true V.gd_false fK eL eM fJ bH bB aR fI eW beq_true beq_false dE dF dG cC cD bI bJ cU eT cF cN dI bL dJ dK eQ eR bM cT bG cE eS bP dH bQ bD gL gJ gK gI dL bU dW cV eH eG eF eE eD bX bW cZ cY cX cA bZ bY eK eJ eI dC dB dA cO cG bT kI Hp.turn fO Option.isNone_some Option.isNone_none
theorem Tm.fits_v(t:Tm):t.v.fits (.agg 2)=true:=by simp[Tm.v,V.fits,V.leafy]
theorem tE:aH Tryz.prog 152=some (LB.SortedFunc (.agg 2) 175 176):=by kernel_rfl
theorem xC:aH Tryz.prog 175=some (LB.Collect (.agg 2) 194):=by kernel_rfl
theorem uV:aH Tryz.prog 194=some (LB.AppendSeq (.agg 2) (.agg [.int .i64 0, .int .i64 0]) 16):=by kernel_rfl
theorem yX:aH Tryz.prog 153=some (LB.Values (.agg 2) 177):=by kernel_rfl
theorem vU:aH Tryz.prog 177=some (LB.ValuesIt (.agg 2) (.agg [.int .i64 0, .int .i64 0])):=by kernel_rfl
def rD(a b:Tm):Int:=orI [nQ a.e b.e,nQ a.r b.r]
theorem aEm(a b:Tm):cJ Tryz.prog 68 [a.v,b.v] Hp.none (.int .i64 (rD a b)):=by
 refine bF (fun L=>trivial) fun h' nx hh=>aF L.stamp_Compare_low fun hd=>?_
 simp only[jL,jM,jA,jB,jN,jO,jP,jQ,V.undef]
 repeat (first|with_reducible refine aO ?_|with_reducible refine aK ?_|with_reducible refine aQ ?_|with_reducible refine aB ?_|with_reducible refine aC ?_|with_reducible refine aP ?_|(refine aS rfl (by simp only[Tm.v,go_sem,reduceIte,jA,jB,jC,jD,reduceCtorEq,jE,jF];try omega) ?_;simp only[Tm.v,go_sem,reduceIte,jA,jB,jC,jD,reduceCtorEq,jE,jF])|(with_reducible refine aL ?_))
 refine fZ rfl ?_
 refine fH rfl (by simp only[Tm.v,go_sem,reduceIte,jA,jB,jC,jD,reduceCtorEq,jE,jF];try omega) ?_
 simp only[Tm.v,go_sem,reduceIte,jA,jB,jC,jD,reduceCtorEq,jE,jF]
 refine bS (sF sA aAH a.e b.e Hp.none) rfl (cL _) ?_
 refine fH rfl (by simp only[Tm.v,go_sem,reduceIte,jA,jB,jC,jD,reduceCtorEq,jE,jF];try omega) ?_
 simp only[Tm.v,go_sem,reduceIte,jA,jB,jC,jD,reduceCtorEq,jE,jF]
 refine bS (sF sA aAH a.r b.r Hp.none) rfl (cL _) ?_
 refine fH rfl (by simp only[Tm.v,go_sem,reduceIte,jA,jB,jC,jD,reduceCtorEq,jE,jF];try omega) ?_
 simp only[Tm.v,go_sem,reduceIte,jA,jB,jC,jD,reduceCtorEq,jE,jF]
 refine bS (zS aAb _ [nQ a.e b.e,nQ a.r b.r] (by simp) Hp.none) rfl (cL _) ?_
 refine fH rfl (by simp only[Tm.v,go_sem,reduceIte,jA,jB,jC,jD,reduceCtorEq,jE,jF];try omega) ?_
 simp only[Tm.v,go_sem,reduceIte,jA,jB,jC,jD,reduceCtorEq,jE,jF]
 refine fG (fE ?_)
 simp only[go_sem,reduceIte,jA,jB,jC,jD,reduceCtorEq,jE,jF]
 refine aB (eC (aJ h' ?_ ⟨rfl,rfl⟩))
 exact(by repeat (first|exact Hp.le_refl _|refine aU hd ?_ (by omega) _|refine aX hd ?_ (by omega)))
theorem tN:(∀a b,nQ a b<0↔a<b)∧∀a b,nQ a b=0↔a=b:=by
 constructor<;>intro a b<;>unfold nQ<;>(repeat' split)<;>omega
theorem aFS(a b:Tm):(rD a b<0)↔(a.e<b.e∨(a.e=b.e∧a.r<b.r)):=by
 have h1:=tN.1 a.e b.e
 have h2:=tN.2 a.e b.e
 have h3:=tN.1 a.r b.r
 unfold rD orI
 split
 ·rename_i h0
  have he:=h2.1 h0
  unfold orI
  split
  ·rename_i h4
   have:=(tN.2 a.r b.r).1 h4
   unfold orI
   omega
  omega
 rename_i h0
 have:a.e≠b.e:=fun h=>h0 (h2.2 h)
 omega
theorem uT(a b:Tm):ltOf rD a b=decide (a.e<b.e∨(a.e=b.e∧a.r<b.r)):=by
 unfold ltOf
 rw[Bool.eq_iff_iff]
 simp[aFS]
theorem aBh:SWO (ltOf rD):=by
 refine⟨fun x=>?_,fun x y z=>?_,fun x y z=>?_⟩<;>simp only[uT,decide_eq_true_eq,decide_eq_false_iff_not]<;>omega
theorem aEy(x y:Tm)(h1:ltOf rD x y=false)(h2:ltOf rD y x=false):x=y:=by
 simp only[uT,decide_eq_false_iff_not] at h1 h2
 cases x;cases y
 simp only[Tm.mk.injEq] at*
 omega
theorem yP(own:Own)(l:List Tm)(hl:l.length≤1000000):
 cJ Tryz.prog 152 [.fn (.func 177) [] [.ept .leaf [(tms own l).loose] 0 0], .fn (.func 68) [] []] Hp.none (lst (.agg 2) ((iF rD l).map Tm.v)):=by
 have hs:∃own',(tms own l).loose=tms own' l:=by cases own<;>exact⟨_,rfl⟩
 obtain⟨own',hs⟩:=hs
 rw[hs]
 exact vS Tm.v aGe Tm.fits_v (fun x L=>x.names_v L) (by intro w;exact Tryz.isAgg24 w) (by intro w;exact Tryz.sizeOf24 w) (by kernel_rfl) tE xC uV rfl (by omega) rfl _ _ Hp.none l
  (sO Tm.v Tm.fits_v vU rfl own' l (by omega)) (by omega) rD aBh aEy _ [] (fun x y=>by simpa using aEm x y)
def lG:List Tm→List Tm→List Tm
 |out,[]=>out
 |out,t::l=>lG (if t.ok&& !(out.any fun x=>x.le t) then out++[t] else out) l
def ofT(l:List Tm):List Tm:=lG [] (iF rD l)
theorem aEM(out l:List Tm):(lG out l).length≤out.length+l.length:=by
 induction l generalizing out with
 |nil=>simp[lG]
 |cons t l ih=>
  unfold lG
  refine Nat.le_trans (ih _) ?_
  split<;>simp<;>omega
theorem zV(out l:List Tm)(t:Tm):lG out (l++[t])=if (t.ok&& !((lG out l).any fun x=>x.le t))=true then lG out l++[t] else lG out l:=by
 induction l generalizing out with
 |nil=>simp[lG]
 |cons x l ih=>simp only[jP,lG];exact ih _
theorem aAW(own:Own)(l:List Tm)(hl:l.length≤1000000)(h:Hp):cJ Tryz.prog 126 [tms own l] h (lst (.agg 2) ((ofT l).map Tm.v)):=by
 refine mK (fun L=>lT (fun L=>fX (Tm.names_v L) _) L) fun h' nx hh=>aF L.chain_Of_low fun hd=>?_
 simp only[jL,jM,jA,jB,jN,jO,jP,jQ,V.undef]
 repeat (first|with_reducible refine aO ?_|with_reducible refine aK ?_|with_reducible refine aQ ?_|with_reducible refine aB ?_|with_reducible refine aC ?_|with_reducible refine aP ?_|(refine aS rfl (by simp only[ go_sem,reduceIte,jA,jB,jC,jD,reduceCtorEq,jE,jF];try omega) ?_;simp only[ go_sem,reduceIte,jA,jB,jC,jD,reduceCtorEq,jE,jF])|(with_reducible refine aL ?_))
 refine aI (wG yX own (l.map Tm.v) (fun L=>fX (Tm.names_v L) _) Hp.none) rfl (cL _) ?_
 simp only[go_sem,reduceIte,jA,jB,jC,jD,reduceCtorEq,jE,jF]
 refine aI (yP own l hl) rfl (cL _) ?_
 simp only[go_sem,reduceIte,jA,jB,jC,jD,reduceCtorEq,jE,jF]
 obtain⟨S,hS⟩:∃S,S=iF rD l:=⟨_,rfl⟩
 have hSl:S.length=l.length:=by rw[hS];exact(iZ rD l).length_eq
 rw[←hS]
 obtain⟨ow,how⟩:=wX (.agg 2) (S.map Tm.v)
 rw[how]
 repeat (first|with_reducible refine aO ?_|with_reducible refine aK ?_|with_reducible refine aQ ?_|with_reducible refine aB ?_|with_reducible refine aC ?_|with_reducible refine aP ?_|(refine aS rfl (by simp only[jK,go_sem,reduceIte,jA,jB,jC,jD,reduceCtorEq,jE,jF];try omega) ?_;simp only[jK,go_sem,reduceIte,jA,jB,jC,jD,reduceCtorEq,jE,jF])|(with_reducible refine aL ?_))
 obtain⟨C,hC⟩:∃C:Nat×Own→Hp→Nat→Prop,∀i o hp nx1,C (i,o) hp nx1↔(i≤S.length∧h'.le hp∧nx≤nx1∧aV hp nx1∧((o= .nil∧lG [] (S.take i)=[])∨∃id,nx≤id∧o= .tok id∧hp id=some .tip∧lG [] (S.take i)≠ [])):=⟨fun p hp nx1=>(p.1≤S.length∧h'.le hp∧nx≤nx1∧aV hp nx1∧((p.2= .nil∧lG [] (S.take p.1)=[])∨∃id,nx≤id∧p.2= .tok id∧hp id=some .tip∧lG [] (S.take p.1)≠ [])),fun _ _ _ _=>Iff.rfl⟩
 refine eY (fun p=>aG 28 0 [(3,tms p.2 (lG [] (S.take p.1))),(8, .sl (.agg 2) ow (S.map Tm.v)),(9, .int .i64 S.length),(10, .int .i64 p.1)]) C (fun p=>S.length-p.1) (0, .nil) ((hC _ _ _ _).2 ⟨Nat.zero_le _,Hp.le_refl _,Nat.le_refl _,hd, .inl ⟨rfl,by simp[lG]⟩⟩) ?_ ?_
 ·simp only[WkL,aG,jH,jI,jJ,lG,tms,go_sem,reduceIte,jA,jB,jC,jD,reduceCtorEq,jE,jF]
 rintro⟨i,o⟩ hp nx1 hCi
 obtain⟨hi,hle,hnx,hdm,hown⟩:=(hC _ _ _ _).1 hCi
 simp only[aG,go_sem,reduceIte,jA,jB,jC,jD,reduceCtorEq,jE,jF]
 repeat (first|with_reducible refine aO ?_|with_reducible refine aK ?_|with_reducible refine aQ ?_|with_reducible refine aB ?_|with_reducible refine aC ?_|with_reducible refine aP ?_|(refine aS rfl (by simp only[ go_sem,reduceIte,jA,jB,jC,jD,reduceCtorEq,jE,jF];try omega) ?_;simp only[ go_sem,reduceIte,jA,jB,jC,jD,reduceCtorEq,jE,jF])|(with_reducible refine aL ?_))
 refine fQ _ rfl (fun hc=>?_) (fun hc=>?_)
 ·have hlt:i<S.length:=by simpa using hc
  have hg:=eZ Tm.v S i hlt
  have htk:S.take (i+1)=S.take i++[S[i]]:=List.take_succ_eq_append_getElem hlt
  have hlen:(lG [] (S.take i)).length≤1000000:=Nat.le_trans (aEM _ _) (by simp;omega)
  repeat (first|with_reducible refine aO ?_|with_reducible refine aK ?_|with_reducible refine aQ ?_|with_reducible refine aB ?_|with_reducible refine aC ?_|with_reducible refine aP ?_|(refine aS rfl (by simp only[hg,jK,jG,Tm.fits_v,go_sem,reduceIte,jA,jB,jC,jD,reduceCtorEq,jE,jF];try omega) ?_;simp only[hg,jK,jG,Tm.fits_v,go_sem,reduceIte,jA,jB,jC,jD,reduceCtorEq,jE,jF])|(with_reducible refine aL ?_))
  refine aI (rU S[i] _) rfl (aN _) ?_
  simp only[ go_sem,reduceIte,jA,jB,jC,jD,reduceCtorEq,jE,jF]
  repeat (first|with_reducible refine aO ?_|with_reducible refine aK ?_|with_reducible refine aQ ?_|with_reducible refine aB ?_|with_reducible refine aC ?_|with_reducible refine aP ?_|(refine aS rfl (by simp only[ go_sem,reduceIte,jA,jB,jC,jD,reduceCtorEq,jE,jF];try omega) ?_;simp only[ go_sem,reduceIte,jA,jB,jC,jD,reduceCtorEq,jE,jF])|(with_reducible refine aL ?_))
  refine aFI (S[i].ok) rfl rfl ?sl ?h1 ?h2
  case h1=>
   intro hgd
   simp only[Tm.fits_v,go_sem,reduceIte,jA,jB,jC,jD,reduceCtorEq,jE,jF]
   repeat (first|with_reducible refine aO ?_|with_reducible refine aK ?_|with_reducible refine aQ ?_|with_reducible refine aB ?_|with_reducible refine aC ?_|with_reducible refine aP ?_|(refine aS rfl (by simp only[Tm.fits_v,go_sem,reduceIte,jA,jB,jC,jD,reduceCtorEq,jE,jF];try omega) ?_;simp only[Tm.fits_v,go_sem,reduceIte,jA,jB,jC,jD,reduceCtorEq,jE,jF])|(with_reducible refine aL ?_))
   refine aI (aAA o (lG [] (S.take i)) S[i] _ hlen) rfl (aN _) ?_
   simp only[go_sem,reduceIte,jA,jB,jC,jD,reduceCtorEq,jE,jF]
   repeat (first|with_reducible refine aO ?_|with_reducible refine aK ?_|with_reducible refine aQ ?_|with_reducible refine aB ?_|with_reducible refine aC ?_|with_reducible refine aP ?_|(refine aS rfl (by simp only[ go_sem,reduceIte,jA,jB,jC,jD,reduceCtorEq,jE,jF];try omega) ?_;simp only[ go_sem,reduceIte,jA,jB,jC,jD,reduceCtorEq,jE,jF])|(with_reducible refine aL ?_))
   exact rfl
  simp only[go_sem,reduceIte,jA,jB,jC,jD,reduceCtorEq,jE,jF]
  repeat (first|with_reducible refine aO ?_|with_reducible refine aK ?_|with_reducible refine aQ ?_|with_reducible refine aB ?_|with_reducible refine aC ?_|with_reducible refine aP ?_|(refine aS rfl (by simp only[ go_sem,reduceIte,jA,jB,jC,jD,reduceCtorEq,jE,jF];try omega) ?_;simp only[ go_sem,reduceIte,jA,jB,jC,jD,reduceCtorEq,jE,jF])|(with_reducible refine aL ?_))
  refine fQ _ rfl (fun hc=>?_) (fun hc=>?_)
  ·have hnew:lG [] (S.take (i+1))=lG [] (S.take i)++[S[i]]:=by
    rw[htk,zV,if_pos]
    revert hc
    cases S[i].ok<;>simp
   rcases hown with⟨rfl,hemp⟩|⟨id,hid,rfl,htip,hne⟩
   ·rw[hemp] at hnew⊢
    repeat (first|with_reducible refine aO ?_|with_reducible refine aK ?_|with_reducible refine aQ ?_|with_reducible refine aB ?_|with_reducible refine aC ?_|with_reducible refine aP ?_|(refine aS rfl (by simp only[tms,Tm.fits_v,dD,List.map_nil,go_sem,reduceIte,jA,jB,jC,jD,reduceCtorEq,jE,jF];try omega) ?_;simp only[tms,Tm.fits_v,dD,List.map_nil,go_sem,reduceIte,jA,jB,jC,jD,reduceCtorEq,jE,jF])|(with_reducible refine aL ?_))
    rw[cW (by omega) (by omega)]
    refine aT (i+1, .tok (nx1+3)) (by simp only;omega) ((hC _ _ _ _).2 ⟨by omega,?_,by omega,?_, .inr ⟨nx1+3,by omega,rfl,?_,by rw[hnew];simp⟩⟩) ?_
    ·repeat (first|exact hle|refine mP ?_ (aV.none hd (by omega)) _|refine uW ?_ (aV.none hd (by omega)))
    ·repeat (first|exact aV.up hdm (by omega)|refine aV.set2 ?_ (by omega) _|refine aV.del ?_)
    ·simp only[go_sem,reduceIte,jA,jB,jC,jD,reduceCtorEq,jE,jF]
    simp only[WkL,aG,jH,jI,jJ,tms,hnew,List.map_nil,go_sem,reduceIte,jA,jB,jC,jD,reduceCtorEq,jE,jF]
   have hlt2:=hdm _ _ htip
   have f1:(id=nx1)=False:=by simp;omega
   have f2:(id=nx1+2)=False:=by simp;omega
   have hb1:((lG [] (S.take i)).length+1)*16≤140737488355328:=by omega
   repeat (first|with_reducible refine aO ?_|with_reducible refine aK ?_|with_reducible refine aQ ?_|with_reducible refine aB ?_|with_reducible refine aC ?_|with_reducible refine aP ?_|(refine aS rfl (by simp only[tms,Tm.fits_v,dD,jK,hb1,f1,f2,htip,go_sem,reduceIte,jA,jB,jC,jD,reduceCtorEq,jE,jF];try omega) ?_;simp only[tms,Tm.fits_v,dD,jK,hb1,f1,f2,htip,go_sem,reduceIte,jA,jB,jC,jD,reduceCtorEq,jE,jF])|(with_reducible refine aL ?_))
   rw[cW (by omega) (by omega)]
   refine aT (i+1, .tok (nx1+3)) (by simp only;omega) ((hC _ _ _ _).2 ⟨by omega,?_,by omega,?_, .inr ⟨nx1+3,by omega,rfl,?_,by rw[hnew];simp⟩⟩) ?_
   ·repeat (first|exact hle|refine mP ?_ (aV.none hd (by omega)) _|refine uW ?_ (aV.none hd (by omega)))
   ·repeat (first|exact aV.up hdm (by omega)|refine aV.set2 ?_ (by omega) _|refine aV.del ?_)
   ·simp only[go_sem,reduceIte,jA,jB,jC,jD,reduceCtorEq,jE,jF]
   simp only[WkL,aG,jH,jI,jJ,tms,hnew,List.map_append,List.map_cons,List.map_nil,go_sem,reduceIte,jA,jB,jC,jD,reduceCtorEq,jE,jF]
  have hnew:lG [] (S.take (i+1))=lG [] (S.take i):=by
   rw[htk,zV,if_neg]
   revert hc
   cases S[i].ok<;>simp
  repeat (first|with_reducible refine aO ?_|with_reducible refine aK ?_|with_reducible refine aQ ?_|with_reducible refine aB ?_|with_reducible refine aC ?_|with_reducible refine aP ?_|(refine aS rfl (by simp only[ go_sem,reduceIte,jA,jB,jC,jD,reduceCtorEq,jE,jF];try omega) ?_;simp only[ go_sem,reduceIte,jA,jB,jC,jD,reduceCtorEq,jE,jF])|(with_reducible refine aL ?_))
  rw[cW (by omega) (by omega)]
  refine aT (i+1,o) (by simp only;omega) ((hC _ _ _ _).2 ⟨by omega,?_,by omega,?_,?_⟩) ?_
  ·repeat (first|exact hle|refine mP ?_ (aV.none hd (by omega)) _|refine uW ?_ (aV.none hd (by omega)))
  ·repeat (first|exact aV.up hdm (by omega)|refine aV.set2 ?_ (by omega) _|refine aV.del ?_)
  ·rw[hnew]
   rcases hown with h1|⟨id,hid,h1,htip,hne⟩
   ·exact .inl h1
   have hlt2:=hdm _ _ htip
   have f1:(id=nx1)=False:=by simp;omega
   exact .inr ⟨id,hid,h1,by simp only[htip,f1,go_sem,reduceIte,jA,jB,jC,jD,reduceCtorEq,jE,jF],hne⟩
  simp only[WkL,aG,jH,jI,jJ,tms,hnew,go_sem,reduceIte,jA,jB,jC,jD,reduceCtorEq,jE,jF]
 have hge:i=S.length:=by have:¬i<S.length:=by simpa using hc
                         omega
 refine nJ ?_
 repeat (first|with_reducible refine mH ?_|with_reducible refine lR ?_|with_reducible refine lS ?_|with_reducible refine bR (by decide) ?_|with_reducible refine kR ?_|with_reducible refine aB ?_)
 repeat (first|with_reducible refine aO ?_|with_reducible refine aK ?_|with_reducible refine aQ ?_|with_reducible refine aB ?_|with_reducible refine aC ?_|with_reducible refine aP ?_|(refine aS rfl (by simp only[ go_sem,reduceIte,jA,jB,jC,jD,reduceCtorEq,jE,jF];try omega) ?_;simp only[ go_sem,reduceIte,jA,jB,jC,jD,reduceCtorEq,jE,jF])|(with_reducible refine aL ?_))
 refine eC (aJ hp (Hp.le_refl _) ⟨?_,hle⟩)
 simp only[go_sem,reduceIte,jA,jB,jC,jD,reduceCtorEq,jE,jF]
 rw[hge,List.take_length] at hown⊢
 rw[hS,show lG [] (iF rD l)=ofT l from rfl] at hown⊢
 rcases hown with⟨rfl,h1⟩|⟨id,hid,rfl,htip,hne⟩
 ·rw[h1];rfl
 generalize ofT l=r at hne⊢
 cases r with
 |nil=>exact absurd rfl hne
 |cons x r=>rfl
end Go.Proofs.YthikfnmcjipobaaGreat
/-
Plain law:the two ways to make an antichain of times give one list. No program in sight. No conditions.
-/
namespace Go.Proofs.YthikfnmcjipobaaGreat
set_option linter.unusedSimpArgs false
set_option linter.unusedVariables false
set_option linter.unusedSectionVars false
open Go.RowKit Go.Sort
theorem Tm.less_irrefl(a:Tm):a.less a=false:=by simp[Tm.less]
theorem Tm.less_tri(a b:Tm)(h1:a.less b=false)(h2:b.less a=false):a=b:=by
 cases a;cases b
 simp[Tm.less] at*
 omega
theorem Tm.less_trans{a b c:Tm}(h1:a.less b=true)(h2:b.less c=true):a.less c=true:=by
 simp[Tm.less] at*
 omega
theorem Tm.le_lex{a b:Tm}(h:a.le b=true):b.less a=false:=by
 simp[Tm.less,Tm.le] at*
 omega
theorem Tm.le_refl(a:Tm):a.le a=true:=by simp[Tm.le]
theorem Tm.le_trans{a b c:Tm}(h1:a.le b=true)(h2:b.le c=true):a.le c=true:=by
 simp[Tm.le] at*
 omega
def qP(l:List Tm)(x:Tm):Prop:=x∈l∧x.ok=true∧∀y∈l,y.ok=true→y.le x=true→y=x
def mD(l:List Tm):Prop:=l.Pairwise fun a b=>a.less b=true
theorem rE{a b:List Tm}(ha:mD a)(hb:mD b)(h:∀x,x∈a↔x∈b):a=b:=by
 have nd:∀{l:List Tm},mD l→l.Nodup:=fun hl=>hl.imp (fun{x y} hxy e=>by subst e;rw[Tm.less_irrefl] at hxy;cases hxy)
 refine List.Perm.eq_of_pairwise (le:=fun(u v:Tm)=>u.less v=true) (fun x y _ _ h1 h2=>?_) ha hb ((List.perm_ext_iff_of_nodup (nd ha) (nd hb)).2 h)
 have:=Tm.less_trans h1 h2
 rw[Tm.less_irrefl] at this;cases this
theorem aBs:∀(rest pre out:List Tm),(∀x∈pre,∀y∈rest,y.less x=false)→rest.Pairwise (fun x y=>y.less x=false)→mD out→(∀x,x∈out↔qP pre x)→(∀y∈pre,y.ok=true→∃z∈out,z.le y=true)→
 mD (lG out rest)∧∀x,x∈lG out rest↔qP (pre++rest) x
 | [],pre,out,_,_,hs,hm,_=>by simpa [lG] using⟨hs,hm⟩
 |t::rest,pre,out,h1,h2,hs,hm,hc=>by
  have h2':=List.pairwise_cons.1 h2
  have low:∀x∈pre,t.le x=true→t=x:=fun x hx hle=>(Tm.less_tri _ _ (h1 x hx t (by simp)) (Tm.le_lex hle))
  have key:∀out',mD out'→(∀x,x∈out'↔qP (pre++[t]) x)→(∀y∈pre++[t],y.ok=true→∃z∈out',z.le y=true)→mD (lG out' rest)∧∀x,x∈lG out' rest↔qP (pre++t::rest) x:=by
   intro out' q1 q2 q3
   have:=aBs rest (pre++[t]) out' (fun x hx y hy=>by
    rcases List.mem_append.1 hx with hx|hx
    ·exact h1 x hx y (by simp[hy])
    have:x=t:=by simpa using hx
    subst this
    exact h2'.1 y hy) h2'.2 q1 q2 q3
   simpa using this
  unfold lG
  split
  ·rename_i hk
   simp only[Bool.and_eq_true,Bool.not_eq_true',List.any_eq_false] at hk
   obtain⟨hok,hno⟩:=hk
   have hno':∀x∈out,x.le t=false:=fun x hx=>by simpa using hno x hx
   refine key _ ?_ ?_ ?_
   ·refine List.pairwise_append.2 ⟨hs,by simp,fun x hx y hy=>?_⟩
    have:y=t:=by simpa using hy
    subst this
    have hxp:=((hm x).1 hx).1
    cases hl:x.less y with
    |true=>rfl
    |false=>
     have:=Tm.less_tri _ _ hl (h1 x hxp y (by simp))
     subst this
     have:=hno' x hx
     rw[Tm.le_refl] at this;cases this
   ·intro x
    simp only[List.mem_append,List.mem_singleton]
    constructor
    ·rintro(hx|rfl)
     ·obtain⟨a,b,c⟩:=(hm x).1 hx
      refine⟨by simp[a],b,fun y hy hyo hyl=>?_⟩
      rcases List.mem_append.1 hy with hy|hy
      ·exact c y hy hyo hyl
      have:y=t:=by simpa using hy
      subst this
      exact low x a hyl
     refine⟨by simp,hok,fun y hy hyo hyl=>?_⟩
     rcases List.mem_append.1 hy with hy|hy
     ·obtain⟨z,hz,hzl⟩:=hc y hy hyo
      have:=hno' z hz
      rw[Tm.le_trans hzl hyl] at this;cases this
     simpa using hy
    rintro⟨a,b,c⟩
    rcases List.mem_append.1 a with hx|hx
    ·exact .inl ((hm x).2 ⟨hx,b,fun y hy=>c y (by simp[hy])⟩)
    exact .inr (by simpa using hx)
   intro y hy hyo
   rcases List.mem_append.1 hy with hy|hy
   ·obtain⟨z,hz,hzl⟩:=hc y hy hyo
    exact⟨z,by simp[hz],hzl⟩
   have:y=t:=by simpa using hy
   subst this
   exact⟨y,by simp,Tm.le_refl _⟩
  rename_i hk
  have hk':t.ok=true→∃z∈out,z.le t=true:=fun hok=>by
   simp only[hok,Bool.true_and,Bool.not_eq_true',Bool.not_eq_false] at hk
   obtain⟨z,hz,hzl⟩:=List.any_eq_true.1 hk
   exact⟨z,hz,hzl⟩
  refine key _ hs ?_ ?_
  ·intro x
   constructor
   ·intro hx
    obtain⟨a,b,c⟩:=(hm x).1 hx
    refine⟨by simp[a],b,fun y hy hyo hyl=>?_⟩
    rcases List.mem_append.1 hy with hy|hy
    ·exact c y hy hyo hyl
    have:y=t:=by simpa using hy
    subst this
    exact low x a hyl
   rintro⟨a,b,c⟩
   rcases List.mem_append.1 a with hx|hx
   ·exact(hm x).2 ⟨hx,b,fun y hy=>c y (by simp[hy])⟩
   have:x=t:=by simpa using hx
   subst this
   obtain⟨z,hz,hzl⟩:=hk' b
   have hz':=(hm z).1 hz
   have:=c z (by simp[hz'.1]) hz'.2.1 hzl
   rwa [this] at hz
  intro y hy hyo
  rcases List.mem_append.1 hy with hy|hy
  ·exact hc y hy hyo
  have:y=t:=by simpa using hy
  subst this
  exact hk' hyo
def xJ(l:List Tm)(i:Nat)(t:Tm):Bool:=t.ok&& !((List.range l.length).any fun k=>match l[k]? with|some y=>y.ok&&y.le t&&(decide (y≠t)||decide (k<i))|none=>false)
def aCP(out:List Tm)(t:Tm):List Tm:=out.takeWhile (·.less t)++t::out.dropWhile (·.less t)
def pZ(l:List Tm):Nat→List Tm
 |0=>[]
 |i+1=>match l[i]? with
  |some t=>if xJ l i t=true then aCP (pZ l i) t else pZ l i
  |none=>pZ l i
theorem aBH(out:List Tm)(t x:Tm):x∈aCP out t↔x=t∨x∈out:=by
 unfold aCP
 conv=>rhs;rw[←List.takeWhile_append_dropWhile (p:=fun x:Tm=>x.less t) (l:=out)]
 simp only[List.mem_append,List.mem_cons]
 constructor
 ·rintro(h|h|h)<;>simp[h]
 rintro(h|h|h)<;>simp[h]
theorem aBG{out:List Tm}{t:Tm}(hs:mD out)(hn:t∉out):mD (aCP out t):=by
 induction out with
 |nil=>simp[aCP,mD]
 |cons a out ih=>
  have hs':=List.pairwise_cons.1 hs
  have hn':t≠a∧t∉out:=by simpa using hn
  unfold aCP
  cases ha:a.less t with
  |true=>
   have:=ih hs'.2 hn'.2
   simp only[List.takeWhile_cons,List.dropWhile_cons,ha,if_true,List.cons_append]
   refine List.pairwise_cons.2 ⟨fun y hy=>?_,this⟩
   have hy':y∈aCP out t:=hy
   rcases(aBH out t y).1 hy' with rfl|hy
   ·exact ha
   exact hs'.1 y hy
  |false=>
   simp only[List.takeWhile_cons,List.dropWhile_cons,ha,Bool.false_eq_true,if_false,List.nil_append]
   have hta:t.less a=true:=by
    cases h:t.less a with
    |true=>rfl
    |false=>exact absurd (Tm.less_tri _ _ h ha) hn'.1
   refine List.pairwise_cons.2 ⟨fun y hy=>?_,hs⟩
   rcases List.mem_cons.1 hy with rfl|hy
   ·exact hta
   exact Tm.less_trans hta (hs'.1 y hy)
theorem qX(l:List Tm)(i:Nat)(t:Tm):xJ l i t=true↔t.ok=true∧∀k y,l[k]?=some y→y.ok=true→y.le t=true→y=t∧i≤k:=by
 unfold xJ
 simp only[Bool.and_eq_true,Bool.not_eq_true',List.any_eq_false,List.mem_range]
 constructor
 ·rintro⟨h1,h2⟩
  refine⟨h1,fun k y hk ho hl=>?_⟩
  have hlt:=(List.getElem?_eq_some_iff.1 hk).1
  have:=h2 k hlt
  rw[hk] at this
  simp[ho,hl] at this
  exact⟨this.1,this.2⟩
 rintro⟨h1,h2⟩
 refine⟨h1,fun k hk=>?_⟩
 rw[List.getElem?_eq_getElem hk]
 simp only
 intro hc
 simp only[Bool.and_eq_true,Bool.or_eq_true,decide_eq_true_eq] at hc
 obtain⟨⟨a,b⟩,c⟩:=hc
 obtain⟨q1,q2⟩:=h2 k l[k] (List.getElem?_eq_getElem hk) a b
 rcases c with c|c
 ·exact c q1
 omega
theorem qS(l:List Tm):∀i,mD (pZ l i)∧∀x,x∈pZ l i↔∃j,j<i∧l[j]?=some x∧xJ l j x=true
 |0=>⟨by simp[pZ,mD],fun x=>by simp[pZ]⟩
 |i+1=>by
  obtain⟨h1,h2⟩:=qS l i
  have step:∀x,(∃j,j<i+1∧l[j]?=some x∧xJ l j x=true)↔((∃j,j<i∧l[j]?=some x∧xJ l j x=true)∨(l[i]?=some x∧xJ l i x=true)):=by
   intro x
   constructor
   ·rintro⟨j,hj,a,b⟩
    by_cases e:j=i
    ·subst e;exact .inr ⟨a,b⟩
    exact .inl ⟨j,by omega,a,b⟩
   rintro(⟨j,hj,a,b⟩|⟨a,b⟩)
   ·exact⟨j,by omega,a,b⟩
   exact⟨i,by omega,a,b⟩
  unfold pZ
  split
  ·rename_i t ht
   split
   ·rename_i hk
    have hn:t∉pZ l i:=fun hm=>by
     obtain⟨j,hj,a,b⟩:=(h2 t).1 hm
     have:=((qX l i t).1 hk).2 j t a ((qX l i t).1 hk).1 (Tm.le_refl _)
     omega
    refine⟨aBG h1 hn,fun x=>?_⟩
    rw[aBH,step,h2,ht]
    constructor
    ·rintro(rfl|h)
     ·exact .inr ⟨rfl,hk⟩
     exact .inl h
    rintro(h|⟨h,_⟩)
    ·exact .inr h
    injection h with h;exact .inl h.symm
   rename_i hk
   refine⟨h1,fun x=>?_⟩
   rw[step,h2,ht]
   constructor
   ·exact .inl
   rintro(h|⟨h,hk2⟩)
   ·exact h
   injection h with h;subst h;exact absurd hk2 hk
  rename_i ht
  refine⟨h1,fun x=>?_⟩
  rw[step,h2,ht]
  simp
theorem vI(l:List Tm)(x:Tm):x∈pZ l l.length↔qP l x:=by
 rw[(qS l l.length).2]
 constructor
 ·rintro⟨j,hj,a,b⟩
  obtain⟨q1,q2⟩:=(qX l j x).1 b
  refine⟨List.mem_of_getElem? a,q1,fun y hy hyo hyl=>?_⟩
  obtain⟨k,hk,rfl⟩:=List.getElem_of_mem hy
  exact(q2 k _ (List.getElem?_eq_getElem hk) hyo hyl).1
 rintro⟨a,b,c⟩
 --the first place where it stands
 have hex:∃j:Nat,l[j]?=some x:=by
  obtain⟨k,hk,rfl⟩:=List.getElem_of_mem a
  exact⟨k,List.getElem?_eq_getElem hk⟩
 have first:∃j:Nat,l[j]?=some x∧∀k:Nat,k<j→l[k]?≠some x:=by
  obtain⟨j,hj⟩:=hex
  induction j using Nat.strongRecOn with
  |_ j ih=>
   by_cases h:∃k,k<j∧l[k]?=some x
   ·obtain⟨k,hk,hkx⟩:=h;exact ih k hk hkx
   exact⟨j,hj,fun k hk hkx=>h ⟨k,hk,hkx⟩⟩
 obtain⟨j,hj,hfirst⟩:=first
 refine⟨j,(List.getElem?_eq_some_iff.1 hj).1,hj,(qX l j x).2 ⟨b,fun k y hk hyo hyl=>?_⟩⟩
 have hy:=c y (List.mem_of_getElem? hk) hyo hyl
 refine⟨hy,?_⟩
 rcases Nat.lt_or_ge k j with h|h
 ·exact absurd (hy▸hk) (hfirst k h)
 exact h
theorem aCC(l:List Tm):ofT l=pZ l l.length:=by
 have hs:=mJ aBh l
 have hp:=iZ rD l
 have hl:∀a b:Tm,ltOf rD a b=a.less b:=fun a b=>by
  rw[uT,Bool.eq_iff_iff]
  simp[Tm.less]
 have inv:=aBs (iF rD l) [] [] (fun x hx=>by cases hx) (hs.imp fun{x y} h=>by rw[←hl];exact h) (by simp[mD]) (fun x=>by simp[qP]) (fun y hy=>by cases hy)
 refine rE inv.1 (qS l l.length).1 fun x=>?_
 rw[vI]
 refine(inv.2 x).trans ?_
 unfold qP
 simp only[List.nil_append,hp.mem_iff]
end Go.Proofs.YthikfnmcjipobaaGreat
/-
Contracts:the document's antichain of times. No conditions.
-/
namespace Go.Proofs.YthikfnmcjipobaaGreat
open Nat renaming reduceAdd→jA,reduceSub→jB,reduceLT→jC,reduceLeDiff→jD,reduceEqDiff→jE
open Int renaming reduceToNat→jF,toNat_natCast→jG,natCast_add→jH,natCast_one→jI,natCast_zero→jJ
open List renaming length_map→jK,length_cons→jL,length_nil→jM,replicate_succ→jN,replicate_zero→jO,cons_append→jP,nil_append→jQ
set_option linter.unusedSimpArgs false
set_option linter.unusedVariables false
set_option linter.unusedSectionVars false
open Go.RowKit
attribute [local go_sem] Option.some.injEq Prod.mk.injEq false_and and_false Bool.true_eq_false mF iS iW gE iR if_true Bool.true_and lV dO gW gF dN aA.ok aA.next LOp.ok LOp.next aZ.ok aZ.out aM.ev bK iA cB bO cK V.undef Sh.size gA fS cH aA.dok aA.dres LOp.dok LOp.dout kZ gX gB eX List.take_succ_cons List.take_zero List.take_nil List.drop_succ_cons List.drop_zero List.drop_nil List.set_cons_succ List.set_cons_zero List.getD_cons_succ List.getD_cons_zero jL jM List.map_cons List.map_nil List.all_cons List.all_nil List.mem_cons List.not_mem_nil jN jO jP jQ List.append_nil List.isEmpty_cons List.isEmpty_nil dS fF gQ Option.getD_some Option.isSome_some Option.isSome_none Nat.add_eq Nat.zero_add Nat.add_zero true_and and_true and_self true_implies implies_true false_implies forall_const forall_eq forall_eq_or_imp ne_eq not_false_eq_true not_true_eq_false Bool.not_true Bool.not_false decide_true decide_false Bool.and_true Bool.true_and Bool.and_false Bool.false_and true_or or_true false_or or_false eq_self Bool.false_eq_true lY iH fY aG fC eV dX dQ cI dP bC aY dD jG Int.toNat_zero List.take_length Hp.set_app Hp.del_app gS fR aA.plain LOp.isCall aA.dplain LOp.isStop eO kK gT lP fL V.gd_true V.gd_false fK eL eM fJ bH bB aR fI eW beq_true beq_false dE dF dG cC cD bI bJ cU eT cF cN dI bL dJ dK eQ eR bM cT bG cE eS bP dH bQ bD gL gJ gK gI dL bU dW cV eH eG eF eE eD bX bW cZ cY cX cA bZ bY eK eJ eI dC dB dA cO cG bT kI Hp.turn fO Option.isNone_some Option.isNone_none
end Go.Proofs.YthikfnmcjipobaaGreat
/-
The antichain of times:plain laws. No program in sight. No conditions.
-/
namespace Go.Proofs.YthikfnmcjipobaaGreat
set_option linter.unusedSimpArgs false
set_option linter.unusedVariables false
set_option linter.unusedSectionVars false
open Go.RowKit
theorem wP(l:List Tm):mD (ofT l):=by rw[aCC];exact(qS l l.length).1
theorem aDk(l:List Tm)(x:Tm):x∈ofT l↔qP l x:=by rw[aCC];exact vI l x
theorem aDJ{a b:List Tm}(h:∀x:Tm,x.ok=true→(x∈a↔x∈b)):ofT a=ofT b:=by
 refine rE (wP a) (wP b) fun x=>?_
 rw[aDk,aDk]
 constructor
 ·rintro⟨h1,h2,h3⟩;exact⟨(h x h2).1 h1,h2,fun y hy ho=>h3 y ((h y ho).2 hy) ho⟩
 rintro⟨h1,h2,h3⟩;exact⟨(h x h2).2 h1,h2,fun y hy ho=>h3 y ((h y ho).1 hy) ho⟩
end Go.Proofs.YthikfnmcjipobaaGreat
/-
Contracts of antichains moved by paths. No conditions.
-/
namespace Go.Proofs.YthikfnmcjipobaaGreat
set_option linter.unusedSimpArgs false
set_option linter.unusedVariables false
set_option linter.unusedSectionVars false
open Go.RowKit
attribute [local irreducible] IntKind.wrap
attribute [local go_sem] Option.some.injEq Prod.mk.injEq false_and and_false Bool.true_eq_false mF iS iW gE iR if_true Bool.true_and lV dO gW gF dN aA.ok aA.next LOp.ok LOp.next aZ.ok aZ.out aM.ev bK iA cB bO cK V.undef Sh.size gA fS cH aA.dok aA.dres LOp.dok LOp.dout kZ gX gB eX List.take_succ_cons List.take_zero List.take_nil List.drop_succ_cons List.drop_zero List.drop_nil List.set_cons_succ List.set_cons_zero List.getD_cons_succ List.getD_cons_zero List.length_cons List.length_nil List.map_cons List.map_nil List.all_cons List.all_nil List.mem_cons List.not_mem_nil List.replicate_succ List.replicate_zero List.cons_append List.nil_append List.append_nil List.isEmpty_cons List.isEmpty_nil dS fF gQ Option.getD_some Option.isSome_some Option.isSome_none Nat.add_eq Nat.zero_add Nat.add_zero true_and and_true and_self true_implies implies_true false_implies forall_const forall_eq forall_eq_or_imp ne_eq not_false_eq_true not_true_eq_false Bool.not_true Bool.not_false decide_true decide_false Bool.and_true Bool.true_and Bool.and_false Bool.false_and true_or or_true false_or or_false eq_self Bool.false_eq_true lY iH fY aG fC eV dX dQ cI dP bC aY dD Int.toNat_natCast Int.toNat_zero List.take_length Hp.set_app Hp.del_app gS fR aA.plain LOp.isCall aA.dplain LOp.isStop eO kK gT lP fL V.gd_true V.gd_false fK eL eM fJ bH bB aR fI eW beq_true beq_false dE dF dG cC cD bI bJ cU eT cF cN dI bL dJ dK eQ eR bM cT bG cE eS bP dH bQ bD gL gJ gK gI dL bU dW cV eH eG eF eE eD bX bW cZ cY cX cA bZ bY eK eJ eI dC dB dA cO cG bT kI Hp.turn fO Option.isNone_some Option.isNone_none oE gD fN aA.plain2 LOp.isApp oH lI lJ iL fU fT
end Go.Proofs.YthikfnmcjipobaaGreat
