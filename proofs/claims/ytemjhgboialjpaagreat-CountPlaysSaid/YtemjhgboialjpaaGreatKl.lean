/-
Texts of this proof,one behind the other. No conditions.
-/
import Derived.Test.YtemjhgboialjpaaGreatKf
import Derived.Test.YtemjhgboialjpaaGreatKd
import Derived.Test.YtemjhgboialjpaaGreatKe
import Derived.Test.YtemjhgboialjpaaGreatKg
import Derived.Test.YtemjhgboialjpaaGreatKi
open Nat renaming reduceAdd→jA,reduceSub→jB,reduceLT→jC,reduceLeDiff→jD,reduceEqDiff→jE
open Int renaming reduceToNat→jF,toNat_natCast→jG,natCast_add→jH,natCast_one→jI,natCast_zero→jJ
open List renaming length_map→jK,length_cons→jL,length_nil→jM,replicate_succ→jN,replicate_zero→jO,cons_append→jP,nil_append→jQ
set_option linter.unusedSimpArgs false
set_option linter.unusedVariables false
set_option linter.unusedSectionVars false
namespace Go.Proofs.YtemjhgboialjpaaGreat
open Go.RowKit
attribute [local go_sem] pG iO aA.ok aA.next LOp.ok LOp.next bK.ok bK.out aN.ev bL aCN lJ kF rB V.fits V.leafy V.cells V.cell V.undef dI bZ bO Sh.size Hp.set Hp.del oD iF qO eX aA.dok aA.dres LOp.dok LOp.dout aDw aAX iV cJ yI Hp.turn veq gW hZ List.take_succ_cons List.take_zero List.take_nil List.drop_succ_cons List.drop_zero List.drop_nil List.set_cons_succ List.set_cons_zero List.getD_cons_succ List.getD_cons_zero jL jM List.map_cons List.map_nil List.all_cons List.all_nil List.mem_cons List.not_mem_nil jN jO jP jQ List.append_nil List.isEmpty_cons List.isEmpty_nil fL gL vV Option.getD_some Option.isSome_some Option.isSome_none Nat.add_eq Nat.zero_add Nat.add_zero true_and and_true and_self true_implies implies_true false_implies forall_const forall_eq forall_eq_or_imp ne_eq not_false_eq_true not_true_eq_false Bool.not_true Bool.not_false decide_true decide_false Bool.and_true Bool.true_and Bool.and_false Bool.false_and true_or or_true false_or or_false eq_self Bool.false_eq_true aKd aGV lP aB dX eS gK qQ nX qP iG jU eD jG Int.toNat_zero List.take_length
theorem aBt(x t:Tm)(n:Nat)(h:Hp)(hn:h n=some (.arr (.agg 2) [t.v])):aW Tryz.prog 197 [x.v, .ptr n (.agg 2) 0 0] h (.bool (x.le t)):=by
 refine aR (fun L=>trivial) fun h' nx hh=>aD L.chain_Reaches_1_low fun hd=>?_
 simp only[jL,jM,jA,jB,jN,jO,jP,jQ,V.undef]
 have hn':=hh _ _ hn rfl
 have hlt:=hd _ _ hn'
 have hne:(n=nx)=False:=by simp;omega
 have hne2:(n=nx+1)=False:=by simp;omega
 refine bC (bD ?_)
 refine aU 2 rfl (by simp only[L.chain_Reaches_1_r0,Tm.v,go_sem,reduceIte,jA,jB,jC,jD,reduceCtorEq,jE,jF];try omega) ?_
 simp only[L.chain_Reaches_1_r0,Tm.v,go_sem,reduceIte,jA,jB,jC,jD,reduceCtorEq,jE,jF]
 refine aJ (bC (bD ?_))
 simp only[Tm.v] at hn'
 refine aU 2 rfl (by simp only[L.chain_Reaches_1_r1,Tm.v,hn',hne,go_sem,reduceIte,jA,jB,jC,jD,reduceCtorEq,jE,jF];try omega) ?_
 simp only[L.chain_Reaches_1_r1,Tm.v,hn',hne,go_sem,reduceIte,jA,jB,jC,jD,reduceCtorEq,jE,jF]
 refine aM (aFD x t _) (by simp only[Tm.v,go_sem,reduceIte,jA,jB,jC,jD,reduceCtorEq,jE,jF]) (aO _) ?_
 simp only[go_sem,reduceIte,jA,jB,jC,jD,reduceCtorEq,jE,jF]
 refine aU 1 rfl (by simp only[L.chain_Reaches_1_r1,go_sem,reduceIte,jA,jB,jC,jD,reduceCtorEq,jE,jF];try omega) ?_
 simp only[L.chain_Reaches_1_r1,go_sem,reduceIte,jA,jB,jC,jD,reduceCtorEq,jE,jF]
 refine aJ (bJ (aF h' (aK hd (Hp.le_refl _) (by omega) _) ⟨?_,rfl⟩))
 simp only[go_sem,reduceIte,jA,jB,jC,jD,reduceCtorEq,jE,jF]
theorem aDg(own:Own)(l:List Tm)(t:Tm)(h:Hp)(hl:l.length≤1000000):aW Tryz.prog 156 [tms own l,t.v] h (.bool (l.any fun x=>x.le t)):=by
 refine aR (fun L=>trivial) fun h' nx hh=>aD L.chain_Reaches_low fun hd=>?_
 simp only[jL,jM,jA,jB,jN,jO,jP,jQ,V.undef]
 refine bC (bD ?_)
 refine aU 2 rfl (by simp only[L.chain_Reaches_r0,Tm.v,go_sem,reduceIte,jA,jB,jC,jD,reduceCtorEq,jE,jF];try omega) ?_
 simp only[L.chain_Reaches_r0,Tm.v,go_sem,reduceIte,jA,jB,jC,jD,reduceCtorEq,jE,jF]
 refine aJ (bC (bD ?_))
 refine aU 2 rfl (by simp only[L.chain_Reaches_r1,Tm.v,go_sem,reduceIte,jA,jB,jC,jD,reduceCtorEq,jE,jF];try omega) ?_
 simp only[L.chain_Reaches_r1,Tm.v,go_sem,reduceIte,jA,jB,jC,jD,reduceCtorEq,jE,jF]
 refine aM (vR (fun x=>x.le t) own l _ _ _ (fun x=>aBt x t nx _ (by simp[Tm.v,Hp.set])) hl) (by simp only[Tm.v,go_sem,reduceIte,jA,jB,jC,jD,reduceCtorEq,jE,jF]) (aO _) ?_
 simp only[go_sem,reduceIte,jA,jB,jC,jD,reduceCtorEq,jE,jF]
 refine aU 1 rfl (by simp only[L.chain_Reaches_r1,go_sem,reduceIte,jA,jB,jC,jD,reduceCtorEq,jE,jF];try omega) ?_
 simp only[L.chain_Reaches_r1,go_sem,reduceIte,jA,jB,jC,jD,reduceCtorEq,jE,jF]
 refine aJ (bJ (aF h' (aK hd (Hp.le_refl _) (by omega) _) ⟨?_,rfl⟩))
 simp only[go_sem,reduceIte,jA,jB,jC,jD,reduceCtorEq,jE,jF]
def tW(nx c:Nat):Nat→Own
 |0=> .nil
 |k+1=> .tok (nx+c*k+(c-1))
def aAx(h:Hp)(nx c:Nat):Nat→Hp
 |0=>h
 |k+1=>h.set (nx+c*k+(c-1)) .tip
theorem aAP(own:Own)(l:List Tm)(h':Hp)(nx:Nat)(hl:l.length≤1000000):
 aX Tryz.prog 89 [tms own l] h' nx fun v h'' _=>v=tms (tW nx 4 l.length) l∧h''=aAx h' nx 4 l.length:=by
 refine aD L.corollarylaw21_Document_low fun hd=>?_
 simp only[jL,jM,jA,jB,jN,jO,jP,jQ,V.undef]
 refine bC (bD ?_)
 refine aU 1 rfl (by simp only[L.corollarylaw21_Document_r0,go_sem,reduceIte,jA,jB,jC,jD,reduceCtorEq,jE,jF];try omega) ?_
 simp only[L.corollarylaw21_Document_r0,go_sem,reduceIte,jA,jB,jC,jD,reduceCtorEq,jE,jF]
 refine aJ (bC (bD ?_))
 refine aU 1 rfl (by simp only[L.corollarylaw21_Document_r1,go_sem,reduceIte,jA,jB,jC,jD,reduceCtorEq,jE,jF];try omega) ?_
 simp only[L.corollarylaw21_Document_r1,go_sem,reduceIte,jA,jB,jC,jD,reduceCtorEq,jE,jF]
 refine aJ (bC (bC (bD ?_)))
 refine aU 3 rfl (by simp only[L.corollarylaw21_Document_r2,tms,jK,go_sem,reduceIte,jA,jB,jC,jD,reduceCtorEq,jE,jF];try omega) ?_
 simp only[L.corollarylaw21_Document_r2,tms,jK,go_sem,reduceIte,jA,jB,jC,jD,reduceCtorEq,jE,jF]
 refine aJ (cR (lW (fun k:Nat=>k≤l.length) (fun k=>⟨aB 19 0 [(3,tms (tW nx 4 k) (l.take k)),(6,tms own l),(7, .int .i64 l.length),(8, .int .i64 k)],aAx h' nx 4 k,nx+4*k⟩) (fun k=>l.length-k) 0 (Nat.zero_le _) ?_ ?_))
 ·refine iY (by simp only[WkL,aB,jH,jI,jJ,Tm.v,tms,tW,aAx,go_sem,reduceIte,jA,jB,jC,jD,reduceCtorEq,jE,jF]) ?_ ?_
  ·exact Hp.le_refl _
  omega
 intro k hk
 simp only[aB,go_sem,reduceIte,jA,jB,jC,jD,reduceCtorEq,jE,jF]
 refine bC (bD ?_)
 refine aU 1 rfl (by simp only[L.corollarylaw21_Document_r3,go_sem,reduceIte,jA,jB,jC,jD,reduceCtorEq,jE,jF];try omega) ?_
 simp only[L.corollarylaw21_Document_r3,go_sem,reduceIte,jA,jB,jC,jD,reduceCtorEq,jE,jF]
 refine aJ (bC (bU _ rfl (fun hc=>?_) (fun hc=>?_)))
 ·have hlt:k<l.length:=by simpa using hc
  have hg:=aFf Tm.v l k hlt
  have ht:l.take (k+1)=l.take k++[l[k]]:=List.take_succ_eq_append_getElem hlt
  have hbound:(min k l.length+1)*16≤140737488355328:=by omega
  refine dN (aJ (bC (cR (bC (bD ?_)))))
  cases k with
  |zero=>
   refine aU 4 rfl (by simp only[L.corollarylaw21_Document_r4,tms,jK,jG,hg,Tm.v,tW,aAx,go_sem,reduceIte,jA,jB,jC,jD,reduceCtorEq,jE,jF];try omega) ?_
   simp only[L.corollarylaw21_Document_r4,tms,jK,jG,hg,Tm.v,tW,aAx,go_sem,reduceIte,jA,jB,jC,jD,reduceCtorEq,jE,jF]
   refine aJ (bD ?_)
   refine aU 2 rfl (by simp only[L.corollarylaw21_Document_r5,tms,jK,Tm.v,go_sem,reduceIte,jA,jB,jC,jD,reduceCtorEq,jE,jF];try omega) ?_
   simp only[L.corollarylaw21_Document_r5,tms,jK,Tm.v,go_sem,reduceIte,jA,jB,jC,jD,reduceCtorEq,jE,jF]
   refine aM (sI l[0] _) (by simp only[Tm.v,go_sem,reduceIte,jA,jB,jC,jD,reduceCtorEq,jE,jF]) (aO _) ?_
   simp only[go_sem,reduceIte,jA,jB,jC,jD,reduceCtorEq,jE,jF]
   refine aU 3 rfl (by simp only[L.corollarylaw21_Document_r5,tms,jK,Tm.v,go_sem,reduceIte,jA,jB,jC,jD,reduceCtorEq,jE,jF];try omega) ?_
   simp only[L.corollarylaw21_Document_r5,tms,jK,Tm.v,go_sem,reduceIte,jA,jB,jC,jD,reduceCtorEq,jE,jF]
   refine bN (aJ (bD ?_))
   refine aU 2 rfl (by simp only[L.corollarylaw21_Document_r6,go_sem,reduceIte,jA,jB,jC,jD,reduceCtorEq,jE,jF];try omega) ?_
   simp only[L.corollarylaw21_Document_r6,go_sem,reduceIte,jA,jB,jC,jD,reduceCtorEq,jE,jF]
   refine eZ (0+1) (by omega) (by omega) ?_
   rw[aV (by omega) (by omega)]
   refine iY (by simp only[WkL,aB,jH,jI,jJ,Tm.v,tms,tW,aAx,ht,List.map_append,Int.zero_add,go_sem,reduceIte,jA,jB,jC,jD,reduceCtorEq,jE,jF]<;>(try simp only[V.int.injEq,true_and])<;>(try omega)) ?_ ?_
   ·intro m b e
    simp only[aAx,Hp.set] at e⊢
    split at e
    ·rw[if_pos (by omega)];exact e
    have:=hd m b e
    repeat rw[if_neg (by omega)]
    exact e
   omega
  |succ k=>
   have n1:(nx+4*k+3=nx+4*(k+1))=False:=by simp;omega
   have n2:(nx+4*k+3=nx+4*(k+1)+2)=False:=by simp;omega
   have n3:(nx+4*k+3=nx+4*(k+1)+1)=False:=by simp;omega
   refine aU 4 rfl (by simp only[L.corollarylaw21_Document_r4,tms,jK,jG,hg,Tm.v,tW,aAx,go_sem,reduceIte,jA,jB,jC,jD,reduceCtorEq,jE,jF];try omega) ?_
   simp only[L.corollarylaw21_Document_r4,tms,jK,jG,hg,Tm.v,tW,aAx,go_sem,reduceIte,jA,jB,jC,jD,reduceCtorEq,jE,jF]
   refine aJ (bD ?_)
   refine aU 2 rfl (by simp only[L.corollarylaw21_Document_r5,tms,jK,Tm.v,go_sem,reduceIte,jA,jB,jC,jD,reduceCtorEq,jE,jF];try omega) ?_
   simp only[L.corollarylaw21_Document_r5,tms,jK,Tm.v,go_sem,reduceIte,jA,jB,jC,jD,reduceCtorEq,jE,jF]
   refine aM (sI l[k+1] _) (by simp only[Tm.v,go_sem,reduceIte,jA,jB,jC,jD,reduceCtorEq,jE,jF]) (aO _) ?_
   simp only[go_sem,reduceIte,jA,jB,jC,jD,reduceCtorEq,jE,jF]
   refine aU 3 rfl (by simp only[L.corollarylaw21_Document_r5,tms,jK,Tm.v,List.length_take,n1,n2,n3,go_sem,reduceIte,jA,jB,jC,jD,reduceCtorEq,jE,jF];try omega) ?_
   simp only[L.corollarylaw21_Document_r5,tms,jK,Tm.v,List.length_take,n1,n2,n3,go_sem,reduceIte,jA,jB,jC,jD,reduceCtorEq,jE,jF]
   refine bN (aJ (bD ?_))
   refine aU 2 rfl (by simp only[L.corollarylaw21_Document_r6,go_sem,reduceIte,jA,jB,jC,jD,reduceCtorEq,jE,jF];try omega) ?_
   simp only[L.corollarylaw21_Document_r6,go_sem,reduceIte,jA,jB,jC,jD,reduceCtorEq,jE,jF]
   refine eZ (k+1+1) (by omega) (by omega) ?_
   rw[aV (by omega) (by omega)]
   refine iY (by simp only[WkL,aB,jH,jI,jJ,Tm.v,tms,tW,aAx,ht,List.map_append,Int.zero_add,go_sem,reduceIte,jA,jB,jC,jD,reduceCtorEq,jE,jF]<;>(try simp only[V.int.injEq,true_and])<;>(try omega)) ?_ ?_
   ·intro m b e
    simp only[aAx,Hp.set,Hp.del] at e⊢
    split at e
    ·rw[if_pos (by omega)];exact e
    have:=hd m b e
    repeat rw[if_neg (by omega)]
    exact e
   omega
 have hge:k=l.length:=by have:¬k<l.length:=by simpa using hc
                         omega
 subst hge
 refine eT ?_
 repeat (first|refine dK ?_|refine cX ?_|refine aZ (by decide) ?_)
 refine cF ?_
 refine aJ (bC (bD ?_))
 refine aU 2 rfl (by simp only[L.corollarylaw21_Document_r7,go_sem,reduceIte,jA,jB,jC,jD,reduceCtorEq,jE,jF];try omega) ?_
 simp only[L.corollarylaw21_Document_r7,go_sem,reduceIte,jA,jB,jC,jD,reduceCtorEq,jE,jF]
 refine aJ (bJ (aF _ (Hp.le_refl _) ⟨?_,rfl⟩))
 simp only[List.take_length,go_sem,reduceIte,jA,jB,jC,jD,reduceCtorEq,jE,jF]
end Go.Proofs.YtemjhgboialjpaaGreat
namespace Go.Proofs.YtemjhgboialjpaaGreat
open Go.RowKit Go.Sort
theorem Tm.fits_v(t:Tm):t.v.fits (.agg 2)=true:=by simp[Tm.v,V.fits,V.leafy]
theorem uV:aG Tryz.prog 193=some (LB.SortedFunc (.agg 2) 222 223):=by kernel_rfl
theorem aAm:aG Tryz.prog 222=some (LB.Collect (.agg 2) 257):=by kernel_rfl
theorem wT:aG Tryz.prog 257=some (LB.AppendSeq (.agg 2) (.agg [.int .i64 0, .int .i64 0]) 16):=by kernel_rfl
theorem aBx:aG Tryz.prog 194=some (LB.Values (.agg 2) 224):=by kernel_rfl
theorem yO:aG Tryz.prog 224=some (LB.ValuesIt (.agg 2) (.agg [.int .i64 0, .int .i64 0])):=by kernel_rfl
def mN(a b:Tm):Int:=orI [kH a.e b.e,kH a.r b.r]
theorem aCK(a b:Tm):aW Tryz.prog 192 [a.v,b.v] Hp.none (.int .i64 (mN a b)):=by
 refine aR (fun L=>trivial) fun h' nx hh=>aD L.stamp_Compare_low fun hd=>?_
 simp only[jL,jM,jA,jB,jN,jO,jP,jQ,V.undef]
 refine wle Tm.v.eq_1 ?_
 refine dA rfl ?_
 refine bQ rfl (by simp only[Tm.v,go_sem,reduceIte,jA,jB,jC,jD,reduceCtorEq,jE,jF];try omega) ?_
 simp only[Tm.v,go_sem,reduceIte,jA,jB,jC,jD,reduceCtorEq,jE,jF]
 refine bF (oZ oO yV a.e b.e Hp.none) rfl (bH _) ?_
 refine bQ rfl (by simp only[Tm.v,go_sem,reduceIte,jA,jB,jC,jD,reduceCtorEq,jE,jF];try omega) ?_
 simp only[Tm.v,go_sem,reduceIte,jA,jB,jC,jD,reduceCtorEq,jE,jF]
 refine bF (oZ oO yV a.r b.r Hp.none) rfl (bH _) ?_
 refine bQ rfl (by simp only[Tm.v,go_sem,reduceIte,jA,jB,jC,jD,reduceCtorEq,jE,jF];try omega) ?_
 simp only[Tm.v,go_sem,reduceIte,jA,jB,jC,jD,reduceCtorEq,jE,jF]
 refine bF (wN wR _ [kH a.e b.e,kH a.r b.r] (by simp) Hp.none) rfl (bH _) ?_
 refine bQ rfl (by simp only[Tm.v,go_sem,reduceIte,jA,jB,jC,jD,reduceCtorEq,jE,jF];try omega) ?_
 simp only[Tm.v,go_sem,reduceIte,jA,jB,jC,jD,reduceCtorEq,jE,jF]
 refine bX (cG ?_)
 simp only[go_sem,reduceIte,jA,jB,jC,jD,reduceCtorEq,jE,jF]
 refine aJ (bJ (aF h' ?_ ⟨rfl,rfl⟩))
 exact(by repeat (first|exact Hp.le_refl _|refine aK hd ?_ (by omega) _|refine aL hd ?_ (by omega)))
theorem nZ:(∀a b,kH a b<0↔a<b)∧∀a b,kH a b=0↔a=b:=by
 constructor<;>intro a b<;>unfold kH<;>(repeat' split)<;>omega
theorem aHh(a b:Tm):(mN a b<0)↔(a.e<b.e∨(a.e=b.e∧a.r<b.r)):=by
 have h1:=nZ.1 a.e b.e
 have h2:=nZ.2 a.e b.e
 have h3:=nZ.1 a.r b.r
 unfold mN orI
 split
 ·rename_i h0
  have he:=h2.1 h0
  unfold orI
  split
  ·rename_i h4
   have:=(nZ.2 a.r b.r).1 h4
   unfold orI
   omega
  omega
 rename_i h0
 have:a.e≠b.e:=fun h=>h0 (h2.2 h)
 omega
theorem wQ(a b:Tm):ltOf mN a b=decide (a.e<b.e∨(a.e=b.e∧a.r<b.r)):=by
 unfold ltOf
 rw[Bool.eq_iff_iff]
 simp[aHh]
theorem aDU:SWO (ltOf mN):=by
 refine⟨fun x=>?_,fun x y z=>?_,fun x y z=>?_⟩<;>simp only[wQ,decide_eq_true_eq,decide_eq_false_iff_not]<;>omega
theorem aIH(x y:Tm)(h1:ltOf mN x y=false)(h2:ltOf mN y x=false):x=y:=by
 simp only[wQ,decide_eq_false_iff_not] at h1 h2
 cases x;cases y
 simp only[Tm.mk.injEq] at*
 omega
theorem aBr(own:Own)(l:List Tm)(hl:l.length≤1000000):
 aW Tryz.prog 193 [.fn (.func 224) [] [.ept .leaf [(tms own l).loose] 0 0], .fn (.func 192) [] []] Hp.none (lst (.agg 2) ((dD mN l).map Tm.v)):=by
 have hs:∃own',(tms own l).loose=tms own' l:=by cases own<;>exact⟨_,rfl⟩
 obtain⟨own',hs⟩:=hs
 rw[hs]
 exact yK Tm.v aKI Tm.fits_v (fun x L=>x.names_v L) (by intro w;exact Tryz.isAgg73 w) (by intro w;exact Tryz.sizeOf73 w) (by kernel_rfl) uV aAm wT rfl (by omega) rfl _ _ Hp.none l
  (tK Tm.v Tm.fits_v yO rfl own' l (by omega)) (by omega) mN aDU aIH _ [] (fun x y=>by simpa using aCK x y)
def iB:List Tm→List Tm→List Tm
 |out,[]=>out
 |out,t::l=>iB (if t.ok&& !(out.any fun x=>x.le t) then out++[t] else out) l
def ofT(l:List Tm):List Tm:=iB [] (dD mN l)
theorem aEz(out l:List Tm):(iB out l).length≤out.length+l.length:=by
 induction l generalizing out with
 |nil=>simp[iB]
 |cons t l ih=>
  unfold iB
  refine Nat.le_trans (ih _) ?_
  split<;>simp<;>omega
theorem aGU(l:List Tm):(ofT l).length≤l.length:=by
 have:=aEz [] (dD mN l)
 simpa [ofT,(dH mN l).length_eq] using this
theorem aCm(out l:List Tm)(t:Tm):iB out (l++[t])=if (t.ok&& !((iB out l).any fun x=>x.le t))=true then iB out l++[t] else iB out l:=by
 induction l generalizing out with
 |nil=>simp[iB]
 |cons x l ih=>simp only[jP,iB];exact ih _
theorem aDC(own:Own)(l:List Tm)(hl:l.length≤1000000)(h:Hp):aW Tryz.prog 148 [tms own l] h (lst (.agg 2) ((ofT l).map Tm.v)):=by
 refine cK (fun L=>cE (fun L=>bI (Tm.names_v L) _) L) fun h' nx hh=>aD L.chain_Of_low fun hd=>?_
 simp only[jL,jM,jA,jB,jN,jO,jP,jQ,V.undef]
 refine wl ?_
 refine aM (zO aBx own (l.map Tm.v) (fun L=>bI (Tm.names_v L) _) Hp.none) rfl (bH _) ?_
 simp only[go_sem,reduceIte,jA,jB,jC,jD,reduceCtorEq,jE,jF]
 refine aM (aBr own l hl) rfl (bH _) ?_
 simp only[go_sem,reduceIte,jA,jB,jC,jD,reduceCtorEq,jE,jF]
 obtain⟨S,hS⟩:∃S,S=dD mN l:=⟨_,rfl⟩
 have hSl:S.length=l.length:=by rw[hS];exact(dH mN l).length_eq
 rw[←hS]
 obtain⟨ow,how⟩:=gY (.agg 2) (S.map Tm.v)
 rw[how]
 refine wle trivial ?_
 obtain⟨C,hC⟩:∃C:Nat×Own→Hp→Nat→Prop,∀i o hp nx1,C (i,o) hp nx1↔(i≤S.length∧h'.le hp∧nx≤nx1∧aH hp nx1∧((o= .nil∧iB [] (S.take i)=[])∨∃id,nx≤id∧o= .tok id∧hp id=some .tip∧iB [] (S.take i)≠ [])):=⟨fun p hp nx1=>(p.1≤S.length∧h'.le hp∧nx≤nx1∧aH hp nx1∧((p.2= .nil∧iB [] (S.take p.1)=[])∨∃id,nx≤id∧p.2= .tok id∧hp id=some .tip∧iB [] (S.take p.1)≠ [])),fun _ _ _ _=>Iff.rfl⟩
 refine aP (fun p=>aB 28 0 [(3,tms p.2 (iB [] (S.take p.1))),(8, .sl (.agg 2) ow (S.map Tm.v)),(9, .int .i64 S.length),(10, .int .i64 p.1)]) C (fun p=>S.length-p.1) (0, .nil) ((hC _ _ _ _).2 ⟨Nat.zero_le _,Hp.le_refl _,Nat.le_refl _,hd, .inl ⟨rfl,by simp[iB]⟩⟩) ?_ ?_
 ·simp only[WkL,aB,jH,jI,jJ,iB,tms,go_sem,reduceIte,jA,jB,jC,jD,reduceCtorEq,jE,jF]
 rintro⟨i,o⟩ hp nx1 hCi
 obtain⟨hi,hle,hnx,hdm,hown⟩:=(hC _ _ _ _).1 hCi
 simp only[aB,go_sem,reduceIte,jA,jB,jC,jD,reduceCtorEq,jE,jF]
 refine wl ?_
 refine bU _ rfl (fun hc=>?_) (fun hc=>?_)
 ·have hlt:i<S.length:=by simpa using hc
  have hg:=bE Tm.v S i hlt
  have htk:S.take (i+1)=S.take i++[S[i]]:=List.take_succ_eq_append_getElem hlt
  have hlen:(iB [] (S.take i)).length≤1000000:=Nat.le_trans (aEz _ _) (by simp;omega)
  refine wle (ee2 hg Tm.fits_v) ?_
  refine aM (sJ S[i] _) rfl (aO _) ?_
  simp only[ go_sem,reduceIte,jA,jB,jC,jD,reduceCtorEq,jE,jF]
  refine wl ?_
  refine aKg (S[i].ok) rfl rfl ?sl ?h1 ?h2
  case h1=>
   intro hgd
   simp only[Tm.fits_v,go_sem,reduceIte,jA,jB,jC,jD,reduceCtorEq,jE,jF]
   refine wle Tm.fits_v ?_
   refine aM (aDg o (iB [] (S.take i)) S[i] _ hlen) rfl (aO _) ?_
   simp only[go_sem,reduceIte,jA,jB,jC,jD,reduceCtorEq,jE,jF]
   refine wl ?_
   exact rfl
  simp only[go_sem,reduceIte,jA,jB,jC,jD,reduceCtorEq,jE,jF]
  refine wl ?_
  refine bU _ rfl (fun hc=>?_) (fun hc=>?_)
  ·have hnew:iB [] (S.take (i+1))=iB [] (S.take i)++[S[i]]:=by
    rw[htk,aCm,if_pos]
    revert hc
    cases S[i].ok<;>simp
   rcases hown with⟨rfl,hemp⟩|⟨id,hid,rfl,htip,hne⟩
   ·rw[hemp] at hnew⊢
    repeat (first|with_reducible refine bC ?_|with_reducible refine cR ?_|with_reducible refine dN ?_|with_reducible refine aJ ?_|with_reducible refine bN ?_|with_reducible refine bD ?_|(refine eH rfl (by simp only[tms,Tm.fits_v,eD,List.map_nil,go_sem,reduceIte,jA,jB,jC,jD,reduceCtorEq,jE,jF];try omega) ?_;simp only[tms,Tm.fits_v,eD,List.map_nil,go_sem,reduceIte,jA,jB,jC,jD,reduceCtorEq,jE,jF])|(with_reducible refine dS ?_))
    rw[aV (by omega) (by omega)]
    refine aC (i+1, .tok (nx1+3)) (by simp only;omega) ((hC _ _ _ _).2 ⟨by omega,?_,by omega,?_, .inr ⟨nx1+3,by omega,rfl,?_,by rw[hnew];simp⟩⟩) ?_
    ·repeat (first|exact hle|refine dW ?_ (aH.none hd (by omega)) _|refine nE ?_ (aH.none hd (by omega)))
    ·repeat (first|exact aH.up hdm (by omega)|refine aH.set2 ?_ (by omega) _|refine aH.del ?_)
    ·simp only[go_sem,reduceIte,jA,jB,jC,jD,reduceCtorEq,jE,jF]
    simp only[WkL,aB,jH,jI,jJ,tms,hnew,List.map_nil,go_sem,reduceIte,jA,jB,jC,jD,reduceCtorEq,jE,jF]
   have hlt2:=hdm _ _ htip
   have f1:(id=nx1)=False:=by simp;omega
   have f2:(id=nx1+2)=False:=by simp;omega
   have hb1:((iB [] (S.take i)).length+1)*16≤140737488355328:=by omega
   repeat (first|with_reducible refine bC ?_|with_reducible refine cR ?_|with_reducible refine dN ?_|with_reducible refine aJ ?_|with_reducible refine bN ?_|with_reducible refine bD ?_|(refine eH rfl (by simp only[tms,Tm.fits_v,eD,jK,hb1,f1,f2,htip,go_sem,reduceIte,jA,jB,jC,jD,reduceCtorEq,jE,jF];try omega) ?_;simp only[tms,Tm.fits_v,eD,jK,hb1,f1,f2,htip,go_sem,reduceIte,jA,jB,jC,jD,reduceCtorEq,jE,jF])|(with_reducible refine dS ?_))
   rw[aV (by omega) (by omega)]
   refine aC (i+1, .tok (nx1+3)) (by simp only;omega) ((hC _ _ _ _).2 ⟨by omega,?_,by omega,?_, .inr ⟨nx1+3,by omega,rfl,?_,by rw[hnew];simp⟩⟩) ?_
   ·repeat (first|exact hle|refine dW ?_ (aH.none hd (by omega)) _|refine nE ?_ (aH.none hd (by omega)))
   ·repeat (first|exact aH.up hdm (by omega)|refine aH.set2 ?_ (by omega) _|refine aH.del ?_)
   ·simp only[go_sem,reduceIte,jA,jB,jC,jD,reduceCtorEq,jE,jF]
   simp only[WkL,aB,jH,jI,jJ,tms,hnew,List.map_append,List.map_cons,List.map_nil,go_sem,reduceIte,jA,jB,jC,jD,reduceCtorEq,jE,jF]
  have hnew:iB [] (S.take (i+1))=iB [] (S.take i):=by
   rw[htk,aCm,if_neg]
   revert hc
   cases S[i].ok<;>simp
  refine wl ?_
  rw[aV (by omega) (by omega)]
  refine aC (i+1,o) (by simp only;omega) ((hC _ _ _ _).2 ⟨by omega,?_,by omega,?_,?_⟩) ?_
  ·repeat (first|exact hle|refine dW ?_ (aH.none hd (by omega)) _|refine nE ?_ (aH.none hd (by omega)))
  ·repeat (first|exact aH.up hdm (by omega)|refine aH.set2 ?_ (by omega) _|refine aH.del ?_)
  ·rw[hnew]
   rcases hown with h1|⟨id,hid,h1,htip,hne⟩
   ·exact .inl h1
   have hlt2:=hdm _ _ htip
   have f1:(id=nx1)=False:=by simp;omega
   exact .inr ⟨id,hid,h1,by simp only[htip,f1,go_sem,reduceIte,jA,jB,jC,jD,reduceCtorEq,jE,jF],hne⟩
  simp only[WkL,aB,jH,jI,jJ,tms,hnew,go_sem,reduceIte,jA,jB,jC,jD,reduceCtorEq,jE,jF]
 have hge:i=S.length:=by have:¬i<S.length:=by simpa using hc
                         omega
 refine eT ?_
 repeat (first|with_reducible refine dK ?_|with_reducible refine cX ?_|with_reducible refine cT ?_|with_reducible refine aZ (by decide) ?_|with_reducible refine cF ?_|with_reducible refine aJ ?_)
 refine wl ?_
 refine bJ (aF hp (Hp.le_refl _) ⟨?_,hle⟩)
 simp only[go_sem,reduceIte,jA,jB,jC,jD,reduceCtorEq,jE,jF]
 rw[hge,List.take_length] at hown⊢
 rw[hS,show iB [] (dD mN l)=ofT l from rfl] at hown⊢
 rcases hown with⟨rfl,h1⟩|⟨id,hid,rfl,htip,hne⟩
 ·rw[h1];rfl
 generalize ofT l=r at hne⊢
 cases r with
 |nil=>exact absurd rfl hne
 |cons x r=>rfl
end Go.Proofs.YtemjhgboialjpaaGreat
namespace Go.Proofs.YtemjhgboialjpaaGreat
open Go.RowKit Go.Sort
theorem Tm.less_irrefl(a:Tm):a.less a=false:=by simp[Tm.less]
theorem Tm.less_tri(a b:Tm)(h1:a.less b=false)(h2:b.less a=false):a=b:=by
 cases a;cases b
 simp[Tm.less] at*
 omega
theorem Tm.less_trans{a b c:Tm}(h1:a.less b=true)(h2:b.less c=true):a.less c=true:=by
 simp[Tm.less] at*
 omega
theorem Tm.le_lex{a b:Tm}(h:a.le b=true):b.less a=false:=by
 simp[Tm.less,Tm.le] at*
 omega
theorem Tm.le_refl(a:Tm):a.le a=true:=by simp[Tm.le]
theorem Tm.le_trans{a b c:Tm}(h1:a.le b=true)(h2:b.le c=true):a.le c=true:=by
 simp[Tm.le] at*
 omega
def pE(l:List Tm)(x:Tm):Prop:=x∈l∧x.ok=true∧∀y∈l,y.ok=true→y.le x=true→y=x
def jX(l:List Tm):Prop:=l.Pairwise fun a b=>a.less b=true
theorem kL{a b:List Tm}(ha:jX a)(hb:jX b)(h:∀x,x∈a↔x∈b):a=b:=by
 have nd:∀{l:List Tm},jX l→l.Nodup:=fun hl=>hl.imp (fun{x y} hxy e=>by subst e;rw[Tm.less_irrefl] at hxy;cases hxy)
 refine List.Perm.eq_of_pairwise (le:=fun(u v:Tm)=>u.less v=true) (fun x y _ _ h1 h2=>?_) ha hb ((List.perm_ext_iff_of_nodup (nd ha) (nd hb)).2 h)
 have:=Tm.less_trans h1 h2
 rw[Tm.less_irrefl] at this;cases this
theorem aEA:∀(rest pre out:List Tm),(∀x∈pre,∀y∈rest,y.less x=false)→rest.Pairwise (fun x y=>y.less x=false)→jX out→(∀x,x∈out↔pE pre x)→(∀y∈pre,y.ok=true→∃z∈out,z.le y=true)→
 jX (iB out rest)∧∀x,x∈iB out rest↔pE (pre++rest) x
 | [],pre,out,_,_,hs,hm,_=>by simpa [iB] using⟨hs,hm⟩
 |t::rest,pre,out,h1,h2,hs,hm,hc=>by
  have h2':=List.pairwise_cons.1 h2
  have low:∀x∈pre,t.le x=true→t=x:=fun x hx hle=>(Tm.less_tri _ _ (h1 x hx t (by simp)) (Tm.le_lex hle))
  have key:∀out',jX out'→(∀x,x∈out'↔pE (pre++[t]) x)→(∀y∈pre++[t],y.ok=true→∃z∈out',z.le y=true)→jX (iB out' rest)∧∀x,x∈iB out' rest↔pE (pre++t::rest) x:=by
   intro out' q1 q2 q3
   have:=aEA rest (pre++[t]) out' (fun x hx y hy=>by
    rcases List.mem_append.1 hx with hx|hx
    ·exact h1 x hx y (by simp[hy])
    have:x=t:=by simpa using hx
    subst this
    exact h2'.1 y hy) h2'.2 q1 q2 q3
   simpa using this
  unfold iB
  split
  ·rename_i hk
   simp only[Bool.and_eq_true,Bool.not_eq_true',List.any_eq_false] at hk
   obtain⟨hok,hno⟩:=hk
   have hno':∀x∈out,x.le t=false:=fun x hx=>by simpa using hno x hx
   refine key _ ?_ ?_ ?_
   ·refine List.pairwise_append.2 ⟨hs,by simp,fun x hx y hy=>?_⟩
    have:y=t:=by simpa using hy
    subst this
    have hxp:=((hm x).1 hx).1
    cases hl:x.less y with
    |true=>rfl
    |false=>
     have:=Tm.less_tri _ _ hl (h1 x hxp y (by simp))
     subst this
     have:=hno' x hx
     rw[Tm.le_refl] at this;cases this
   ·intro x
    simp only[List.mem_append,List.mem_singleton]
    constructor
    ·rintro(hx|rfl)
     ·obtain⟨a,b,c⟩:=(hm x).1 hx
      refine⟨by simp[a],b,fun y hy hyo hyl=>?_⟩
      rcases List.mem_append.1 hy with hy|hy
      ·exact c y hy hyo hyl
      have:y=t:=by simpa using hy
      subst this
      exact low x a hyl
     refine⟨by simp,hok,fun y hy hyo hyl=>?_⟩
     rcases List.mem_append.1 hy with hy|hy
     ·obtain⟨z,hz,hzl⟩:=hc y hy hyo
      have:=hno' z hz
      rw[Tm.le_trans hzl hyl] at this;cases this
     simpa using hy
    rintro⟨a,b,c⟩
    rcases List.mem_append.1 a with hx|hx
    ·exact .inl ((hm x).2 ⟨hx,b,fun y hy=>c y (by simp[hy])⟩)
    exact .inr (by simpa using hx)
   intro y hy hyo
   rcases List.mem_append.1 hy with hy|hy
   ·obtain⟨z,hz,hzl⟩:=hc y hy hyo
    exact⟨z,by simp[hz],hzl⟩
   have:y=t:=by simpa using hy
   subst this
   exact⟨y,by simp,Tm.le_refl _⟩
  rename_i hk
  have hk':t.ok=true→∃z∈out,z.le t=true:=fun hok=>by
   simp only[hok,Bool.true_and,Bool.not_eq_true',Bool.not_eq_false] at hk
   obtain⟨z,hz,hzl⟩:=List.any_eq_true.1 hk
   exact⟨z,hz,hzl⟩
  refine key _ hs ?_ ?_
  ·intro x
   constructor
   ·intro hx
    obtain⟨a,b,c⟩:=(hm x).1 hx
    refine⟨by simp[a],b,fun y hy hyo hyl=>?_⟩
    rcases List.mem_append.1 hy with hy|hy
    ·exact c y hy hyo hyl
    have:y=t:=by simpa using hy
    subst this
    exact low x a hyl
   rintro⟨a,b,c⟩
   rcases List.mem_append.1 a with hx|hx
   ·exact(hm x).2 ⟨hx,b,fun y hy=>c y (by simp[hy])⟩
   have:x=t:=by simpa using hx
   subst this
   obtain⟨z,hz,hzl⟩:=hk' b
   have hz':=(hm z).1 hz
   have:=c z (by simp[hz'.1]) hz'.2.1 hzl
   rwa [this] at hz
  intro y hy hyo
  rcases List.mem_append.1 hy with hy|hy
  ·exact hc y hy hyo
  have:y=t:=by simpa using hy
  subst this
  exact hk' hyo
def qH(l:List Tm)(i:Nat)(t:Tm):Bool:=t.ok&& !((List.range l.length).any fun k=>match l[k]? with|some y=>y.ok&&y.le t&&(decide (y≠t)||decide (k<i))|none=>false)
def aBy(out:List Tm)(t:Tm):List Tm:=out.takeWhile (·.less t)++t::out.dropWhile (·.less t)
def cI(l:List Tm):Nat→List Tm
 |0=>[]
 |i+1=>match l[i]? with
  |some t=>if qH l i t=true then aBy (cI l i) t else cI l i
  |none=>cI l i
theorem aEX(out:List Tm)(t x:Tm):x∈aBy out t↔x=t∨x∈out:=by
 unfold aBy
 conv=>rhs;rw[←List.takeWhile_append_dropWhile (p:=fun x:Tm=>x.less t) (l:=out)]
 simp only[List.mem_append,List.mem_cons]
 constructor
 ·rintro(h|h|h)<;>simp[h]
 rintro(h|h|h)<;>simp[h]
theorem aEW{out:List Tm}{t:Tm}(hs:jX out)(hn:t∉out):jX (aBy out t):=by
 induction out with
 |nil=>simp[aBy,jX]
 |cons a out ih=>
  have hs':=List.pairwise_cons.1 hs
  have hn':t≠a∧t∉out:=by simpa using hn
  unfold aBy
  cases ha:a.less t with
  |true=>
   have:=ih hs'.2 hn'.2
   simp only[List.takeWhile_cons,List.dropWhile_cons,ha,if_true,List.cons_append]
   refine List.pairwise_cons.2 ⟨fun y hy=>?_,this⟩
   have hy':y∈aBy out t:=hy
   rcases(aEX out t y).1 hy' with rfl|hy
   ·exact ha
   exact hs'.1 y hy
  |false=>
   simp only[List.takeWhile_cons,List.dropWhile_cons,ha,Bool.false_eq_true,if_false,List.nil_append]
   have hta:t.less a=true:=by
    cases h:t.less a with
    |true=>rfl
    |false=>exact absurd (Tm.less_tri _ _ h ha) hn'.1
   refine List.pairwise_cons.2 ⟨fun y hy=>?_,hs⟩
   rcases List.mem_cons.1 hy with rfl|hy
   ·exact hta
   exact Tm.less_trans hta (hs'.1 y hy)
theorem rJ(l:List Tm)(i:Nat)(t:Tm):qH l i t=true↔t.ok=true∧∀k y,l[k]?=some y→y.ok=true→y.le t=true→y=t∧i≤k:=by
 unfold qH
 simp only[Bool.and_eq_true,Bool.not_eq_true',List.any_eq_false,List.mem_range]
 constructor
 ·rintro⟨h1,h2⟩
  refine⟨h1,fun k y hk ho hl=>?_⟩
  have hlt:=(List.getElem?_eq_some_iff.1 hk).1
  have:=h2 k hlt
  rw[hk] at this
  simp[ho,hl] at this
  exact⟨this.1,this.2⟩
 rintro⟨h1,h2⟩
 refine⟨h1,fun k hk=>?_⟩
 rw[List.getElem?_eq_getElem hk]
 simp only
 intro hc
 simp only[Bool.and_eq_true,Bool.or_eq_true,decide_eq_true_eq] at hc
 obtain⟨⟨a,b⟩,c⟩:=hc
 obtain⟨q1,q2⟩:=h2 k l[k] (List.getElem?_eq_getElem hk) a b
 rcases c with c|c
 ·exact c q1
 omega
theorem qZ(l:List Tm):∀i,jX (cI l i)∧∀x,x∈cI l i↔∃j,j<i∧l[j]?=some x∧qH l j x=true
 |0=>⟨by simp[cI,jX],fun x=>by simp[cI]⟩
 |i+1=>by
  obtain⟨h1,h2⟩:=qZ l i
  have step:∀x,(∃j,j<i+1∧l[j]?=some x∧qH l j x=true)↔((∃j,j<i∧l[j]?=some x∧qH l j x=true)∨(l[i]?=some x∧qH l i x=true)):=by
   intro x
   constructor
   ·rintro⟨j,hj,a,b⟩
    by_cases e:j=i
    ·subst e;exact .inr ⟨a,b⟩
    exact .inl ⟨j,by omega,a,b⟩
   rintro(⟨j,hj,a,b⟩|⟨a,b⟩)
   ·exact⟨j,by omega,a,b⟩
   exact⟨i,by omega,a,b⟩
  unfold cI
  split
  ·rename_i t ht
   split
   ·rename_i hk
    have hn:t∉cI l i:=fun hm=>by
     obtain⟨j,hj,a,b⟩:=(h2 t).1 hm
     have:=((rJ l i t).1 hk).2 j t a ((rJ l i t).1 hk).1 (Tm.le_refl _)
     omega
    refine⟨aEW h1 hn,fun x=>?_⟩
    rw[aEX,step,h2,ht]
    constructor
    ·rintro(rfl|h)
     ·exact .inr ⟨rfl,hk⟩
     exact .inl h
    rintro(h|⟨h,_⟩)
    ·exact .inr h
    injection h with h;exact .inl h.symm
   rename_i hk
   refine⟨h1,fun x=>?_⟩
   rw[step,h2,ht]
   constructor
   ·exact .inl
   rintro(h|⟨h,hk2⟩)
   ·exact h
   injection h with h;subst h;exact absurd hk2 hk
  rename_i ht
  refine⟨h1,fun x=>?_⟩
  rw[step,h2,ht]
  simp
theorem xM(l:List Tm)(x:Tm):x∈cI l l.length↔pE l x:=by
 rw[(qZ l l.length).2]
 constructor
 ·rintro⟨j,hj,a,b⟩
  obtain⟨q1,q2⟩:=(rJ l j x).1 b
  refine⟨List.mem_of_getElem? a,q1,fun y hy hyo hyl=>?_⟩
  obtain⟨k,hk,rfl⟩:=List.getElem_of_mem hy
  exact(q2 k _ (List.getElem?_eq_getElem hk) hyo hyl).1
 rintro⟨a,b,c⟩
 --the first place where it stands
 have hex:∃j:Nat,l[j]?=some x:=by
  obtain⟨k,hk,rfl⟩:=List.getElem_of_mem a
  exact⟨k,List.getElem?_eq_getElem hk⟩
 have first:∃j:Nat,l[j]?=some x∧∀k:Nat,k<j→l[k]?≠some x:=by
  obtain⟨j,hj⟩:=hex
  induction j using Nat.strongRecOn with
  |_ j ih=>
   by_cases h:∃k,k<j∧l[k]?=some x
   ·obtain⟨k,hk,hkx⟩:=h;exact ih k hk hkx
   exact⟨j,hj,fun k hk hkx=>h ⟨k,hk,hkx⟩⟩
 obtain⟨j,hj,hfirst⟩:=first
 refine⟨j,(List.getElem?_eq_some_iff.1 hj).1,hj,(rJ l j x).2 ⟨b,fun k y hk hyo hyl=>?_⟩⟩
 have hy:=c y (List.mem_of_getElem? hk) hyo hyl
 refine⟨hy,?_⟩
 rcases Nat.lt_or_ge k j with h|h
 ·exact absurd (hy▸hk) (hfirst k h)
 exact h
theorem aAa(l:List Tm):ofT l=cI l l.length:=by
 have hs:=fZ aDU l
 have hp:=dH mN l
 have hl:∀a b:Tm,ltOf mN a b=a.less b:=fun a b=>by
  rw[wQ,Bool.eq_iff_iff]
  simp[Tm.less]
 have inv:=aEA (dD mN l) [] [] (fun x hx=>by cases hx) (hs.imp fun{x y} h=>by rw[←hl];exact h) (by simp[jX]) (fun x=>by simp[pE]) (fun y hy=>by cases hy)
 refine kL inv.1 (qZ l l.length).1 fun x=>?_
 rw[xM]
 refine(inv.2 x).trans ?_
 unfold pE
 simp only[List.nil_append,hp.mem_iff]
end Go.Proofs.YtemjhgboialjpaaGreat
namespace Go.Proofs.YtemjhgboialjpaaGreat
open Go.RowKit
def oR(l:List Tm)(i:Nat)(t:Tm)(k:Nat):Bool:=t.ok&& !((List.range k).any fun k=>match l[k]? with|some y=>y.ok&&y.le t&&(decide (y≠t)||decide (k<i))|none=>false)
theorem xV(l:List Tm)(i:Nat)(t:Tm)(k:Nat)(hk:k<l.length):oR l i t (k+1)=(oR l i t k&& !(l[k].ok&&l[k].le t&&(decide (l[k]≠t)||decide (k<i)))):=by
 unfold oR
 rw[List.range_succ,List.any_append]
 simp only[List.any_cons,List.any_nil,Bool.or_false,List.getElem?_eq_getElem hk]
 cases t.ok<;>cases ((List.range k).any fun k=>match l[k]? with|some y=>y.ok&&y.le t&&(decide (y≠t)||decide (k<i))|none=>false)<;>simp
theorem zI(a b:Tm):veq (.plain (.agg 2) [.int, .int]) a.v b.v=some (decide (a=b)):=by
 have h1:((a.v).fits (.agg 2)&&(b.v).fits (.agg 2))=true:=by rw[a.fits_v,b.fits_v];rfl
 have h2:decide (a=b)=(a.e==b.e&&a.r==b.r):=by
  cases a;cases b
  rw[Bool.eq_iff_iff]
  simp
 rw[h2]
 simp only[veq,h1,if_true]
 simp[Tm.v,V.cells,gW,hZ]
theorem tJ{α:Type}(p:α→Bool)(l:List α)(n:Nat)(hn:n≤l.length)(h1:∀x∈l.take n,p x=true)(h2:∀(h:n<l.length),p l[n]=false):l.takeWhile p=l.take n∧l.dropWhile p=l.drop n:=by
 induction l generalizing n with
 |nil=>simp at hn;subst hn;simp
 |cons a l ih=>
  cases n with
  |zero=>
   have:=h2 (by simp)
   simp only[List.getElem_cons_zero] at this
   simp[List.takeWhile_cons,List.dropWhile_cons,this]
  |succ n=>
   have ha:=h1 a (by simp)
   obtain⟨q1,q2⟩:=ih n (by simpa using hn) (fun x hx=>h1 x (by simp[hx])) (fun h=>h2 (by simpa using h))
   simp[List.takeWhile_cons,List.dropWhile_cons,ha,q1,q2]
theorem aCc(l:List Tm):∀i,(cI l i).length≤i
 |0=>by simp[cI]
 |i+1=>by
  have:=aCc l i
  unfold cI
  split
  ·split
   ·unfold aBy
    have e:∀t:Tm,((cI l i).takeWhile (·.less t)).length+((cI l i).dropWhile (·.less t)).length=(cI l i).length:=fun t=>by rw[←List.length_append,List.takeWhile_append_dropWhile]
    rename_i t _ _
    have:=e t
    simp only[List.length_append,jL]
    omega
   omega
  omega
set_option maxHeartbeats 4000000 in
theorem aEj(own:Own)(l:List Tm)(hl:l.length≤1000000)(h:Hp):aW Tryz.prog 91 [tms own l] h (lst (.agg 2) ((cI l l.length).map Tm.v)):=by
 refine cK (fun L=>cE (fun L=>bI (Tm.names_v L) _) L) fun h' nx hh=>aD L.corollaryref21_Of_low fun hd=>?_
 simp only[jL,jM,jA,jB,jN,jO,jP,jQ,V.undef]
 refine wl ?_
 obtain⟨C,hC⟩:∃C:Nat×Own→Hp→Nat→Prop,∀i o hp nx1,C (i,o) hp nx1↔(i≤l.length∧h'.le hp∧nx≤nx1∧aH hp nx1∧((o= .nil∧cI l i=[])∨∃id,nx≤id∧o= .tok id∧hp id=some .tip∧cI l i≠ [])):=⟨fun p hp nx1=>(p.1≤l.length∧h'.le hp∧nx≤nx1∧aH hp nx1∧((p.2= .nil∧cI l p.1=[])∨∃id,nx≤id∧p.2= .tok id∧hp id=some .tip∧cI l p.1≠ [])),fun _ _ _ _=>Iff.rfl⟩
 refine aP (fun p=>aB 92 0 [(0,tms own l),(3,tms p.2 (cI l p.1)),(4, .int .i64 p.1)]) C (fun p=>l.length-p.1) (0, .nil) ((hC _ _ _ _).2 ⟨Nat.zero_le _,Hp.le_refl _,Nat.le_refl _,hd, .inl ⟨rfl,rfl⟩⟩) ?_ ?_
 ·simp only[WkL,aB,jH,jI,jJ,cI,tms,go_sem,reduceIte,jA,jB,jC,jD,reduceCtorEq,jE,jF]
 rintro⟨i,o⟩ hp nx1 hCi
 obtain⟨hi,hle,hnx,hdm,hown⟩:=(hC _ _ _ _).1 hCi
 simp only[aB,go_sem,reduceIte,jA,jB,jC,jD,reduceCtorEq,jE,jF]
 refine wle tms.eq_1 ?_
 refine bU _ rfl (fun hc=>?_) (fun hc=>?_)
 ·have hlt:i<l.length:=by simpa using hc
  have hg:=bE Tm.v l i hlt
  refine wle (ee3 tms.eq_1 hg Tm.fits_v) ?_
  refine aM (mP l[i] _) rfl (aO _) ?_
  simp only[ go_sem,reduceIte,jA,jB,jC,jD,reduceCtorEq,jE,jF]
  refine wl ?_
  have hsucc:cI l (i+1)=if qH l i l[i]=true then aBy (cI l i) l[i] else cI l i:=by
   conv=>lhs;unfold cI
   rw[List.getElem?_eq_getElem hlt]
  --the inner loop
  refine aP (fun k:Nat=>aB 92 0 [(0,tms own l),(3,tms o (cI l i)),(4, .int .i64 i),(5, .bool (oR l i l[i] k)),(6, .int .i64 k)]) (fun k h2 nx2=>k≤l.length∧h2=hp∧nx1≤nx2) (fun k=>l.length-k) 0 ⟨Nat.zero_le _,rfl,Nat.le_refl _⟩ ?_ ?_
  ·simp only[WkL,aB,jH,jI,jJ,tms,oR,List.range_zero,List.any_nil,go_sem,reduceIte,jA,jB,jC,jD,reduceCtorEq,jE,jF]
  rintro k h2 nx2 ⟨hk,rfl,hnx2⟩
  generalize hQ:bG _ _ _ _ _=Q0
  simp only[aB,go_sem,reduceIte,jA,jB,jC,jD,reduceCtorEq,jE,jF]
  refine wle tms.eq_1 ?_
  refine bU _ rfl (fun hc2=>?_) (fun hc2=>?_)
  ·have hltk:k<l.length:=by simpa using hc2
   have hgk:=bE Tm.v l k hltk
   refine wl ?_
   refine dA rfl ?_
   refine bQ rfl (by simp only[tms,hgk,jK,jG,Tm.fits_v,go_sem,reduceIte,jA,jB,jC,jD,reduceCtorEq,jE,jF];try omega) ?_
   simp only[tms,hgk,jK,jG,Tm.fits_v,go_sem,reduceIte,jA,jB,jC,jD,reduceCtorEq,jE,jF]
   refine bF (mP l[k] Hp.none) rfl (bH _) ?_
   refine bQ rfl (by simp only[Tm.fits_v,go_sem,reduceIte,jA,jB,jC,jD,reduceCtorEq,jE,jF];try omega) ?_
   simp only[Tm.fits_v,go_sem,reduceIte,jA,jB,jC,jD,reduceCtorEq,jE,jF]
   refine vM (true) _ rfl rfl ?sla ?h1a ?h2a
   case h1a=>
    intro hgc hgd
    simp only[tms,hgk,hg,jK,jG,Tm.fits_v,go_sem,reduceIte,jA,jB,jC,jD,reduceCtorEq,jE,jF]
    refine bQ rfl (by simp only[tms,hgk,hg,jK,jG,Tm.fits_v,go_sem,reduceIte,jA,jB,jC,jD,reduceCtorEq,jE,jF];try omega) ?_
    simp only[tms,hgk,hg,jK,jG,Tm.fits_v,go_sem,reduceIte,jA,jB,jC,jD,reduceCtorEq,jE,jF]
    refine bF (aDi l[k] l[i] Hp.none) rfl (bH _) ?_
    refine bX ⟨?_,?_,?_⟩<;>exact rfl
   simp only[go_sem,reduceIte,jA,jB,jC,jD,reduceCtorEq,jE,jF]
   refine bQ rfl (by simp only[ go_sem,reduceIte,jA,jB,jC,jD,reduceCtorEq,jE,jF];try omega) ?_
   simp only[ go_sem,reduceIte,jA,jB,jC,jD,reduceCtorEq,jE,jF]
   refine vM (true) _ rfl rfl ?slb ?h1b ?h2b
   case h1b=>
    intro hgc hgd
    simp only[tms,hgk,hg,jK,jG,Tm.fits_v,zI,go_sem,reduceIte,jA,jB,jC,jD,reduceCtorEq,jE,jF]
    refine bQ rfl (by simp only[tms,hgk,hg,jK,jG,Tm.fits_v,zI,go_sem,reduceIte,jA,jB,jC,jD,reduceCtorEq,jE,jF];try omega) ?_
    simp only[tms,hgk,hg,jK,jG,Tm.fits_v,zI,go_sem,reduceIte,jA,jB,jC,jD,reduceCtorEq,jE,jF]
    refine bX ⟨?_,?_,?_⟩<;>exact rfl
   simp only[go_sem,reduceIte,jA,jB,jC,jD,reduceCtorEq,jE,jF]
   refine vM (_) _ rfl rfl ?slc ?h1c ?h2c
   case h1c=>
    intro hgc hgd
    simp only[ go_sem,reduceIte,jA,jB,jC,jD,reduceCtorEq,jE,jF]
    refine bQ rfl (by simp only[ go_sem,reduceIte,jA,jB,jC,jD,reduceCtorEq,jE,jF];try omega) ?_
    simp only[ go_sem,reduceIte,jA,jB,jC,jD,reduceCtorEq,jE,jF]
    refine bX ⟨?_,?_,?_⟩<;>exact rfl
   simp only[go_sem,reduceIte,jA,jB,jC,jD,reduceCtorEq,jE,jF]
   refine vM (true) _ rfl rfl ?sld ?h1d ?h2d
   case h1d=>
    intro hgc hgd
    simp only[hgd,go_sem,reduceIte,jA,jB,jC,jD,reduceCtorEq,jE,jF]
    refine bQ rfl (by simp only[hgd,go_sem,reduceIte,jA,jB,jC,jD,reduceCtorEq,jE,jF];try omega) ?_
    simp only[hgd,go_sem,reduceIte,jA,jB,jC,jD,reduceCtorEq,jE,jF]
    refine bX ⟨?_,?_,?_⟩<;>exact rfl
   simp only[go_sem,reduceIte,jA,jB,jC,jD,reduceCtorEq,jE,jF]
   refine bQ rfl (by simp only[ go_sem,reduceIte,jA,jB,jC,jD,reduceCtorEq,jE,jF];try omega) ?_
   simp only[ go_sem,reduceIte,jA,jB,jC,jD,reduceCtorEq,jE,jF]
   refine bX (cG ?_)
   simp only[go_sem,reduceIte,jA,jB,jC,jD,reduceCtorEq,jE,jF]
   refine aJ ?_
   have h3:decide ((k:Int)<i)=decide (k<i):=by simp
   refine bU _ rfl (fun hc3=>?_) (fun hc3=>?_)
   ·refine wl ?_
    rw[aV (by omega) (by omega)]
    rw[←hQ]
    refine aC (k+1) (by omega) ⟨by omega,rfl,by omega⟩ ?_
    have hkeep:oR l i l[i] (k+1)=false:=by
     rw[xV l i l[i] k hltk]
     revert hc3
     rw[h3]
     by_cases he:l[k]=l[i]<;>by_cases hki:k<i<;>cases l[k].ok<;>cases l[k].le l[i]<;>simp[he,hki]
    simp only[WkL,aB,jH,jI,jJ,tms,hkeep,go_sem,reduceIte,jA,jB,jC,jD,reduceCtorEq,jE,jF]
   refine wl ?_
   rw[aV (by omega) (by omega)]
   rw[←hQ]
   refine aC (k+1) (by omega) ⟨by omega,rfl,by omega⟩ ?_
   have hkeep:oR l i l[i] (k+1)=oR l i l[i] k:=by
    rw[xV l i l[i] k hltk]
    revert hc3
    rw[h3]
    by_cases he:l[k]=l[i]<;>by_cases hki:k<i<;>cases l[k].ok<;>cases l[k].le l[i]<;>simp[he,hki]
   simp only[WkL,aB,jH,jI,jJ,tms,hkeep,go_sem,reduceIte,jA,jB,jC,jD,reduceCtorEq,jE,jF]
  have hge:k=l.length:=by have:¬k<l.length:=by simpa using hc2
                          omega
  rw[←hQ]
  refine eT ?_
  repeat (first|with_reducible refine dK ?_|with_reducible refine cX ?_|with_reducible refine cT ?_|with_reducible refine aZ (by decide) ?_|with_reducible refine cF ?_|with_reducible refine aJ ?_)
  have hkr:oR l i l[i] k=qH l i l[i]:=by rw[hge];rfl
  rw[hkr]
  clear hQ Q0
  generalize hQ:fA 1 _=Q0
  refine wl ?_
  refine bU _ rfl (fun hc3=>?_) (fun hc3=>?_)
  ·have hkf:qH l i l[i]=false:=by simpa using hc3
   refine eT ?_
   repeat (first|with_reducible refine dK ?_|with_reducible refine cX ?_|with_reducible refine cT ?_|with_reducible refine aZ (by decide) ?_|with_reducible refine cF ?_|with_reducible refine aJ ?_)
   rw[←hQ]
   repeat (first|with_reducible refine dK ?_|with_reducible refine cX ?_|with_reducible refine cT ?_|with_reducible refine aZ (by decide) ?_|with_reducible refine cF ?_|with_reducible refine aJ ?_)
   refine wl ?_
   rw[aV (by omega) (by omega)]
   refine aC (i+1,o) (by simp only;omega) ((hC _ _ _ _).2 ⟨by omega,hle,by omega,hdm.up (by omega),?_⟩) ?_
   ·rw[hsucc,hkf];simpa using hown
   simp only[hkf,Bool.false_eq_true,if_false] at hsucc
   simp only[WkL,aB,jH,jI,jJ,tms,hsucc,go_sem,reduceIte,jA,jB,jC,jD,reduceCtorEq,jE,jF]
  have hkt:qH l i l[i]=true:=by simpa using hc3
  simp only[hkt,if_true] at hsucc
  refine wl ?_
  --the place
  refine aP (fun a:Nat=>aB 92 0 [(0,tms own l),(3,tms o (cI l i)),(4, .int .i64 i),(7, .int .i64 a)]) (fun a h2' nx3=>a≤(cI l i).length∧(∀x∈(cI l i).take a,x.less l[i]=true)∧h2'=h2∧nx1≤nx3) (fun a=>(cI l i).length-a) 0 ⟨Nat.zero_le _,by simp,rfl,by omega⟩ ?_ ?_
  ·simp only[WkL,aB,jH,jI,jJ,tms,go_sem,reduceIte,jA,jB,jC,jD,reduceCtorEq,jE,jF]
  rintro a h3 nx3 ⟨ha,hless,rfl,hnx3⟩
  generalize hQ3:bG _ _ _ _ _=Q3
  simp only[aB,go_sem,reduceIte,jA,jB,jC,jD,reduceCtorEq,jE,jF]
  refine wl ?_
  refine dA rfl ?_
  have hlenO:=aCc l i
  have fin:∀nx4,nx1≤nx4→(cI l i).takeWhile (·.less l[i])=(cI l i).take a→(cI l i).dropWhile (·.less l[i])=(cI l i).drop a→lwp Tryz.prog (.draw 15 L.corollaryref21_Of_r14 L.corollaryref21_Of_r14t) Q0 ⟨aB 92 0 [(0,tms own l),(3,tms o (cI l i)),(4, .int .i64 i),(7, .int .i64 a)],h3,nx4⟩:=by
   intro nx4 hnx4 w1 w2
   have hins:cI l (i+1)=(cI l i).take a++l[i]::(cI l i).drop a:=by rw[hsucc];unfold aBy;rw[w1,w2]
   simp only[aB,go_sem,reduceIte,jA,jB,jC,jD,reduceCtorEq,jE,jF]
   refine dA rfl ?_
   refine bQ rfl (by simp only[hg,tms,jK,List.length_take,List.length_drop,List.length_append,jG,Tm.fits_v,go_sem,reduceIte,jA,jB,jC,jD,reduceCtorEq,jE,jF];try omega) ?_
   simp only[hg,tms,jK,List.length_take,List.length_drop,List.length_append,jG,Tm.fits_v,go_sem,reduceIte,jA,jB,jC,jD,reduceCtorEq,jE,jF]
   have htk:(List.map Tm.v (cI l i)).take (cI l i).length=List.map Tm.v (cI l i):=by
    rw[List.take_of_length_le (by simp)]
   refine bX (dP ?_)
   simp only[go_sem,reduceIte,jA,jB,jC,jD,reduceCtorEq,jE,jF]
   refine wl ?_
   rw[←hQ]
   refine wl ?_
   rw[aV (by omega) (by omega)]
   refine aC (i+1, .tok (nx4+14)) (by simp only;omega) ((hC _ _ _ _).2 ⟨by omega,?_,by omega,?_, .inr ⟨nx4+14,by omega,rfl,?_,by rw[hins];simp⟩⟩) ?_
   ·repeat (first|exact hle|refine dW ?_ (aH.none hd (by omega)) _|refine nE ?_ (aH.none hd (by omega)))
   ·have hdm:=hdm.up hnx4
    repeat (first|exact aH.up hdm (by omega)|refine aH.set2 ?_ (by omega) _|refine aH.del ?_)
   ·simp only[go_sem,reduceIte,jA,jB,jC,jD,reduceCtorEq,jE,jF]
   simp only[WkL,aB,jH,jI,jJ,tms,hins,htk,List.map_append,List.map_cons,List.map_take,List.map_drop,List.append_assoc,go_sem,reduceIte,jA,jB,jC,jD,reduceCtorEq,jE,jF]
  refine bQ rfl (by simp only[tms,jK,go_sem,reduceIte,jA,jB,jC,jD,reduceCtorEq,jE,jF];try omega) ?_
  simp only[tms,jK,go_sem,reduceIte,jA,jB,jC,jD,reduceCtorEq,jE,jF]
  by_cases hal:a<(cI l i).length
  ·have hal':decide ((a:Int)<((cI l i).length:Int))=true:=by simpa using hal
   have hga:=bE Tm.v (cI l i) a hal
   simp only[hal',go_sem,reduceIte,jA,jB,jC,jD,reduceCtorEq,jE,jF]
   refine aFs (by simp only[hga,hg,tms,jK,jG,Tm.fits_v,go_sem,reduceIte,jA,jB,jC,jD,reduceCtorEq,jE,jF];try omega) ?_
   simp only[hga,hg,tms,jK,jG,Tm.fits_v,go_sem,reduceIte,jA,jB,jC,jD,reduceCtorEq,jE,jF]
   refine aAN rfl (fun _=>?_) (fun h=>absurd rfl h)
   refine bF (zX (cI l i)[a] l[i] Hp.none) rfl (bH _) ?_
   refine aFs (by simp only[ go_sem,reduceIte,jA,jB,jC,jD,reduceCtorEq,jE,jF];try omega) ?_
   simp only[ go_sem,reduceIte,jA,jB,jC,jD,reduceCtorEq,jE,jF]
   refine bX (cG ?_)
   simp only[go_sem,reduceIte,jA,jB,jC,jD,reduceCtorEq,jE,jF]
   refine aJ ?_
   refine bU _ rfl (fun hc4=>?_) (fun hc4=>?_)
   ·refine wl ?_
    rw[aV (by omega) (by omega)]
    rw[←hQ3]
    refine aC (a+1) (by omega) ⟨by omega,?_,rfl,by omega⟩ ?_
    ·intro x hx
     rw[List.take_succ_eq_append_getElem hal,List.mem_append,List.mem_singleton] at hx
     rcases hx with hx|rfl
     ·exact hless x hx
     exact hc4
    simp only[WkL,aB,jH,jI,jJ,tms,go_sem,reduceIte,jA,jB,jC,jD,reduceCtorEq,jE,jF]
   rw[←hQ3]
   refine eT ?_
   repeat (first|with_reducible refine dK ?_|with_reducible refine cX ?_|with_reducible refine cT ?_|with_reducible refine aZ (by decide) ?_|with_reducible refine cF ?_)
   obtain⟨w1,w2⟩:=tJ (fun x:Tm=>x.less l[i]) (cI l i) a ha hless (fun h=>by simpa using hc4)
   refine qX _ (iY ?_ (Hp.le_refl _) (Nat.le_refl _)) (fin _ (by omega) w1 w2)
   simp only[WkL,aB,jH,jI,jJ,tms,go_sem,reduceIte,jA,jB,jC,jD,reduceCtorEq,jE,jF]
  have hal':decide ((a:Int)<((cI l i).length:Int))=false:=by simpa using hal
  simp only[hal',go_sem,reduceIte,jA,jB,jC,jD,reduceCtorEq,jE,jF]
  refine vM true _ rfl rfl [] (fun _ h=>absurd h (by simp)) ?_
  simp only[go_sem,reduceIte,jA,jB,jC,jD,reduceCtorEq,jE,jF]
  refine bQ rfl (by simp only[ go_sem,reduceIte,jA,jB,jC,jD,reduceCtorEq,jE,jF];try omega) ?_
  simp only[ go_sem,reduceIte,jA,jB,jC,jD,reduceCtorEq,jE,jF]
  refine bX (cG ?_)
  simp only[go_sem,reduceIte,jA,jB,jC,jD,reduceCtorEq,jE,jF]
  refine aJ ?_
  refine bU _ rfl (fun hc4=>?_) (fun hc4=>?_)
  ·cases hc4
  rw[←hQ3]
  refine eT ?_
  repeat (first|with_reducible refine dK ?_|with_reducible refine cX ?_|with_reducible refine cT ?_|with_reducible refine aZ (by decide) ?_|with_reducible refine cF ?_)
  obtain⟨w1,w2⟩:=tJ (fun x:Tm=>x.less l[i]) (cI l i) a ha hless (fun h=>absurd h hal)
  refine qX _ (iY ?_ (Hp.le_refl _) (Nat.le_refl _)) (fin _ (by omega) w1 w2)
  simp only[WkL,aB,jH,jI,jJ,tms,go_sem,reduceIte,jA,jB,jC,jD,reduceCtorEq,jE,jF]
 have hge:i=l.length:=by have:¬i<l.length:=by simpa using hc
                         omega
 refine eT ?_
 repeat (first|with_reducible refine dK ?_|with_reducible refine cX ?_|with_reducible refine cT ?_|with_reducible refine aZ (by decide) ?_|with_reducible refine cF ?_|with_reducible refine aJ ?_)
 refine wl ?_
 refine bJ (aF hp (Hp.le_refl _) ⟨?_,hle⟩)
 simp only[go_sem,reduceIte,jA,jB,jC,jD,reduceCtorEq,jE,jF]
 rw[hge] at hown⊢
 rcases hown with⟨rfl,h1⟩|⟨id,hid,rfl,htip,hne⟩
 ·rw[h1];rfl
 generalize cI l l.length=r at hne⊢
 cases r with
 |nil=>exact absurd rfl hne
 |cons x r=>rfl
end Go.Proofs.YtemjhgboialjpaaGreat
namespace Go.Proofs.YtemjhgboialjpaaGreat
open Go.ChangeShapes Go.WideShapes Go.ChangeAt Go.RowKit
theorem aBC(own:Own)(l:List Tm)(h:Hp)(hl:l.length≤1000000):aW Tryz.prog 89 [tms own l] h (lst (.agg 2) (l.map Tm.v)):=by
 refine cK (fun L=>cE (fun L=>bI (Tm.names_v L) _) L) fun h' nx hh=>?_
 have c:=aAP own l h' nx hl
 refine⟨c.1,fun K cargs hlv hr hv=>((c.mono (R':=fun v' h'' _=>v'.loose=lst (.agg 2) (l.map Tm.v)∧h'.le h'') ?_).2 K cargs hlv hr hv)⟩
 rintro v h'' nx' hnx ⟨rfl,rfl⟩
 have hd:aH h' nx:=fun m b hm=>hlv m (hr.lt m b hm)
 cases l with
 |nil=>exact⟨rfl,Hp.le_refl _⟩
 |cons t l=>exact⟨rfl,dW (Hp.le_refl _) (hd.none (by omega)) _⟩
end Go.Proofs.YtemjhgboialjpaaGreat
namespace Go.Proofs.YtemjhgboialjpaaGreat
open Go.ChangeShapes Go.WideShapes Go.ChangeAt Go.RowKit
theorem aLv{a k:Nat}:(a=a+1+(k+1))=False:=xQ (by omega)
theorem aLj{a k:Nat}:(a+1+(k+1)=a)=False:=xQ (by omega)
attribute [local go_sem] aLv aLj
theorem aEg(own own':Own)(a b:List Tm)(ha:a.length≤1000000000)(h:Hp):
 aW Tryz.prog 88 [tms own a,tms own' b] h (.bool (decide (a=b))):=by
 refine aR (fun L=>trivial) fun h' nx hh=>aD L.corollaryref21_Same_low fun hd=>?_
 simp only[jL,jM,jA,jB,jN,jO,jP,jQ,V.undef]
 refine wle tms.eq_1 ?_
 refine bU _ rfl (fun hc=>?_) (fun hc=>?_)
 ·refine wl ?_
  refine bJ ?_
  repeat (first|with_reducible refine fT ?_|with_reducible refine dT ?_|with_reducible refine eE ?_|with_reducible refine eF ?_)
  refine aF h' (Hp.le_refl _) ⟨?_,rfl⟩
  have:a≠b:=by rintro rfl;simp at hc
  simp only[this,go_sem,reduceIte,jA,jB,jC,jD,reduceCtorEq,jE,jF]
 have hab:a.length=b.length:=by
  have:((a.length:Int))=b.length:=by simpa using hc
  omega
 refine wl ?_
 refine aP (fun i:Nat=>aB 26 0 [(0,tms own a),(1,tms own' b),(5, .int .i64 i)]) (fun i h2 nx2=>i≤a.length∧a.take i=b.take i∧h2=h') (fun i=>a.length-i) 0 ⟨Nat.zero_le _,rfl,rfl⟩ ?_ ?_
 ·simp only[WkL,aB,jH,jI,jJ,tms,go_sem,reduceIte,jA,jB,jC,jD,reduceCtorEq,jE,jF]
 rintro i h2 nx2 ⟨hi,hno,rfl⟩
 generalize hQ:bG _ _ _ _ _=Q0
 simp only[aB,go_sem,reduceIte,jA,jB,jC,jD,reduceCtorEq,jE,jF]
 refine wle tms.eq_1 ?_
 refine bU _ rfl (fun hc=>?_) (fun hc=>?_)
 ·have hlt:i<a.length:=by simpa using hc
  have hlt':i<b.length:=by omega
  have hg:=bE Tm.v a i hlt
  have hg':=bE Tm.v b i hlt'
  refine wl ?_
  refine dA rfl ?_
  refine bQ rfl (by simp only[tms,hg,hg',zI,Tm.fits_v,jG,jK,go_sem,reduceIte,jA,jB,jC,jD,reduceCtorEq,jE,jF];try omega) ?_
  simp only[tms,hg,hg',zI,Tm.fits_v,jG,jK,go_sem,reduceIte,jA,jB,jC,jD,reduceCtorEq,jE,jF]
  refine bX (cG ?_)
  simp only[go_sem,reduceIte,jA,jB,jC,jD,reduceCtorEq,jE,jF]
  refine aJ ?_
  rw[←hQ]
  refine bU _ rfl (fun hc=>?_) (fun hc=>?_)
  ·refine wl ?_
   refine bJ ?_
   repeat (first|with_reducible refine fT ?_|with_reducible refine dT ?_|with_reducible refine eE ?_|with_reducible refine eF ?_)
   refine aF h2 (Hp.le_refl _) ⟨?_,rfl⟩
   have hne:a[i]≠b[i]:=by simpa using hc
   have:a≠b:=by rintro rfl;exact hne rfl
   simp only[this,go_sem,reduceIte,jA,jB,jC,jD,reduceCtorEq,jE,jF]
  refine wl ?_
  have he:a[i]=b[i]:=by simpa using hc
  rw[aV (by omega) (by omega)]
  refine aC (i+1) (by omega) ⟨by omega,?_,rfl⟩ ?_
  ·rw[List.take_succ_eq_append_getElem hlt,List.take_succ_eq_append_getElem hlt',hno,he]
  simp only[WkL,aB,jH,jI,jJ,tms,go_sem,reduceIte,jA,jB,jC,jD,reduceCtorEq,jE,jF]
 have hge:i=a.length:=by have:¬i<a.length:=by simpa using hc
                         omega
 rw[←hQ]
 refine eT ?_
 repeat (first|with_reducible refine dK ?_|with_reducible refine cX ?_|with_reducible refine cT ?_|with_reducible refine aZ (by decide) ?_|with_reducible refine cF ?_|with_reducible refine aJ ?_)
 refine wl ?_
 refine bJ (aF h2 (Hp.le_refl _) ⟨?_,rfl⟩)
 have:a=b:=by
  rw[hge,List.take_length] at hno
  rw[hno,hab,List.take_length]
 simp only[this,go_sem,reduceIte,jA,jB,jC,jD,reduceCtorEq,jE,jF]
theorem aKi(own own':Own)(a b:List Tm)(ha:a.length≤1000000)(h:Hp):aW Tryz.prog 29 [tms own a,tms own' b] h (.bool (decide (a=b))):=by
 refine aR (fun L=>trivial) fun h' nx hh=>aD L.corollarylaw21_Is_low fun hd=>?_
 simp only[jL,jM,jA,jB,jN,jO,jP,jQ,V.undef]
 refine wl ?_
 refine aM (aBC own a _ ha) rfl (aO _) ?_
 obtain⟨o2,ho2⟩:=gY (.agg 2) (a.map Tm.v)
 rw[ho2]
 simp only[go_sem,reduceIte,jA,jB,jC,jD,reduceCtorEq,jE,jF]
 refine wl ?_
 refine aM (aEg o2 own' a b (by omega) _) rfl (aO _) ?_
 simp only[go_sem,reduceIte,jA,jB,jC,jD,reduceCtorEq,jE,jF]
 refine wl ?_
 exact bJ (aF h' (Hp.le_refl _) ⟨rfl,rfl⟩)
end Go.Proofs.YtemjhgboialjpaaGreat
namespace Go.Proofs.YtemjhgboialjpaaGreat
open Go.ChangeShapes Go.WideShapes Go.ChangeAt Go.RowKit
end Go.Proofs.YtemjhgboialjpaaGreat
namespace Go.Proofs.YtemjhgboialjpaaGreat
open Go.RowKit
theorem kG(l:List Tm):jX (ofT l):=by rw[aAa];exact(qZ l l.length).1
theorem lC(l:List Tm)(x:Tm):x∈ofT l↔pE l x:=by rw[aAa];exact xM l x
theorem Tm.le_antisymm{a b:Tm}(h1:a.le b=true)(h2:b.le a=true):a=b:=by
 cases a;cases b
 simp[Tm.le] at*
 omega
theorem xS(l:List Tm):∀(n:Nat) (y:Tm),(y.e+y.r).toNat≤n→y∈l→y.ok=true→∃z,pE l z∧z.le y=true
 |n,y,hn,hy,ho=>by
  by_cases h:∃y',y'∈l∧y'.ok=true∧y'.le y=true∧y'≠y
  ·obtain⟨y',h1,h2,h3,h4⟩:=h
   have hlt:(y'.e+y'.r).toNat<(y.e+y.r).toNat:=by
    have e1:¬(y'.e=y.e∧y'.r=y.r):=fun e=>h4 (by cases y;cases y';simp at e;simp[e])
    simp[Tm.le,Tm.ok] at h2 h3 ho
    omega
   cases n with
   |zero=>omega
   |succ n=>
    obtain⟨z,q1,q2⟩:=xS l n y' (by omega) h1 h2
    exact⟨z,q1,Tm.le_trans q2 h3⟩
  exact⟨y,⟨hy,ho,fun y' h1 h2 h3=>Decidable.byContradiction fun h4=>h ⟨y',h1,h2,h3,h4⟩⟩,Tm.le_refl y⟩
theorem rC{l:List Tm}{y:Tm}(hy:y∈l)(ho:y.ok=true):∃z∈ofT l,z.le y=true:=by
 obtain⟨z,h1,h2⟩:=xS l _ y (Nat.le_refl _) hy ho
 exact⟨z,(lC l z).2 h1,h2⟩
theorem kR{l:List Tm}{x:Tm}(h:x∈ofT l):x.ok=true∧x∈l:=⟨((lC l x).1 h).2.1,((lC l x).1 h).1⟩
theorem aCl{a b:List Tm}(h:∀x:Tm,x.ok=true→(x∈a↔x∈b)):ofT a=ofT b:=by
 refine kL (kG a) (kG b) fun x=>?_
 rw[lC,lC]
 constructor
 ·rintro⟨h1,h2,h3⟩;exact⟨(h x h2).1 h1,h2,fun y hy ho=>h3 y ((h y ho).2 hy) ho⟩
 rintro⟨h1,h2,h3⟩;exact⟨(h x h2).2 h1,h2,fun y hy ho=>h3 y ((h y ho).1 hy) ho⟩
theorem aIS(l:List Tm):ofT (ofT l)=ofT l:=by
 refine kL (kG _) (kG l) fun x=>?_
 rw[lC]
 constructor
 ·exact fun h=>h.1
 intro h
 refine⟨h,(kR h).1,fun y hy ho hle=>((lC l x).1 h).2.2 y (kR hy).2 ho hle⟩
end Go.Proofs.YtemjhgboialjpaaGreat
namespace Go.Proofs.YtemjhgboialjpaaGreat
open Go.RowKit
attribute [local irreducible] IntKind.wrap
end Go.Proofs.YtemjhgboialjpaaGreat
