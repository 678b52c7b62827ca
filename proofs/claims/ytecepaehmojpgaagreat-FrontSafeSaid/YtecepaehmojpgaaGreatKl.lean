/-
Texts of this proof,one behind the other. No conditions.
-/
import Derived.Test.YtecepaehmojpgaaGreatKf
import Derived.Test.YtecepaehmojpgaaGreatKd
import Derived.Test.YtecepaehmojpgaaGreatKe
import Derived.Test.YtecepaehmojpgaaGreatKg
open Nat renaming reduceAdd→jA,reduceSub→jB,reduceLT→jC,reduceLeDiff→jD,reduceEqDiff→jE
open Int renaming reduceToNat→jF,toNat_natCast→jG,natCast_add→jH,natCast_one→jI,natCast_zero→jJ
open List renaming length_map→jK,length_cons→jL,length_nil→jM,replicate_succ→jN,replicate_zero→jO,cons_append→jP,nil_append→jQ
set_option linter.unusedSimpArgs false
set_option linter.unusedVariables false
set_option linter.unusedSectionVars false
namespace Go.Proofs.YtecepaehmojpgaaGreat
open Go.RowKit
attribute [local go_sem] oS iL aA.ok aA.next LOp.ok LOp.next bD.ok bD.out aL.ev bF aDU mL lA tV V.fits V.leafy V.cells V.cell V.undef cJ bY bR Sh.size Hp.set Hp.del nZ iQ vH gU aA.dok aA.dres LOp.dok LOp.dout aDF aBu mU cZ xD Hp.turn veq hZ iO List.take_succ_cons List.take_zero List.take_nil List.drop_succ_cons List.drop_zero List.drop_nil List.set_cons_succ List.set_cons_zero List.getD_cons_succ List.getD_cons_zero jL jM List.map_cons List.map_nil List.all_cons List.all_nil List.mem_cons List.not_mem_nil jN jO jP jQ List.append_nil List.isEmpty_cons List.isEmpty_nil fF eQ tK Option.getD_some Option.isSome_some Option.isSome_none Nat.add_eq Nat.zero_add Nat.add_zero true_and and_true and_self true_implies implies_true false_implies forall_const forall_eq forall_eq_or_imp ne_eq not_false_eq_true not_true_eq_false Bool.not_true Bool.not_false decide_true decide_false Bool.and_true Bool.true_and Bool.and_false Bool.false_and true_or or_true false_or or_false eq_self Bool.false_eq_true aKi aIb mI aB dT eP gH tD pZ tC jS lK dX jG Int.toNat_zero List.take_length
theorem aAo(x t:Tm)(n:Nat)(h:Hp)(hn:h n=some (.arr (.agg 2) [t.v])):aZ Tryz.prog 112 [x.v, .ptr n (.agg 2) 0 0] h (.bool (x.le t)):=by
 refine aU (fun L=>trivial) fun h' nx hh=>aD L.chain_Reaches_1_low fun hd=>?_
 simp only[jL,jM,jA,jB,jN,jO,jP,jQ,V.undef]
 have hn':=hh _ _ hn rfl
 have hlt:=hd _ _ hn'
 have hne:(n=nx)=False:=by simp;omega
 have hne2:(n=nx+1)=False:=by simp;omega
 refine bI (bN ?_)
 refine bB 2 rfl (by simp only[L.chain_Reaches_1_r0,Tm.v,go_sem,reduceIte,jA,jB,jC,jD,reduceCtorEq,jE,jF];try omega) ?_
 simp only[L.chain_Reaches_1_r0,Tm.v,go_sem,reduceIte,jA,jB,jC,jD,reduceCtorEq,jE,jF]
 refine aO (bI (bN ?_))
 simp only[Tm.v] at hn'
 refine bB 2 rfl (by simp only[L.chain_Reaches_1_r1,Tm.v,hn',hne,go_sem,reduceIte,jA,jB,jC,jD,reduceCtorEq,jE,jF];try omega) ?_
 simp only[L.chain_Reaches_1_r1,Tm.v,hn',hne,go_sem,reduceIte,jA,jB,jC,jD,reduceCtorEq,jE,jF]
 refine aQ (wJ x t _) (by simp only[Tm.v,go_sem,reduceIte,jA,jB,jC,jD,reduceCtorEq,jE,jF]) (aR _) ?_
 simp only[go_sem,reduceIte,jA,jB,jC,jD,reduceCtorEq,jE,jF]
 refine bB 1 rfl (by simp only[L.chain_Reaches_1_r1,go_sem,reduceIte,jA,jB,jC,jD,reduceCtorEq,jE,jF];try omega) ?_
 simp only[L.chain_Reaches_1_r1,go_sem,reduceIte,jA,jB,jC,jD,reduceCtorEq,jE,jF]
 refine aO (bU (aG h' (aJ hd (Hp.le_refl _) (by omega) _) ⟨?_,rfl⟩))
 simp only[go_sem,reduceIte,jA,jB,jC,jD,reduceCtorEq,jE,jF]
theorem sB(own:Own)(l:List Tm)(t:Tm)(h:Hp)(hl:l.length≤1000000):aZ Tryz.prog 78 [tms own l,t.v] h (.bool (l.any fun x=>x.le t)):=by
 refine aU (fun L=>trivial) fun h' nx hh=>aD L.chain_Reaches_low fun hd=>?_
 simp only[jL,jM,jA,jB,jN,jO,jP,jQ,V.undef]
 refine bI (bN ?_)
 refine bB 2 rfl (by simp only[L.chain_Reaches_r0,Tm.v,go_sem,reduceIte,jA,jB,jC,jD,reduceCtorEq,jE,jF];try omega) ?_
 simp only[L.chain_Reaches_r0,Tm.v,go_sem,reduceIte,jA,jB,jC,jD,reduceCtorEq,jE,jF]
 refine aO (bI (bN ?_))
 refine bB 2 rfl (by simp only[L.chain_Reaches_r1,Tm.v,go_sem,reduceIte,jA,jB,jC,jD,reduceCtorEq,jE,jF];try omega) ?_
 simp only[L.chain_Reaches_r1,Tm.v,go_sem,reduceIte,jA,jB,jC,jD,reduceCtorEq,jE,jF]
 refine aQ (lU (fun x=>x.le t) own l _ _ _ (fun x=>aAo x t nx _ (by simp[Tm.v,Hp.set])) hl) (by simp only[Tm.v,go_sem,reduceIte,jA,jB,jC,jD,reduceCtorEq,jE,jF]) (aR _) ?_
 simp only[go_sem,reduceIte,jA,jB,jC,jD,reduceCtorEq,jE,jF]
 refine bB 1 rfl (by simp only[L.chain_Reaches_r1,go_sem,reduceIte,jA,jB,jC,jD,reduceCtorEq,jE,jF];try omega) ?_
 simp only[L.chain_Reaches_r1,go_sem,reduceIte,jA,jB,jC,jD,reduceCtorEq,jE,jF]
 refine aO (bU (aG h' (aJ hd (Hp.le_refl _) (by omega) _) ⟨?_,rfl⟩))
 simp only[go_sem,reduceIte,jA,jB,jC,jD,reduceCtorEq,jE,jF]
theorem aCu(x:Tm)(own:Own)(a:List Tm)(n:Nat)(h:Hp)(hn:h n=some (.arr .leaf [tms own a]))(hl:a.length≤1000000):aZ Tryz.prog 77 [x.v, .ptr n .leaf 0 0] h (.bool (!(a.any fun y=>y.le x))):=by
 refine aU (fun L=>trivial) fun h' nx hh=>aD L.chain_AtMost_1_low fun hd=>?_
 simp only[jL,jM,jA,jB,jN,jO,jP,jQ,V.undef]
 have hn':=hh _ _ hn rfl
 have hlt:=hd _ _ hn'
 have hne:(n=nx)=False:=by simp;omega
 refine bI (bN ?_)
 refine bB 2 rfl (by simp only[L.chain_AtMost_1_r0,Tm.v,go_sem,reduceIte,jA,jB,jC,jD,reduceCtorEq,jE,jF];try omega) ?_
 simp only[L.chain_AtMost_1_r0,Tm.v,go_sem,reduceIte,jA,jB,jC,jD,reduceCtorEq,jE,jF]
 refine aO (bI (bN ?_))
 refine bB 2 rfl (by simp only[L.chain_AtMost_1_r1,Tm.v,hn',hne,go_sem,reduceIte,jA,jB,jC,jD,reduceCtorEq,jE,jF];try omega) ?_
 simp only[L.chain_AtMost_1_r1,Tm.v,hn',hne,go_sem,reduceIte,jA,jB,jC,jD,reduceCtorEq,jE,jF]
 refine aQ (sB own a x _ hl) (by simp only[Tm.v,tms,go_sem,reduceIte,jA,jB,jC,jD,reduceCtorEq,jE,jF]) (aR _) ?_
 simp only[go_sem,reduceIte,jA,jB,jC,jD,reduceCtorEq,jE,jF]
 refine bB 2 rfl (by simp only[L.chain_AtMost_1_r1,go_sem,reduceIte,jA,jB,jC,jD,reduceCtorEq,jE,jF];try omega) ?_
 simp only[L.chain_AtMost_1_r1,go_sem,reduceIte,jA,jB,jC,jD,reduceCtorEq,jE,jF]
 refine aO (bU (aG h' (aJ hd (Hp.le_refl _) (by omega) _) ⟨?_,rfl⟩))
 simp only[go_sem,reduceIte,jA,jB,jC,jD,reduceCtorEq,jE,jF]
theorem vL(own own':Own)(a b:List Tm)(h:Hp)(ha:a.length≤1000000)(hb:b.length≤1000000):aZ Tryz.prog 47 [tms own a,tms own' b] h (.bool (!(b.any fun x=> !(a.any fun y=>y.le x)))):=by
 refine aU (fun L=>trivial) fun h' nx hh=>aD L.chain_AtMost_low fun hd=>?_
 simp only[jL,jM,jA,jB,jN,jO,jP,jQ,V.undef]
 refine bI (bN ?_)
 refine bB 2 rfl (by simp only[L.chain_AtMost_r0,tms,go_sem,reduceIte,jA,jB,jC,jD,reduceCtorEq,jE,jF];try omega) ?_
 simp only[L.chain_AtMost_r0,tms,go_sem,reduceIte,jA,jB,jC,jD,reduceCtorEq,jE,jF]
 refine aO (bI (bN ?_))
 refine bB 2 rfl (by simp only[L.chain_AtMost_r1,tms,go_sem,reduceIte,jA,jB,jC,jD,reduceCtorEq,jE,jF];try omega) ?_
 simp only[L.chain_AtMost_r1,tms,go_sem,reduceIte,jA,jB,jC,jD,reduceCtorEq,jE,jF]
 refine aQ (lU (fun x=> !(a.any fun y=>y.le x)) own' b _ _ _ (fun x=>aCu x own a nx _ (by simp[tms,Hp.set]) ha) hb) (by simp only[tms,go_sem,reduceIte,jA,jB,jC,jD,reduceCtorEq,jE,jF]) (aR _) ?_
 simp only[go_sem,reduceIte,jA,jB,jC,jD,reduceCtorEq,jE,jF]
 refine bB 2 rfl (by simp only[L.chain_AtMost_r1,go_sem,reduceIte,jA,jB,jC,jD,reduceCtorEq,jE,jF];try omega) ?_
 simp only[L.chain_AtMost_r1,go_sem,reduceIte,jA,jB,jC,jD,reduceCtorEq,jE,jF]
 refine aO (bU (aG h' (aJ hd (Hp.le_refl _) (by omega) _) ⟨?_,rfl⟩))
 simp only[go_sem,reduceIte,jA,jB,jC,jD,reduceCtorEq,jE,jF]
end Go.Proofs.YtecepaehmojpgaaGreat
namespace Go.Proofs.YtecepaehmojpgaaGreat
open Go.RowKit Go.Sort
theorem Tm.fits_v(t:Tm):t.v.fits (.agg 2)=true:=by simp[Tm.v,V.fits,V.leafy]
theorem sO:aH Tryz.prog 140=some (LB.SortedFunc (.agg 2) 152 153):=by kernel_rfl
theorem yL:aH Tryz.prog 152=some (LB.Collect (.agg 2) 182):=by kernel_rfl
theorem uU:aH Tryz.prog 182=some (LB.AppendSeq (.agg 2) (.agg [.int .i64 0, .int .i64 0]) 16):=by kernel_rfl
theorem aAv:aH Tryz.prog 141=some (LB.Values (.agg 2) 154):=by kernel_rfl
theorem wP:aH Tryz.prog 154=some (LB.ValuesIt (.agg 2) (.agg [.int .i64 0, .int .i64 0])):=by kernel_rfl
def mE(a b:Tm):Int:=orI [jX a.e b.e,jX a.r b.r]
theorem aHh(a b:Tm):aZ Tryz.prog 126 [a.v,b.v] Hp.none (.int .i64 (mE a b)):=by
 refine aU (fun L=>trivial) fun h' nx hh=>aD L.stamp_Compare_low fun hd=>?_
 simp only[jL,jM,jA,jB,jN,jO,jP,jQ,V.undef]
 refine wle Tm.v.eq_1 ?_
 refine eU rfl ?_
 refine dI rfl (by simp only[Tm.v,go_sem,reduceIte,jA,jB,jC,jD,reduceCtorEq,jE,jF];try omega) ?_
 simp only[Tm.v,go_sem,reduceIte,jA,jB,jC,jD,reduceCtorEq,jE,jF]
 refine bL (rM rE aBZ a.e b.e Hp.none) rfl (bX _) ?_
 refine dI rfl (by simp only[Tm.v,go_sem,reduceIte,jA,jB,jC,jD,reduceCtorEq,jE,jF];try omega) ?_
 simp only[Tm.v,go_sem,reduceIte,jA,jB,jC,jD,reduceCtorEq,jE,jF]
 refine bL (rM rE aBZ a.r b.r Hp.none) rfl (bX _) ?_
 refine dI rfl (by simp only[Tm.v,go_sem,reduceIte,jA,jB,jC,jD,reduceCtorEq,jE,jF];try omega) ?_
 simp only[Tm.v,go_sem,reduceIte,jA,jB,jC,jD,reduceCtorEq,jE,jF]
 refine bL (aAY aBj _ [jX a.e b.e,jX a.r b.r] (by simp) Hp.none) rfl (bX _) ?_
 refine dI rfl (by simp only[Tm.v,go_sem,reduceIte,jA,jB,jC,jD,reduceCtorEq,jE,jF];try omega) ?_
 simp only[Tm.v,go_sem,reduceIte,jA,jB,jC,jD,reduceCtorEq,jE,jF]
 refine dH (dN ?_)
 simp only[go_sem,reduceIte,jA,jB,jC,jD,reduceCtorEq,jE,jF]
 refine aO (bU (aG h' ?_ ⟨rfl,rfl⟩))
 exact(by repeat (first|exact Hp.le_refl _|refine aJ hd ?_ (by omega) _|refine aK hd ?_ (by omega)))
theorem mW:(∀a b,jX a b<0↔a<b)∧∀a b,jX a b=0↔a=b:=by
 constructor<;>intro a b<;>unfold jX<;>(repeat' split)<;>omega
theorem aFU(a b:Tm):(mE a b<0)↔(a.e<b.e∨(a.e=b.e∧a.r<b.r)):=by
 have h1:=mW.1 a.e b.e
 have h2:=mW.2 a.e b.e
 have h3:=mW.1 a.r b.r
 unfold mE orI
 split
 ·rename_i h0
  have he:=h2.1 h0
  unfold orI
  split
  ·rename_i h4
   have:=(mW.2 a.r b.r).1 h4
   unfold orI
   omega
  omega
 rename_i h0
 have:a.e≠b.e:=fun h=>h0 (h2.2 h)
 omega
theorem tY(a b:Tm):ltOf mE a b=decide (a.e<b.e∨(a.e=b.e∧a.r<b.r)):=by
 unfold ltOf
 rw[Bool.eq_iff_iff]
 simp[aFU]
theorem aCE:SWO (ltOf mE):=by
 refine⟨fun x=>?_,fun x y z=>?_,fun x y z=>?_⟩<;>simp only[tY,decide_eq_true_eq,decide_eq_false_iff_not]<;>omega
theorem aHI(x y:Tm)(h1:ltOf mE x y=false)(h2:ltOf mE y x=false):x=y:=by
 simp only[tY,decide_eq_false_iff_not] at h1 h2
 cases x;cases y
 simp only[Tm.mk.injEq] at*
 omega
theorem aAk(own:Own)(l:List Tm)(hl:l.length≤1000000):
 aZ Tryz.prog 140 [.fn (.func 154) [] [.ept .leaf [(tms own l).loose] 0 0], .fn (.func 126) [] []] Hp.none (lst (.agg 2) ((dF mE l).map Tm.v)):=by
 have hs:∃own',(tms own l).loose=tms own' l:=by cases own<;>exact⟨_,rfl⟩
 obtain⟨own',hs⟩:=hs
 rw[hs]
 exact wM Tm.v aKa Tm.fits_v (fun x L=>x.names_v L) (by intro w;exact Tryz.isAgg35 w) (by intro w;exact Tryz.sizeOf35 w) (by kernel_rfl) sO yL uU rfl (by omega) rfl _ _ Hp.none l
  (rV Tm.v Tm.fits_v wP rfl own' l (by omega)) (by omega) mE aCE aHI _ [] (fun x y=>by simpa using aHh x y)
def gP:List Tm→List Tm→List Tm
 |out,[]=>out
 |out,t::l=>gP (if t.ok&& !(out.any fun x=>x.le t) then out++[t] else out) l
def ofT(l:List Tm):List Tm:=gP [] (dF mE l)
theorem aCW(out l:List Tm):(gP out l).length≤out.length+l.length:=by
 induction l generalizing out with
 |nil=>simp[gP]
 |cons t l ih=>
  unfold gP
  refine Nat.le_trans (ih _) ?_
  split<;>simp<;>omega
theorem aJp(l:List Tm):(ofT l).length≤l.length:=by
 have:=aCW [] (dF mE l)
 simpa [ofT,(dE mE l).length_eq] using this
theorem aBc(out l:List Tm)(t:Tm):gP out (l++[t])=if (t.ok&& !((gP out l).any fun x=>x.le t))=true then gP out l++[t] else gP out l:=by
 induction l generalizing out with
 |nil=>simp[gP]
 |cons x l ih=>simp only[jP,gP];exact ih _
theorem aCq(own:Own)(l:List Tm)(hl:l.length≤1000000)(h:Hp):aZ Tryz.prog 110 [tms own l] h (lst (.agg 2) ((ofT l).map Tm.v)):=by
 refine gN (fun L=>eV (fun L=>cF (Tm.names_v L) _) L) fun h' nx hh=>aD L.chain_Of_low fun hd=>?_
 simp only[jL,jM,jA,jB,jN,jO,jP,jQ,V.undef]
 refine wl ?_
 refine aQ (xF aAv own (l.map Tm.v) (fun L=>cF (Tm.names_v L) _) Hp.none) rfl (bX _) ?_
 simp only[go_sem,reduceIte,jA,jB,jC,jD,reduceCtorEq,jE,jF]
 refine aQ (aAk own l hl) rfl (bX _) ?_
 simp only[go_sem,reduceIte,jA,jB,jC,jD,reduceCtorEq,jE,jF]
 obtain⟨S,hS⟩:∃S,S=dF mE l:=⟨_,rfl⟩
 have hSl:S.length=l.length:=by rw[hS];exact(dE mE l).length_eq
 rw[←hS]
 obtain⟨ow,how⟩:=mC (.agg 2) (S.map Tm.v)
 rw[how]
 refine wle trivial ?_
 obtain⟨C,hC⟩:∃C:Nat×Own→Hp→Nat→Prop,∀i o hp nx1,C (i,o) hp nx1↔(i≤S.length∧h'.le hp∧nx≤nx1∧aM hp nx1∧((o= .nil∧gP [] (S.take i)=[])∨∃id,nx≤id∧o= .tok id∧hp id=some .tip∧gP [] (S.take i)≠ [])):=⟨fun p hp nx1=>(p.1≤S.length∧h'.le hp∧nx≤nx1∧aM hp nx1∧((p.2= .nil∧gP [] (S.take p.1)=[])∨∃id,nx≤id∧p.2= .tok id∧hp id=some .tip∧gP [] (S.take p.1)≠ [])),fun _ _ _ _=>Iff.rfl⟩
 refine aY (fun p=>aB 28 0 [(3,tms p.2 (gP [] (S.take p.1))),(8, .sl (.agg 2) ow (S.map Tm.v)),(9, .int .i64 S.length),(10, .int .i64 p.1)]) C (fun p=>S.length-p.1) (0, .nil) ((hC _ _ _ _).2 ⟨Nat.zero_le _,Hp.le_refl _,Nat.le_refl _,hd, .inl ⟨rfl,by simp[gP]⟩⟩) ?_ ?_
 ·simp only[WkL,aB,jH,jI,jJ,gP,tms,go_sem,reduceIte,jA,jB,jC,jD,reduceCtorEq,jE,jF]
 rintro⟨i,o⟩ hp nx1 hCi
 obtain⟨hi,hle,hnx,hdm,hown⟩:=(hC _ _ _ _).1 hCi
 simp only[aB,go_sem,reduceIte,jA,jB,jC,jD,reduceCtorEq,jE,jF]
 refine wl ?_
 refine cP _ rfl (fun hc=>?_) (fun hc=>?_)
 ·have hlt:i<S.length:=by simpa using hc
  have hg:=cE Tm.v S i hlt
  have htk:S.take (i+1)=S.take i++[S[i]]:=List.take_succ_eq_append_getElem hlt
  have hlen:(gP [] (S.take i)).length≤1000000:=Nat.le_trans (aCW _ _) (by simp;omega)
  refine wle (ee2 hg Tm.fits_v) ?_
  refine aQ (nC S[i] _) rfl (aR _) ?_
  simp only[ go_sem,reduceIte,jA,jB,jC,jD,reduceCtorEq,jE,jF]
  refine wl ?_
  refine aJt (S[i].ok) rfl rfl ?sl ?h1 ?h2
  case h1=>
   intro hgd
   simp only[Tm.fits_v,go_sem,reduceIte,jA,jB,jC,jD,reduceCtorEq,jE,jF]
   refine wle Tm.fits_v ?_
   refine aQ (sB o (gP [] (S.take i)) S[i] _ hlen) rfl (aR _) ?_
   simp only[go_sem,reduceIte,jA,jB,jC,jD,reduceCtorEq,jE,jF]
   refine wl ?_
   exact rfl
  simp only[go_sem,reduceIte,jA,jB,jC,jD,reduceCtorEq,jE,jF]
  refine wl ?_
  refine cP _ rfl (fun hc=>?_) (fun hc=>?_)
  ·have hnew:gP [] (S.take (i+1))=gP [] (S.take i)++[S[i]]:=by
    rw[htk,aBc,if_pos]
    revert hc
    cases S[i].ok<;>simp
   rcases hown with⟨rfl,hemp⟩|⟨id,hid,rfl,htip,hne⟩
   ·rw[hemp] at hnew⊢
    repeat (first|with_reducible refine bI ?_|with_reducible refine cT ?_|with_reducible refine dZ ?_|with_reducible refine aO ?_|with_reducible refine bT ?_|with_reducible refine bN ?_|(refine eW rfl (by simp only[tms,Tm.fits_v,dX,List.map_nil,go_sem,reduceIte,jA,jB,jC,jD,reduceCtorEq,jE,jF];try omega) ?_;simp only[tms,Tm.fits_v,dX,List.map_nil,go_sem,reduceIte,jA,jB,jC,jD,reduceCtorEq,jE,jF])|(with_reducible refine dL ?_))
    rw[bM (by omega) (by omega)]
    refine aI (i+1, .tok (nx1+3)) (by simp only;omega) ((hC _ _ _ _).2 ⟨by omega,?_,by omega,?_, .inr ⟨nx1+3,by omega,rfl,?_,by rw[hnew];simp⟩⟩) ?_
    ·repeat (first|exact hle|refine kB ?_ (aM.none hd (by omega)) _|refine uW ?_ (aM.none hd (by omega)))
    ·repeat (first|exact aM.up hdm (by omega)|refine aM.set2 ?_ (by omega) _|refine aM.del ?_)
    ·simp only[go_sem,reduceIte,jA,jB,jC,jD,reduceCtorEq,jE,jF]
    simp only[WkL,aB,jH,jI,jJ,tms,hnew,List.map_nil,go_sem,reduceIte,jA,jB,jC,jD,reduceCtorEq,jE,jF]
   have hlt2:=hdm _ _ htip
   have f1:(id=nx1)=False:=by simp;omega
   have f2:(id=nx1+2)=False:=by simp;omega
   have hb1:((gP [] (S.take i)).length+1)*16≤140737488355328:=by omega
   repeat (first|with_reducible refine bI ?_|with_reducible refine cT ?_|with_reducible refine dZ ?_|with_reducible refine aO ?_|with_reducible refine bT ?_|with_reducible refine bN ?_|(refine eW rfl (by simp only[tms,Tm.fits_v,dX,jK,hb1,f1,f2,htip,go_sem,reduceIte,jA,jB,jC,jD,reduceCtorEq,jE,jF];try omega) ?_;simp only[tms,Tm.fits_v,dX,jK,hb1,f1,f2,htip,go_sem,reduceIte,jA,jB,jC,jD,reduceCtorEq,jE,jF])|(with_reducible refine dL ?_))
   rw[bM (by omega) (by omega)]
   refine aI (i+1, .tok (nx1+3)) (by simp only;omega) ((hC _ _ _ _).2 ⟨by omega,?_,by omega,?_, .inr ⟨nx1+3,by omega,rfl,?_,by rw[hnew];simp⟩⟩) ?_
   ·repeat (first|exact hle|refine kB ?_ (aM.none hd (by omega)) _|refine uW ?_ (aM.none hd (by omega)))
   ·repeat (first|exact aM.up hdm (by omega)|refine aM.set2 ?_ (by omega) _|refine aM.del ?_)
   ·simp only[go_sem,reduceIte,jA,jB,jC,jD,reduceCtorEq,jE,jF]
   simp only[WkL,aB,jH,jI,jJ,tms,hnew,List.map_append,List.map_cons,List.map_nil,go_sem,reduceIte,jA,jB,jC,jD,reduceCtorEq,jE,jF]
  have hnew:gP [] (S.take (i+1))=gP [] (S.take i):=by
   rw[htk,aBc,if_neg]
   revert hc
   cases S[i].ok<;>simp
  refine wl ?_
  rw[bM (by omega) (by omega)]
  refine aI (i+1,o) (by simp only;omega) ((hC _ _ _ _).2 ⟨by omega,?_,by omega,?_,?_⟩) ?_
  ·repeat (first|exact hle|refine kB ?_ (aM.none hd (by omega)) _|refine uW ?_ (aM.none hd (by omega)))
  ·repeat (first|exact aM.up hdm (by omega)|refine aM.set2 ?_ (by omega) _|refine aM.del ?_)
  ·rw[hnew]
   rcases hown with h1|⟨id,hid,h1,htip,hne⟩
   ·exact .inl h1
   have hlt2:=hdm _ _ htip
   have f1:(id=nx1)=False:=by simp;omega
   exact .inr ⟨id,hid,h1,by simp only[htip,f1,go_sem,reduceIte,jA,jB,jC,jD,reduceCtorEq,jE,jF],hne⟩
  simp only[WkL,aB,jH,jI,jJ,tms,hnew,go_sem,reduceIte,jA,jB,jC,jD,reduceCtorEq,jE,jF]
 have hge:i=S.length:=by have:¬i<S.length:=by simpa using hc
                         omega
 refine lE ?_
 repeat (first|with_reducible refine iV ?_|with_reducible refine iD ?_|with_reducible refine iE ?_|with_reducible refine bQ (by decide) ?_|with_reducible refine gA ?_|with_reducible refine aO ?_)
 refine wl ?_
 refine bU (aG hp (Hp.le_refl _) ⟨?_,hle⟩)
 simp only[go_sem,reduceIte,jA,jB,jC,jD,reduceCtorEq,jE,jF]
 rw[hge,List.take_length] at hown⊢
 rw[hS,show gP [] (dF mE l)=ofT l from rfl] at hown⊢
 rcases hown with⟨rfl,h1⟩|⟨id,hid,rfl,htip,hne⟩
 ·rw[h1];rfl
 generalize ofT l=r at hne⊢
 cases r with
 |nil=>exact absurd rfl hne
 |cons x r=>rfl
end Go.Proofs.YtecepaehmojpgaaGreat
namespace Go.Proofs.YtecepaehmojpgaaGreat
open Go.RowKit Go.Sort
theorem Tm.less_irrefl(a:Tm):a.less a=false:=by simp[Tm.less]
theorem Tm.less_tri(a b:Tm)(h1:a.less b=false)(h2:b.less a=false):a=b:=by
 cases a;cases b
 simp[Tm.less] at*
 omega
theorem Tm.less_trans{a b c:Tm}(h1:a.less b=true)(h2:b.less c=true):a.less c=true:=by
 simp[Tm.less] at*
 omega
theorem Tm.le_lex{a b:Tm}(h:a.le b=true):b.less a=false:=by
 simp[Tm.less,Tm.le] at*
 omega
theorem Tm.le_refl(a:Tm):a.le a=true:=by simp[Tm.le]
theorem Tm.le_trans{a b c:Tm}(h1:a.le b=true)(h2:b.le c=true):a.le c=true:=by
 simp[Tm.le] at*
 omega
def nT(l:List Tm)(x:Tm):Prop:=x∈l∧x.ok=true∧∀y∈l,y.ok=true→y.le x=true→y=x
def iT(l:List Tm):Prop:=l.Pairwise fun a b=>a.less b=true
theorem qF{a b:List Tm}(ha:iT a)(hb:iT b)(h:∀x,x∈a↔x∈b):a=b:=by
 have nd:∀{l:List Tm},iT l→l.Nodup:=fun hl=>hl.imp (fun{x y} hxy e=>by subst e;rw[Tm.less_irrefl] at hxy;cases hxy)
 refine List.Perm.eq_of_pairwise (le:=fun(u v:Tm)=>u.less v=true) (fun x y _ _ h1 h2=>?_) ha hb ((List.perm_ext_iff_of_nodup (nd ha) (nd hb)).2 h)
 have:=Tm.less_trans h1 h2
 rw[Tm.less_irrefl] at this;cases this
theorem aCX:∀(rest pre out:List Tm),(∀x∈pre,∀y∈rest,y.less x=false)→rest.Pairwise (fun x y=>y.less x=false)→iT out→(∀x,x∈out↔nT pre x)→(∀y∈pre,y.ok=true→∃z∈out,z.le y=true)→
 iT (gP out rest)∧∀x,x∈gP out rest↔nT (pre++rest) x
 | [],pre,out,_,_,hs,hm,_=>by simpa [gP] using⟨hs,hm⟩
 |t::rest,pre,out,h1,h2,hs,hm,hc=>by
  have h2':=List.pairwise_cons.1 h2
  have low:∀x∈pre,t.le x=true→t=x:=fun x hx hle=>(Tm.less_tri _ _ (h1 x hx t (by simp)) (Tm.le_lex hle))
  have key:∀out',iT out'→(∀x,x∈out'↔nT (pre++[t]) x)→(∀y∈pre++[t],y.ok=true→∃z∈out',z.le y=true)→iT (gP out' rest)∧∀x,x∈gP out' rest↔nT (pre++t::rest) x:=by
   intro out' q1 q2 q3
   have:=aCX rest (pre++[t]) out' (fun x hx y hy=>by
    rcases List.mem_append.1 hx with hx|hx
    ·exact h1 x hx y (by simp[hy])
    have:x=t:=by simpa using hx
    subst this
    exact h2'.1 y hy) h2'.2 q1 q2 q3
   simpa using this
  unfold gP
  split
  ·rename_i hk
   simp only[Bool.and_eq_true,Bool.not_eq_true',List.any_eq_false] at hk
   obtain⟨hok,hno⟩:=hk
   have hno':∀x∈out,x.le t=false:=fun x hx=>by simpa using hno x hx
   refine key _ ?_ ?_ ?_
   ·refine List.pairwise_append.2 ⟨hs,by simp,fun x hx y hy=>?_⟩
    have:y=t:=by simpa using hy
    subst this
    have hxp:=((hm x).1 hx).1
    cases hl:x.less y with
    |true=>rfl
    |false=>
     have:=Tm.less_tri _ _ hl (h1 x hxp y (by simp))
     subst this
     have:=hno' x hx
     rw[Tm.le_refl] at this;cases this
   ·intro x
    simp only[List.mem_append,List.mem_singleton]
    constructor
    ·rintro(hx|rfl)
     ·obtain⟨a,b,c⟩:=(hm x).1 hx
      refine⟨by simp[a],b,fun y hy hyo hyl=>?_⟩
      rcases List.mem_append.1 hy with hy|hy
      ·exact c y hy hyo hyl
      have:y=t:=by simpa using hy
      subst this
      exact low x a hyl
     refine⟨by simp,hok,fun y hy hyo hyl=>?_⟩
     rcases List.mem_append.1 hy with hy|hy
     ·obtain⟨z,hz,hzl⟩:=hc y hy hyo
      have:=hno' z hz
      rw[Tm.le_trans hzl hyl] at this;cases this
     simpa using hy
    rintro⟨a,b,c⟩
    rcases List.mem_append.1 a with hx|hx
    ·exact .inl ((hm x).2 ⟨hx,b,fun y hy=>c y (by simp[hy])⟩)
    exact .inr (by simpa using hx)
   intro y hy hyo
   rcases List.mem_append.1 hy with hy|hy
   ·obtain⟨z,hz,hzl⟩:=hc y hy hyo
    exact⟨z,by simp[hz],hzl⟩
   have:y=t:=by simpa using hy
   subst this
   exact⟨y,by simp,Tm.le_refl _⟩
  rename_i hk
  have hk':t.ok=true→∃z∈out,z.le t=true:=fun hok=>by
   simp only[hok,Bool.true_and,Bool.not_eq_true',Bool.not_eq_false] at hk
   obtain⟨z,hz,hzl⟩:=List.any_eq_true.1 hk
   exact⟨z,hz,hzl⟩
  refine key _ hs ?_ ?_
  ·intro x
   constructor
   ·intro hx
    obtain⟨a,b,c⟩:=(hm x).1 hx
    refine⟨by simp[a],b,fun y hy hyo hyl=>?_⟩
    rcases List.mem_append.1 hy with hy|hy
    ·exact c y hy hyo hyl
    have:y=t:=by simpa using hy
    subst this
    exact low x a hyl
   rintro⟨a,b,c⟩
   rcases List.mem_append.1 a with hx|hx
   ·exact(hm x).2 ⟨hx,b,fun y hy=>c y (by simp[hy])⟩
   have:x=t:=by simpa using hx
   subst this
   obtain⟨z,hz,hzl⟩:=hk' b
   have hz':=(hm z).1 hz
   have:=c z (by simp[hz'.1]) hz'.2.1 hzl
   rwa [this] at hz
  intro y hy hyo
  rcases List.mem_append.1 hy with hy|hy
  ·exact hc y hy hyo
  have:y=t:=by simpa using hy
  subst this
  exact hk' hyo
def yV(l:List Tm)(i:Nat)(t:Tm):Bool:=t.ok&& !((List.range l.length).any fun k=>match l[k]? with|some y=>y.ok&&y.le t&&(decide (y≠t)||decide (k<i))|none=>false)
def aFa(out:List Tm)(t:Tm):List Tm:=out.takeWhile (·.less t)++t::out.dropWhile (·.less t)
def oO(l:List Tm):Nat→List Tm
 |0=>[]
 |i+1=>match l[i]? with
  |some t=>if yV l i t=true then aFa (oO l i) t else oO l i
  |none=>oO l i
theorem aDo(out:List Tm)(t x:Tm):x∈aFa out t↔x=t∨x∈out:=by
 unfold aFa
 conv=>rhs;rw[←List.takeWhile_append_dropWhile (p:=fun x:Tm=>x.less t) (l:=out)]
 simp only[List.mem_append,List.mem_cons]
 constructor
 ·rintro(h|h|h)<;>simp[h]
 rintro(h|h|h)<;>simp[h]
theorem aDn{out:List Tm}{t:Tm}(hs:iT out)(hn:t∉out):iT (aFa out t):=by
 induction out with
 |nil=>simp[aFa,iT]
 |cons a out ih=>
  have hs':=List.pairwise_cons.1 hs
  have hn':t≠a∧t∉out:=by simpa using hn
  unfold aFa
  cases ha:a.less t with
  |true=>
   have:=ih hs'.2 hn'.2
   simp only[List.takeWhile_cons,List.dropWhile_cons,ha,if_true,List.cons_append]
   refine List.pairwise_cons.2 ⟨fun y hy=>?_,this⟩
   have hy':y∈aFa out t:=hy
   rcases(aDo out t y).1 hy' with rfl|hy
   ·exact ha
   exact hs'.1 y hy
  |false=>
   simp only[List.takeWhile_cons,List.dropWhile_cons,ha,Bool.false_eq_true,if_false,List.nil_append]
   have hta:t.less a=true:=by
    cases h:t.less a with
    |true=>rfl
    |false=>exact absurd (Tm.less_tri _ _ h ha) hn'.1
   refine List.pairwise_cons.2 ⟨fun y hy=>?_,hs⟩
   rcases List.mem_cons.1 hy with rfl|hy
   ·exact hta
   exact Tm.less_trans hta (hs'.1 y hy)
theorem pV(l:List Tm)(i:Nat)(t:Tm):yV l i t=true↔t.ok=true∧∀k y,l[k]?=some y→y.ok=true→y.le t=true→y=t∧i≤k:=by
 unfold yV
 simp only[Bool.and_eq_true,Bool.not_eq_true',List.any_eq_false,List.mem_range]
 constructor
 ·rintro⟨h1,h2⟩
  refine⟨h1,fun k y hk ho hl=>?_⟩
  have hlt:=(List.getElem?_eq_some_iff.1 hk).1
  have:=h2 k hlt
  rw[hk] at this
  simp[ho,hl] at this
  exact⟨this.1,this.2⟩
 rintro⟨h1,h2⟩
 refine⟨h1,fun k hk=>?_⟩
 rw[List.getElem?_eq_getElem hk]
 simp only
 intro hc
 simp only[Bool.and_eq_true,Bool.or_eq_true,decide_eq_true_eq] at hc
 obtain⟨⟨a,b⟩,c⟩:=hc
 obtain⟨q1,q2⟩:=h2 k l[k] (List.getElem?_eq_getElem hk) a b
 rcases c with c|c
 ·exact c q1
 omega
theorem pL(l:List Tm):∀i,iT (oO l i)∧∀x,x∈oO l i↔∃j,j<i∧l[j]?=some x∧yV l j x=true
 |0=>⟨by simp[oO,iT],fun x=>by simp[oO]⟩
 |i+1=>by
  obtain⟨h1,h2⟩:=pL l i
  have step:∀x,(∃j,j<i+1∧l[j]?=some x∧yV l j x=true)↔((∃j,j<i∧l[j]?=some x∧yV l j x=true)∨(l[i]?=some x∧yV l i x=true)):=by
   intro x
   constructor
   ·rintro⟨j,hj,a,b⟩
    by_cases e:j=i
    ·subst e;exact .inr ⟨a,b⟩
    exact .inl ⟨j,by omega,a,b⟩
   rintro(⟨j,hj,a,b⟩|⟨a,b⟩)
   ·exact⟨j,by omega,a,b⟩
   exact⟨i,by omega,a,b⟩
  unfold oO
  split
  ·rename_i t ht
   split
   ·rename_i hk
    have hn:t∉oO l i:=fun hm=>by
     obtain⟨j,hj,a,b⟩:=(h2 t).1 hm
     have:=((pV l i t).1 hk).2 j t a ((pV l i t).1 hk).1 (Tm.le_refl _)
     omega
    refine⟨aDn h1 hn,fun x=>?_⟩
    rw[aDo,step,h2,ht]
    constructor
    ·rintro(rfl|h)
     ·exact .inr ⟨rfl,hk⟩
     exact .inl h
    rintro(h|⟨h,_⟩)
    ·exact .inr h
    injection h with h;exact .inl h.symm
   rename_i hk
   refine⟨h1,fun x=>?_⟩
   rw[step,h2,ht]
   constructor
   ·exact .inl
   rintro(h|⟨h,hk2⟩)
   ·exact h
   injection h with h;subst h;exact absurd hk2 hk
  rename_i ht
  refine⟨h1,fun x=>?_⟩
  rw[step,h2,ht]
  simp
theorem vV(l:List Tm)(x:Tm):x∈oO l l.length↔nT l x:=by
 rw[(pL l l.length).2]
 constructor
 ·rintro⟨j,hj,a,b⟩
  obtain⟨q1,q2⟩:=(pV l j x).1 b
  refine⟨List.mem_of_getElem? a,q1,fun y hy hyo hyl=>?_⟩
  obtain⟨k,hk,rfl⟩:=List.getElem_of_mem hy
  exact(q2 k _ (List.getElem?_eq_getElem hk) hyo hyl).1
 rintro⟨a,b,c⟩
 --the first place where it stands
 have hex:∃j:Nat,l[j]?=some x:=by
  obtain⟨k,hk,rfl⟩:=List.getElem_of_mem a
  exact⟨k,List.getElem?_eq_getElem hk⟩
 have first:∃j:Nat,l[j]?=some x∧∀k:Nat,k<j→l[k]?≠some x:=by
  obtain⟨j,hj⟩:=hex
  induction j using Nat.strongRecOn with
  |_ j ih=>
   by_cases h:∃k,k<j∧l[k]?=some x
   ·obtain⟨k,hk,hkx⟩:=h;exact ih k hk hkx
   exact⟨j,hj,fun k hk hkx=>h ⟨k,hk,hkx⟩⟩
 obtain⟨j,hj,hfirst⟩:=first
 refine⟨j,(List.getElem?_eq_some_iff.1 hj).1,hj,(pV l j x).2 ⟨b,fun k y hk hyo hyl=>?_⟩⟩
 have hy:=c y (List.mem_of_getElem? hk) hyo hyl
 refine⟨hy,?_⟩
 rcases Nat.lt_or_ge k j with h|h
 ·exact absurd (hy▸hk) (hfirst k h)
 exact h
theorem xX(l:List Tm):ofT l=oO l l.length:=by
 have hs:=gJ aCE l
 have hp:=dE mE l
 have hl:∀a b:Tm,ltOf mE a b=a.less b:=fun a b=>by
  rw[tY,Bool.eq_iff_iff]
  simp[Tm.less]
 have inv:=aCX (dF mE l) [] [] (fun x hx=>by cases hx) (hs.imp fun{x y} h=>by rw[←hl];exact h) (by simp[iT]) (fun x=>by simp[nT]) (fun y hy=>by cases hy)
 refine qF inv.1 (pL l l.length).1 fun x=>?_
 rw[vV]
 refine(inv.2 x).trans ?_
 unfold nT
 simp only[List.nil_append,hp.mem_iff]
end Go.Proofs.YtecepaehmojpgaaGreat
namespace Go.Proofs.YtecepaehmojpgaaGreat
open Go.RowKit
end Go.Proofs.YtecepaehmojpgaaGreat
namespace Go.Proofs.YtecepaehmojpgaaGreat
open Go.RowKit
theorem xW(l:List Tm):iT (ofT l):=by rw[xX];exact(pL l l.length).1
theorem sI(l:List Tm)(x:Tm):x∈ofT l↔nT l x:=by rw[xX];exact vV l x
theorem wB(l:List Tm):∀(n:Nat) (y:Tm),(y.e+y.r).toNat≤n→y∈l→y.ok=true→∃z,nT l z∧z.le y=true
 |n,y,hn,hy,ho=>by
  by_cases h:∃y',y'∈l∧y'.ok=true∧y'.le y=true∧y'≠y
  ·obtain⟨y',h1,h2,h3,h4⟩:=h
   have hlt:(y'.e+y'.r).toNat<(y.e+y.r).toNat:=by
    have e1:¬(y'.e=y.e∧y'.r=y.r):=fun e=>h4 (by cases y;cases y';simp at e;simp[e])
    simp[Tm.le,Tm.ok] at h2 h3 ho
    omega
   cases n with
   |zero=>omega
   |succ n=>
    obtain⟨z,q1,q2⟩:=wB l n y' (by omega) h1 h2
    exact⟨z,q1,Tm.le_trans q2 h3⟩
  exact⟨y,⟨hy,ho,fun y' h1 h2 h3=>Decidable.byContradiction fun h4=>h ⟨y',h1,h2,h3,h4⟩⟩,Tm.le_refl y⟩
theorem aGw{l:List Tm}{y:Tm}(hy:y∈l)(ho:y.ok=true):∃z∈ofT l,z.le y=true:=by
 obtain⟨z,h1,h2⟩:=wB l _ y (Nat.le_refl _) hy ho
 exact⟨z,(sI l z).2 h1,h2⟩
theorem aKh{l:List Tm}{x:Tm}(h:x∈ofT l):x.ok=true∧x∈l:=⟨((sI l x).1 h).2.1,((sI l x).1 h).1⟩
theorem aGv{a b:List Tm}(h:∀x:Tm,x.ok=true→(x∈a↔x∈b)):ofT a=ofT b:=by
 refine qF (xW a) (xW b) fun x=>?_
 rw[sI,sI]
 constructor
 ·rintro⟨h1,h2,h3⟩;exact⟨(h x h2).1 h1,h2,fun y hy ho=>h3 y ((h y ho).2 hy) ho⟩
 rintro⟨h1,h2,h3⟩;exact⟨(h x h2).2 h1,h2,fun y hy ho=>h3 y ((h y ho).1 hy) ho⟩
def atM(a b:List Tm):Bool:= !(b.any fun x=> !(a.any fun y=>y.le x))
theorem aJI{a b:List Tm}:atM a b=true↔∀x∈b,∃y∈a,y.le x=true:=by
 simp[atM]
end Go.Proofs.YtecepaehmojpgaaGreat
namespace Go.Proofs.YtecepaehmojpgaaGreat
open Go.RowKit
attribute [local irreducible] IntKind.wrap
end Go.Proofs.YtecepaehmojpgaaGreat
