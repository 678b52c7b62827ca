/-
Texts of this proof,one behind the other. No conditions.
-/
import Derived.Test.YtemjhgboialjpaaGreatKd
import Derived.Test.YtemjhgboialjpaaGreatKm
import Derived.Test.YtemjhgboialjpaaGreatKe
import Derived.Test.YtemjhgboialjpaaGreatKg
import Derived.Test.YtemjhgboialjpaaGreatKf
import Derived.Test.YtemjhgboialjpaaGreatKl
import Derived.Test.YtemjhgboialjpaaGreatKh
set_option linter.unusedSimpArgs false
set_option linter.unusedVariables false
set_option linter.unusedSectionVars false
open Nat renaming reduceAdd→jA,reduceSub→jB,reduceLT→jC,reduceLeDiff→jD,reduceEqDiff→jE
open Int renaming reduceToNat→jF,toNat_natCast→jG,natCast_add→jH,natCast_one→jI,natCast_zero→jJ
open List renaming length_map→jK,length_cons→jL,length_nil→jM,replicate_succ→jN,replicate_zero→jO,cons_append→jP,nil_append→jQ
namespace Go.Proofs.YtemjhgboialjpaaGreat
open Go.RowKit
attribute [local irreducible] IntKind.wrap
def iW(P:Int)(wv lv:V)(m:Nat):V:= .agg [.int .i64 P,wv,lv, .map m]
structure dF(h:Hp)(cb m:Nat)(P:Int)(wv lv:V)(l:List CE)(c:Nat):Prop where
 cell:h cb=some (.arr (.agg 4) [iW P wv lv m])
 mp:h m=some (.mp (l.map CE.me) c)
 wf:wv.leafy=true
 lf:lv.leafy=true
theorem aIl{P:Int}{wv lv:V}{m:Nat}(hw:wv.leafy=true)(hl:lv.leafy=true):(iW P wv lv m).fits (.agg 4)=true:=by
 simp[iW,V.fits,hw,hl,rI,wW]
theorem aHk(x:Cg)(h:Hp):aW Tryz.prog 74 [x.v] h (.bool (!(decide (-1000000≤x.d)&&decide (x.d≤1000000)))):=by
 refine aR (fun L=>trivial) fun h' nx hh=>aD L.count_Counts_Apply_2_low fun hd=>?_
 simp only[List.length_cons,List.length_nil,Nat.reduceAdd,Nat.reduceSub,List.replicate_succ,List.replicate_zero,List.cons_append,List.nil_append,V.undef]
 have C1:=fun h=>vO x.d h
 refine aue Cg.v.eq_1 ?_
 exact aF h' (by repeat (first|exact Hp.le_refl _|refine aK hd ?_ (by omega) _|refine aL hd ?_ (by omega))) ⟨rfl,rfl⟩
def fO(P:Int)(x:Cg):Bool:=decide (x.s.p<0)||decide (x.s.p≥P)|| !x.s.t.ok
theorem aCW(x:Cg){h:Hp}{cb cp m c:Nat}{P:Int}{wv lv:V}{l:List CE}(hc:dF h cb m P wv lv l c)(hp:h cp=some (.arr .leaf [.ptr cb (.agg 4) 0 0])):
 aW Tryz.prog 72 [x.v, .ptr cp .leaf 0 0] h (.bool (fO P x)):=by
 refine aR (fun L=>trivial) fun h' nx hh=>aD L.count_Counts_Apply_1_low fun hd=>?_
 simp only[List.length_cons,List.length_nil,Nat.reduceAdd,Nat.reduceSub,List.replicate_succ,List.replicate_zero,List.cons_append,List.nil_append,V.undef]
 have c1:=hh _ _ hc.cell rfl
 have c2:=hh _ _ hp rfl
 have n1:cb<nx:=hd _ _ c1
 have n2:cp<nx:=hd _ _ c2
 have e1:(cb=nx)=False:=eq_false (by omega)
 have e2:(cp=nx)=False:=eq_false (by omega)
 have hrt:∀h,aW Tryz.prog 73 [.agg [.int .i64 x.s.t.e, .int .i64 x.s.t.r]] h (.bool x.s.t.ok):=fun h=>sJ x.s.t h
 unfold fO
 cases h1:decide (x.s.p<0) with
 |true=>
  have D1:=fun h=>hrt h
  refine aue (aDt Cg.v.eq_1 iW.eq_1 c1 c2 n1 n2 e1 e2 h1 Bool.true_or Bool.or_true) ?_
  exact aF h' (by repeat (first|exact Hp.le_refl _|refine aK hd ?_ (by omega) _|refine aL hd ?_ (by omega))) ⟨rfl,rfl⟩
 |false=>
  cases h2:decide (x.s.p≥P) with
  |true=>
   have D1:=fun h=>hrt h
   refine aue (aKo Cg.v.eq_1 iW.eq_1 c1 c2 n1 n2 e1 e2 h1 h2 Bool.true_or Bool.or_true Bool.false_or) ?_
   exact aF h' (by repeat (first|exact Hp.le_refl _|refine aK hd ?_ (by omega) _|refine aL hd ?_ (by omega))) ⟨rfl,rfl⟩
  |false=>
   have D1:=fun h=>hrt h
   refine aue (aKo Cg.v.eq_1 iW.eq_1 c1 c2 n1 n2 e1 e2 h1 h2 Bool.true_or Bool.or_true Bool.false_or) ?_
   exact aF h' (by repeat (first|exact Hp.le_refl _|refine aK hd ?_ (by omega) _|refine aL hd ?_ (by omega))) ⟨rfl,rfl⟩
theorem aJg(s:Sp){h:Hp}{cb m c:Nat}{P:Int}{wv lv:V}{l:List CE}(hc:dF h cb m P wv lv l c):
 aW Tryz.prog 80 [.ptr cb (.agg 4) 0 0,s.v] h (.int .i64 (cV l s)):=by
 refine aR (fun L=>trivial) fun h' nx hh=>aD L.count_Counts_Get_low fun hd=>?_
 simp only[List.length_cons,List.length_nil,Nat.reduceAdd,Nat.reduceSub,List.replicate_succ,List.replicate_zero,List.cons_append,List.nil_append,V.undef]
 have c1:=hh _ _ hc.cell rfl
 have c2:=hh _ _ hc.mp rfl
 have n1:cb<nx:=hd _ _ c1
 have n2:m<nx:=hd _ _ c2
 have e1:(cb=nx)=False:=eq_false (by omega)
 have e2:(m=nx)=False:=eq_false (by omega)
 have hlp:bZ (.agg 3) 0 s.v=s.v:=rfl
 have hsf:=Sp.fits_v s
 have hmf:=iC s l
 have hmg:=rE l s
 refine aue (aDt iW.eq_1 c1 c2 n1 n2 e1 e2 hlp hsf hmf hmg) ?_
 exact aF h' (by repeat (first|exact Hp.le_refl _|refine aK hd ?_ (by omega) _|refine aL hd ?_ (by omega))) ⟨rfl,rfl⟩
theorem aFP{h:Hp}{cb m c:Nat}{P:Int}{wv lv:V}{l:List CE}(hc:dF h cb m P wv lv l c):
 aW Tryz.prog 83 [.ptr cb (.agg 4) 0 0] h (.bool (decide (l=[]))):=by
 refine aR (fun L=>trivial) fun h' nx hh=>aD L.count_Counts_Still_low fun hd=>?_
 simp only[List.length_cons,List.length_nil,Nat.reduceAdd,Nat.reduceSub,List.replicate_succ,List.replicate_zero,List.cons_append,List.nil_append,V.undef]
 have c1:=hh _ _ hc.cell rfl
 have c2:=hh _ _ hc.mp rfl
 have hz:(((l.length:Nat):Int)==0)=decide (l=[]):=by
  rw[Bool.eq_iff_iff];cases l<;>simp;omega
 refine aue (ee4 iW.eq_1 c1 c2 hz) ?_
 exact aF h' (by repeat (first|exact Hp.le_refl _|refine aK hd ?_ (by omega) _|refine aL hd ?_ (by omega))) ⟨rfl,rfl⟩
end Go.Proofs.YtemjhgboialjpaaGreat
namespace Go.Proofs.YtemjhgboialjpaaGreat
open Go.RowKit Go.Shelf
attribute [local irreducible] IntKind.wrap
theorem kY:aG Tryz.prog 76=some (LB.ContainsFunc (.agg 4) 141):=by kernel_rfl
theorem nS:aG Tryz.prog 141=some (LB.IndexFunc (.agg 4)):=by kernel_rfl
def dY(n:Int):Bool:= !(decide (-1000000≤n)&&decide (n≤1000000))
def dJ(P:Int)(l:List CE)(c:Nat)(r:List Cg):Int×List CE×Nat:=
 if r.any (fO P)=true then (2,l,c) else if r.any (fun x=>dY x.d)=true then (1,l,c) else
 if (eM l c r).1.any (fun y=>dY y.n)=true then (1,l,c) else (0,(eM l c r).1,(eM l c r).2)
set_option maxRecDepth 100000 in
set_option maxHeartbeats 4000000 in
theorem aBh(o:Own)(r:List Cg)(hr:r.length≤100000)(l:List CE)(c:Nat)(hok:dQ l c)(P:Int)(wv lv:V)(cb m:Nat)(h':Hp)(nx:Nat)(hc:dF h' cb m P wv lv l c):
 aX Tryz.prog 22 [.ptr cb (.agg 4) 0 0,cgs o r] h' nx fun v h'' _=>v=jZ (dJ P l c r).1∧
  (((dJ P l c r).1≠0∧h''=h')∨((dJ P l c r).1=0∧∃m2,nx≤m2∧h''=(h'.set m2 (.mp ((dJ P l c r).2.1.map CE.me) (dJ P l c r).2.2)).set cb (.arr (.agg 4) [iW P wv lv m2]))):=by
 refine aD L.count_Counts_Apply_low fun hd=>?_
 simp only[jL,jM,jA,jB,jN,jO,jP,jQ,V.undef]
 have hcb:=hc.cell
 have hcm:=hc.mp
 have n1:cb<nx:=hd _ _ hcb
 have n2:m<nx:=hd _ _ hcm
 have e1:(cb=nx)=False:=eq_false (by omega)
 have hbase:dF (h'.set nx (.arr .leaf [.ptr cb (.agg 4) 0 0])) cb m P wv lv l c:=⟨by simp only[Hp.set];rw[if_neg (by omega)];exact hcb,by simp only[Hp.set];rw[if_neg (by omega)];exact hcm,hc.wf,hc.lf⟩
 have hst:aW Tryz.prog 76 [.sl (.agg 4) o (r.map Cg.v), .fn (.func 72) [] [.ptr nx .leaf 0 0]] (h'.set nx (.arr .leaf [.ptr cb (.agg 4) 0 0])) (.bool (r.any (fO P))):=
  fK Cg.v Cg.fits_v kY nS (fO P) o r _ [.ptr nx .leaf 0 0] _ (fun x _=>aCW x hbase (by simp[Hp.set])) (by omega)
 have hwd:aW Tryz.prog 76 [.sl (.agg 4) o (r.map Cg.v), .fn (.func 74) [] []] (h'.set nx (.arr .leaf [.ptr cb (.agg 4) 0 0])) (.bool (r.any fun x=>dY x.d)):=
  fK Cg.v Cg.fits_v kY nS (fun x=>dY x.d) o r _ [] _ (fun x _=>aHk x _) (by omega)
 unfold dJ
 cases hs:r.any (fO P) with
 |true=>
  rw[hs] at hst
  have C5:=hst
  refine aue cgs.eq_1 ?_
  exact aF h' (by repeat (first|exact Hp.le_refl _|refine aK hd ?_ (by omega) _|refine aL hd ?_ (by omega))) ⟨rfl, .inl ⟨by simp,rfl⟩⟩
 |false=>
  rw[hs] at hst
  cases hw:r.any (fun x=>dY x.d) with
  |true=>
   rw[hw] at hwd
   have C5:=hst
   have C6:=hwd
   refine aue cgs.eq_1 ?_
   exact aF h' (by repeat (first|exact Hp.le_refl _|refine aK hd ?_ (by omega) _|refine aL hd ?_ (by omega))) ⟨rfl, .inl ⟨by simp,rfl⟩⟩
  |false=>
   rw[hw] at hwd
   simp only[Bool.false_eq_true,if_false]
   have C5:=hst
   have C6:=hwd
   refine aue (ee5 cgs.eq_1 hbase.cell e1 hcb iW.eq_1) ?_
   refine bS ((qA aKG (by kernel_rfl) m (l.map CE.me) c _ _ ?_).mono ?_)
   ·simp only[Hp.set_app];rw[if_neg (by omega)];exact hcm
   rintro v h3 nx3 hnx3 ⟨rfl,rfl,rfl⟩
   unfold dV
   simp only[go_sem,reduceIte,jA,jB,jC,jD,reduceCtorEq,jE,jF]
   refine aue trivial ?_
   obtain⟨A,hA⟩:∃A:Nat→List CE×Nat,∀i,A i=eM l c (r.take i):=⟨_,fun _=>rfl⟩
   refine aP (fun i:Nat=>aB 58 0 [(2, .ptr nx .leaf 0 0),(7, .map (nx+1)),(31,cgs o r),(32, .int .i64 r.length),(33, .int .i64 i)])
    (fun i hp nx1=>i≤r.length∧nx+2≤nx1∧aH hp nx1∧Hp.same (nx+1) (h'.set nx (.arr .leaf [.ptr cb (.agg 4) 0 0])) hp∧hp (nx+1)=some (.mp ((A i).1.map CE.me) (A i).2))
    (fun i=>r.length-i) 0 ⟨Nat.zero_le _,by simp,(by(try dsimp only);repeat (first|exact aH.up hd (by omega)|refine aH.set2 ?_ (by omega) _|refine aH.del ?_|refine aH.delO ?_ _)),(by(try dsimp only);repeat (first|exact Hp.same.rfl'|refine aS ?_ (by omega) _|refine aT ?_ (by omega))),?_⟩ ?_ ?_
   ·rw[hA];simp[Hp.set,eM]
   ·simp only[WkL,aB,jH,jI,jJ,cgs,go_sem,reduceIte,jA,jB,jC,jD,reduceCtorEq,jE,jF]
   rintro i hp nx1 ⟨hi,hnx,hdm,hsm,hmp⟩
   generalize hQ:bG _ _ _ _ _=Q0
   simp only[aB,cgs,go_sem,reduceIte,jA,jB,jC,jD,reduceCtorEq,jE,jF]
   have hok1:=(oE (r.take i) hok)
   rw[←hA] at hok1
   rcases Nat.lt_or_ge i r.length with hlt|hge
   ·have hc1:decide ((i:Int)<(r.length:Int))=true:=decide_eq_true (by omega)
    have hg:(r.map Cg.v).getD i (.tup [])= .agg [.int .i64 r[i].s.p, .int .i64 r[i].s.t.e, .int .i64 r[i].s.t.r, .int .i64 r[i].d]:=eB Cg.v _ r i hlt
    have hwp:IntKind.i64.wrap ((i:Int)+1)=((i+1:Nat):Int):=by rw[aV]<;>omega
    refine aue (ee4 hc1 hg hlt hwp) ?_
    refine bS ((aJK (A i).1 (A i).2 hok1.1 r[i].s r[i].d (nx+1) _ _ ?_).dom.mono ?_)
    ·simp only[Hp.set_app];rw[if_neg (by omega),if_neg (by omega)];exact hmp
    rintro v h3 nx3 hnx3 ⟨rfl,hdm3,_⟩
    unfold dV
    simp only[go_sem,reduceIte,jA,jB,jC,jD,reduceCtorEq,jE,jF]
    refine aue hwp ?_
    rw[←hQ]
    refine aC (i+1) (by omega) ⟨hlt,by dsimp only at hnx3⊢;omega,hdm3,?_,?_⟩ ?_
    ·refine fun m hm=>?_
     simp only[Hp.set_app]
     rw[if_neg (by omega),if_neg (by omega),if_neg (by omega)]
     have:=hsm m hm
     simp only[Hp.set_app] at this
     exact this
    ·have e:A (i+1)=vW (A i).1 (A i).2 r[i].s r[i].d:=by
      rw[hA,hA,List.take_succ_eq_append_getElem hlt,yG]
     rw[e]
     simp only[Hp.set_app,if_true,reduceIte]
    simp only[WkL,aB,jH,jI,jJ,cgs,go_sem,reduceIte,jA,jB,jC,jD,reduceCtorEq,jE,jF]
   have hc1:decide ((i:Int)<(r.length:Int))=false:=decide_eq_false (by omega)
   have hil:r.take i=r:=List.take_of_length_le (by omega)
   rw[hil] at hok1
   have hAl:A i=eM l c r:=by rw[hA,hil]
   rw[hAl] at hmp hok1
   obtain⟨hok2,_,hlen2⟩:=hok1
   refine aue hc1 ?_
   rw[←hQ]
   clear hQ Q0
   generalize (eM l c r).1=L2 at*
   generalize (eM l c r).2=c2 at*
   refine au ?_
   refine uZ rfl hmp ?_
   simp only[go_sem,reduceIte,jA,jB,jC,jD,reduceCtorEq,jE,jF]
   refine au ?_
   refine aP (fun _:List CE=>aB 58 0 [(2, .ptr nx .leaf 0 0),(7, .map (nx+1)),(45, .ptr nx1 .leaf 0 0)])
    (fun js hp2 nx2=>(js.map fun y=>(CE.me y).b).Nodup∧(∀y∈js,y∈L2)∧(∀y∈js,dY y.n=false)∧nx1+1≤nx2∧aH hp2 nx2∧Hp.same (nx+1) (h'.set nx (.arr .leaf [.ptr cb (.agg 4) 0 0])) hp2∧hp2 (nx+1)=some (.mp (L2.map CE.me) c2)∧hp2 nx1=some (.mit (nx+1) c2 (js.map fun y=>(CE.me y).b) c2))
    (fun js=>L2.length-js.length) [] ⟨by simp,by simp,by simp,by simp,(by(try dsimp only);repeat (first|exact aH.up hdm (by omega)|refine aH.set2 ?_ (by omega) _|refine aH.del ?_|refine aH.delO ?_ _)),(by(try dsimp only);repeat (first|exact hsm|refine aS ?_ (by omega) _|refine aT ?_ (by omega))),?_,?_⟩ ?_ ?_
   ·simp only[Hp.set_app];rw[if_neg (by omega)];exact hmp
   ·simp[Hp.set]
   ·simp only[WkL,aB,jH,jI,jJ,go_sem,reduceIte,jA,jB,jC,jD,reduceCtorEq,jE,jF]
   rintro js hp2 nx2 ⟨hjn,hjl,hjw,hn2,hdm2,hsm2,hmp2,hit⟩
   generalize hQ:bG _ _ _ _ _=Q0
   simp only[aB,go_sem,reduceIte,jA,jB,jC,jD,reduceCtorEq,jE,jF]
   repeat (first|with_reducible refine bC ?_|with_reducible refine cR ?_|with_reducible refine dN ?_|with_reducible refine aJ ?_|with_reducible refine bN ?_|with_reducible refine bD ?_|with_reducible refine dS ?_)
   refine vA rfl hit hmp2 (fun x hx=>by obtain⟨y,hy,rfl⟩:=List.mem_map.1 hx;exact hok2.lt y hy) (Nat.le_refl _) ?_ ?_
   ·intro x hx hxn
    obtain⟨y,hy,rfl⟩:=List.mem_map.1 hx
    have hmore:=tZ (fun y=>(CE.me y).b) hjn hxn
    have hshort:=rF (fun y=>(CE.me y).b) hjn hjl hy hxn
    have hfind:=zA CE.me hok2.num hy
    simp only[go_sem,reduceIte,jA,jB,jC,jD,reduceCtorEq,jE,jF]
    refine au ?_
    refine vB (es:=L2.map CE.me) (c:=c2) (m:=nx+1) (since:=c2) (seen:=(js.map fun y=>(CE.me y).b)++[(CE.me y).b]) rfl ?_ ?_ (b:=(CE.me y).b) (by simp) hfind ?_
    ·simp only[Hp.set_app,reduceIte]
    ·simp only[Hp.set_app];rw[if_neg (by omega)];exact hmp2
    have hyn:(CE.me y).v= .int .i64 y.n:=rfl
    simp only[hyn,go_sem,reduceIte,jA,jB,jC,jD,reduceCtorEq,jE,jF]
    have hwi:∀h,aW Tryz.prog 75 [.int .i64 y.n] h (.bool (!(dY y.n))):=fun h=>by
     have:=vO y.n h
     unfold dY
     rw[Bool.not_not];exact this
    cases hwy:dY y.n with
    |true=>
     rw[hwy] at hwi
     have hany:L2.any (fun y=>dY y.n)=true:=List.any_eq_true.2 ⟨y,hy,hwy⟩
     have C1:=fun h=>hwi h
     refine aue (ee2 Bool.not_true Bool.not_false) ?_
     rw[←hQ]
     refine au ?_
     simp only[hany,if_true]
     refine aF h' ?_ ⟨rfl, .inl ⟨by simp,rfl⟩⟩
     intro n b hb
     have hn:=hd n b hb
     simp only[Hp.set_app]
     rw[if_neg (by omega),hsm2 n (by omega)]
     simp only[Hp.set_app]
     rw[if_neg (by omega)];exact hb
    |false=>
     rw[hwy] at hwi
     have C1:=fun h=>hwi h
     refine aue (ee2 Bool.not_true Bool.not_false) ?_
     rw[←hQ]
     refine aC (js++[y]) (by simp only[List.length_append,jL,jM];omega) ⟨hmore,?_,?_,by first|omega|(dsimp only;omega),(by(try dsimp only);repeat (first|exact aH.up hdm2 (by omega)|refine aH.set2 ?_ (by omega) _|refine aH.del ?_|refine aH.delO ?_ _)),(by(try dsimp only);repeat (first|exact hsm2|refine aS ?_ (by omega) _|refine aT ?_ (by omega))),?_,?_⟩ ?_
     ·intro q hq
      rcases List.mem_append.1 hq with hq|hq
      ·exact hjl q hq
      rw[List.mem_singleton.1 hq];exact hy
     ·intro q hq
      rcases List.mem_append.1 hq with hq|hq
      ·exact hjw q hq
      rw[List.mem_singleton.1 hq];exact hwy
     ·simp only[Hp.set_app];rw[if_neg (by omega)];exact hmp2
     ·simp only[Hp.set_app,reduceIte,List.map_append,List.map_cons,List.map_nil]
     simp only[WkL,aB,jH,jI,jJ,go_sem,reduceIte,jA,jB,jC,jD,reduceCtorEq,jE,jF]
   intro hall
   have hperm:=yU (fun y=>(CE.me y).b) hok2.num hjn hjl (fun y hy=>hall _ (List.mem_map.2 ⟨y,hy,rfl⟩))
   have hany:L2.any (fun y=>dY y.n)=false:=by
    rw[List.any_eq_false]
    intro y hy
    rw[hjw y (hperm.mem_iff.2 hy)];simp
   have d1:hp2 nx=some (.arr .leaf [.ptr cb (.agg 4) 0 0]):=by rw[hsm2 nx (by omega)];simp[Hp.set]
   have d2:hp2 cb=some (.arr (.agg 4) [.agg [.int .i64 P,wv,lv, .map m]]):=by rw[hsm2 cb (by omega)];simp only[Hp.set_app];rw[if_neg (by omega)];exact hcb
   have hwf:=hc.wf
   have hlf:=hc.lf
   simp only[go_sem,reduceIte,jA,jB,jC,jD,reduceCtorEq,jE,jF]
   refine au ?_
   rw[←hQ]
   refine aue (ee4 d1 d2 hwf hlf) ?_
   simp only[hany,Bool.false_eq_true,if_false]
   refine aF ((h'.set (nx+1) (.mp (L2.map CE.me) c2)).set cb (.arr (.agg 4) [iW P wv lv (nx+1)])) ?_ ⟨rfl, .inr ⟨trivial,nx+1,by omega,rfl⟩⟩
   intro n b hb
   simp only[Hp.set_app] at hb⊢
   split at hb
   ·rename_i e;rw[if_pos e];exact hb
   rename_i e
   rw[if_neg e]
   split at hb
   ·rename_i e2;rw[e2,hmp2];exact hb
   have hn:=hd n b hb
   rw[hsm2 n (by omega)]
   simp only[Hp.set_app]
   rw[if_neg (by omega)];exact hb
end Go.Proofs.YtemjhgboialjpaaGreat
namespace Go.Proofs.YtemjhgboialjpaaGreat
open Go.RowKit
attribute [local irreducible] IntKind.wrap
def gS(l:List CE):List Sp:=(l.filter fun y=>decide (y.n>0)).map (·.s)
theorem aIr(l:List CE)(y:CE):gS (l++[y])=gS l++if decide (y.n>0)=true then [y.s] else []:=by
 unfold gS
 rw[List.filter_append,List.map_append]
 congr 1
 by_cases h:y.n>0<;>simp[h]
theorem vX(l:List CE):(gS l).length≤l.length:=by
 unfold gS
 rw[jK]
 exact List.length_filter_le _ _
set_option maxRecDepth 100000 in
set_option maxHeartbeats 4000000 in
theorem yH{h':Hp}{nx cb m c:Nat}{P:Int}{wv lv:V}{l:List CE}(hc:dF h' cb m P wv lv l c)(hok:dQ l c)(hl:l.length≤1000000):
 aX Tryz.prog 86 [.ptr cb (.agg 4) 0 0] h' nx fun v h'' _=>∃(o:Own) (xs:List Sp),v= .sl (.agg 3) o (xs.map Sp.v)∧xs.Perm (gS l)∧Acc h'' nx o (xs.map Sp.v)∧Hp.same nx h' h'':=by
 refine aD L.count_Counts_active_low fun hd=>?_
 simp only[jL,jM,jA,jB,jN,jO,jP,jQ,V.undef]
 have hcb:=hc.cell
 have hcm:=hc.mp
 have n1:cb<nx:=hd _ _ hcb
 have n2:m<nx:=hd _ _ hcm
 refine aue (ee2 hcb iW.eq_1) ?_
 refine uZ rfl hcm ?_
 simp only[go_sem,reduceIte,jA,jB,jC,jD,reduceCtorEq,jE,jF]
 refine au ?_
 refine aP (fun q:List CE×Own=>aB 23 0 [(3, .sl (.agg 3) q.2 ((gS q.1).map Sp.v)),(10, .ptr nx .leaf 0 0)])
  (fun q hp nx1=>(q.1.map fun y=>(CE.me y).b).Nodup∧(∀y∈q.1,y∈l)∧nx+1≤nx1∧aH hp nx1∧Hp.same nx h' hp∧hp nx=some (.mit m c (q.1.map fun y=>(CE.me y).b) c)∧Acc hp (nx+1) q.2 ((gS q.1).map Sp.v))
  (fun q=>l.length-q.1.length) ([], .nil) ⟨by simp,by simp,by simp,(by(try dsimp only);repeat (first|exact aH.up hd (by omega)|refine aH.set2 ?_ (by omega) _|refine aH.del ?_|refine aH.delO ?_ _)),(by(try dsimp only);repeat (first|exact Hp.same.rfl'|refine aS ?_ (by omega) _|refine aT ?_ (by omega))),by simp[Hp.set],Acc.nil⟩ ?_ ?_
 ·simp only[WkL,aB,jH,jI,jJ,gS,List.filter_nil,List.map_nil,go_sem,reduceIte,jA,jB,jC,jD,reduceCtorEq,jE,jF]
 rintro⟨js,o⟩ hp nx1 ⟨hjn,hjl,hn1,hdm,hsm,hit,hacc⟩
 generalize hQ:bG _ _ _ _ _=Q0
 dsimp only at hjn hjl hit hacc
 have hmp:hp m=some (.mp (l.map CE.me) c):=by rw[hsm m n2];exact hcm
 simp only[aB,go_sem,reduceIte,jA,jB,jC,jD,reduceCtorEq,jE,jF]
 repeat (first|with_reducible refine bC ?_|with_reducible refine cR ?_|with_reducible refine dN ?_|with_reducible refine aJ ?_|with_reducible refine bN ?_|with_reducible refine bD ?_|with_reducible refine dS ?_)
 refine vA rfl hit hmp (fun x hx=>by obtain⟨y,hy,rfl⟩:=List.mem_map.1 hx;exact hok.lt y hy) (Nat.le_refl _) ?_ ?_
 ·intro x hx hxn
  obtain⟨y,hy,rfl⟩:=List.mem_map.1 hx
  have hmore:=tZ (fun y=>(CE.me y).b) hjn hxn
  have hshort:=rF (fun y=>(CE.me y).b) hjn hjl hy hxn
  have hfind:=zA CE.me hok.num hy
  simp only[go_sem,reduceIte,jA,jB,jC,jD,reduceCtorEq,jE,jF]
  refine au ?_
  refine vB (es:=l.map CE.me) (c:=c) (m:=m) (since:=c) (seen:=(js.map fun y=>(CE.me y).b)++[(CE.me y).b]) rfl ?_ ?_ (b:=(CE.me y).b) (by simp) hfind ?_
  ·simp only[Hp.set_app,reduceIte]
  ·simp only[Hp.set_app];rw[if_neg (by omega)];exact hmp
  have hyn:(CE.me y).v= .int .i64 y.n:=rfl
  have hyk:(CE.me y).k= .agg [.int .i64 y.s.p, .int .i64 y.s.t.e, .int .i64 y.s.t.r]:=rfl
  have hlenA:((gS js).map Sp.v).length=(gS js).length:=by simp
  have hcap:(gS js).length≤1000000:=by have:=vX js;omega
  have hmem:∀q∈js++[y],q∈l:=fun q hq=>by
   rcases List.mem_append.1 hq with hq|hq
   ·exact hjl q hq
   rw[List.mem_singleton.1 hq];exact hy
  have hsn:=aIr js y
  have hacc2:Acc (hp.set nx (.mit m c ((js.map fun y=>(CE.me y).b)++[(CE.me y).b]) c)) (nx+1) o ((gS js).map Sp.v):=by
   rcases hacc with h|⟨h1,id,h2,h3,h4⟩
   ·exact .inl h
   exact .inr ⟨h1,id,h2,h3,by simp only[Hp.set_app];rw[if_neg (by omega)];exact h4⟩
  have hdm2:aH (hp.set nx (.mit m c ((js.map fun y=>(CE.me y).b)++[(CE.me y).b]) c)) nx1:=aH.set2 hdm (by omega) _
  have hsm2:Hp.same nx h' (hp.set nx (.mit m c ((js.map fun y=>(CE.me y).b)++[(CE.me y).b]) c)):=aS hsm (Nat.le_refl _) _
  have hit2:(hp.set nx (.mit m c ((js.map fun y=>(CE.me y).b)++[(CE.me y).b]) c)) nx=some (.mit m c ((js++[y]).map fun y=>(CE.me y).b) c):=by simp[Hp.set]
  generalize hp.set nx (.mit m c ((js.map fun y=>(CE.me y).b)++[(CE.me y).b]) c)=hp2 at hacc2 hdm2 hsm2 hit2⊢
  simp only[hyn,hyk,go_sem,reduceIte,jA,jB,jC,jD,reduceCtorEq,jE,jF]
  cases hpos:decide (y.n>0) with
  |true=>
   rw[hpos,if_pos rfl] at hsn
   have hpos':decide (y.n>0)=true:=hpos
   have hacc:=hacc2
   have hdm:=hdm2
   refine aue (ee2 hpos hlenA) ?_
   rw[←hQ]
   refine aC (js++[y], .tok (nx1+5)) (by simp only[List.length_append,jL,jM];omega) ⟨hmore,hmem,by first|omega|(dsimp only;omega),(by(try dsimp only);repeat (first|exact aH.up hdm2 (by omega)|refine aH.set2 ?_ (by omega) _|refine aH.del ?_|refine aH.delO ?_ _)),(by(try dsimp only);repeat (first|exact hsm2|refine aS ?_ (by omega) _|refine aT ?_ (by omega)|refine eN ?_ (fun id e=>by have:=(hacc2).ge id e;omega))),?_,?_⟩ ?_
   ·refine Eq.trans ((?_:Hp.same (nx+1) hp2 _) nx (by omega)) hit2
    exact(by(try dsimp only);repeat (first|exact Hp.same.rfl'|refine aS ?_ (by omega) _|refine aT ?_ (by omega)|refine eN ?_ (fun id e=>by have:=(hacc2).ge id e;omega)))
   ·dsimp only;rw[hsn,List.map_append];exact Acc.new _ (by simp) (by omega)
   simp only[WkL,aB,jH,jI,jJ,hsn,List.map_append,Sp.v,go_sem,reduceIte,jA,jB,jC,jD,reduceCtorEq,jE,jF]
  |false=>
   rw[hpos,if_neg (by simp),List.append_nil] at hsn
   refine aue (ee2 hpos hlenA) ?_
   rw[←hQ]
   refine aC (js++[y],o) (by simp only[List.length_append,jL,jM];omega) ⟨hmore,hmem,by first|omega|(dsimp only;omega),(by(try dsimp only);repeat (first|exact aH.up hdm2 (by omega)|refine aH.set2 ?_ (by omega) _|refine aH.del ?_|refine aH.delO ?_ _)),(by(try dsimp only);repeat (first|exact hsm2|refine aS ?_ (by omega) _|refine aT ?_ (by omega)|refine eN ?_ (fun id e=>by have:=(hacc2).ge id e;omega))),?_,?_⟩ ?_
   ·refine Eq.trans ((?_:Hp.same (nx+1) hp2 _) nx (by omega)) hit2
    exact(by(try dsimp only);repeat (first|exact Hp.same.rfl'|refine aS ?_ (by omega) _|refine aT ?_ (by omega)|refine eN ?_ (fun id e=>by have:=(hacc2).ge id e;omega)))
   ·dsimp only;rw[hsn];exact(by(try dsimp only);repeat' (first|exact hacc2|exact Acc.new _ (by simp) (by omega)|exact kK.new (by omega)|exact aH.ntip hdm2 (by omega)|exact fW|exact iN (by assumption)|refine fU (by omega) ?_|refine fV ?_|refine Acc.set ?_ ?_ _|refine kK.set ?_ ?_ _))
   simp only[WkL,aB,jH,jI,jJ,hsn,go_sem,reduceIte,jA,jB,jC,jD,reduceCtorEq,jE,jF]
 intro hall
 have hperm:=yU (fun y=>(CE.me y).b) hok.num hjn hjl (fun y hy=>hall _ (List.mem_map.2 ⟨y,hy,rfl⟩))
 simp only[go_sem,reduceIte,jA,jB,jC,jD,reduceCtorEq,jE,jF]
 refine au ?_
 rw[←hQ]
 refine au ?_
 refine aF hp (Hp.le_refl _) ⟨o,gS js,?_,?_,?_,hsm⟩
 ·simp only[go_sem,reduceIte,jA,jB,jC,jD,reduceCtorEq,jE,jF]
 ·exact(hperm.filter _).map _
 rcases hacc with h|⟨h1,id,h2,h3,h4⟩
 ·exact .inl h
 exact .inr ⟨h1,id,by omega,h3,h4⟩
end Go.Proofs.YtemjhgboialjpaaGreat
namespace Go.Proofs.YtemjhgboialjpaaGreat
open Go.Proofs.YtemjhgboialjpaaGreat renaming fE→uA,dU→uB,cM→uC,cN→uD,bV→uE,fF→uF,bQ→uG,cO→uH,cP→uI,bW→uJ,bX→uK,cG→uL,dP→uM,fG→uN,dG→uO,aZ→uP,gR→uQ,fS→uR,dA→uS
open Go.RowKit
attribute [local irreducible] IntKind.wrap
def lE(t:Tm):List Pa→List Tm
 | []=>[]
 |p::l=>(if (p.of t).2=0 then [(p.of t).1] else [])++lE t l
theorem aEI(t:Tm)(a b:List Pa):lE t (a++b)=lE t a++lE t b:=by
 induction a with
 |nil=>rfl
 |cons p a ih=>simp[lE,ih]
theorem aEH(t:Tm)(a:List Pa):(lE t a).length≤a.length:=by
 induction a with
 |nil=>simp[lE]
 |cons p a ih=>simp only[lE,List.length_append,jL];split<;>simp<;>omega
theorem aCn(t:Tm)(l:List Pa)(i:Nat)(h:i<l.length):lE t (l.take (i+1))=lE t (l.take i)++(if (l[i].of t).2=0 then [(l[i].of t).1] else []):=by
 rw[List.take_succ_eq_append_getElem h,aEI]
 simp[lE]
def frT(T:Nat→Nat→List Pa)(b:Nat)(xs:List Sp):List Tm:=xs.flatMap fun s=>lE s.t (T s.p.toNat b)
theorem aJn(T:Nat→Nat→List Pa)(b:Nat)(xs:List Sp)(i:Nat)(h:i<xs.length):frT T b (xs.take (i+1))=frT T b (xs.take i)++lE xs[i].t (T xs[i].p.toNat b):=by
 unfold frT
 rw[List.take_succ_eq_append_getElem h,List.flatMap_append]
 simp
theorem yZ(T:Nat→Nat→List Pa)(b K:Nat)(hT:∀a,(T a b).length≤K):∀xs:List Sp,(frT T b xs).length≤xs.length*K
 | []=>by simp[frT]
 |s::xs=>by
  have h1:=yZ T b K hT xs
  have h2:=aEH s.t (T s.p.toNat b)
  have h3:=hT s.p.toNat
  unfold frT at h1⊢
  rw[List.flatMap_cons,List.length_append,jL,Nat.add_mul]
  omega
theorem aIj{h H:Hp}{o:Own}{n0 n:Nat}{k:Sh}{es es':List V}(ha:Acc h n0 o es)(hn:h n=some (.arr k es')):(H.delO o) n=H n:=by
 rcases ha with⟨_,rfl⟩|⟨_,id,_,rfl,ht⟩
 ·rfl
 show H.del id n=H n
 unfold Hp.del
 rw[if_neg]
 rintro rfl
 rw[hn] at ht;cases ht
def aKz(T:Nat→Nat→List Pa)(n:Nat)(rows:List V):Prop:=rows.length=n∧
 ∀a b,a<n→b<n→∃o cells,rows.getD a (.tup [])= .sl .leaf o cells∧cells.length=n∧∃oc,cells.getD b (.tup [])= .sl (.agg 2) oc ((T a b).map Pa.v)
set_option maxRecDepth 100000 in
set_option maxHeartbeats 4000000 in
theorem aAC{h:Hp}{cb m c:Nat}{P:Int}{wv:V}{ot:Own}{rows:List V}{l:List CE}(hc:dF h cb m P wv (.sl .leaf ot rows) l c)(T:Nat→Nat→List Pa)(n:Nat)(hP:P=n)(hT:aKz T n rows)(hlen:∀a b,(T a b).length≤1000)
 (oa:Own) (xs:List Sp) (hxl:xs.length≤900) (hxs:∀s∈xs,0≤s.p∧s.p<n) (b:Nat) (hb:b<n):
 aW Tryz.prog 87 [.ptr cb (.agg 4) 0 0, .sl (.agg 3) oa (xs.map Sp.v), .int .i64 b] h (lst (.agg 2) ((ofT (frT T b xs)).map Tm.v)):=by
 refine aR (fun L=>cE (fun L=>bI (Tm.names_v L) _) L) fun h' nx hh=>aD L.count_Counts_front_low fun hd=>?_
 simp only[jL,jM,jA,jB,jN,jO,jP,jQ,V.undef]
 have hcb:=hh _ _ hc.cell rfl
 have n1:cb<nx:=hd _ _ hcb
 refine aue trivial ?_
 refine aP (fun q:Nat×Own=>aB 53 0 [(0, .ptr cb (.agg 4) 0 0),(2, .int .i64 b),(7,tms q.2 (frT T b (xs.take q.1))),(14, .sl (.agg 3) oa (xs.map Sp.v)),(15, .int .i64 xs.length),(16, .int .i64 q.1)])
  (fun q hp nx1=>q.1≤xs.length∧nx≤nx1∧aH hp nx1∧Hp.same nx h' hp∧Acc hp nx q.2 ((frT T b (xs.take q.1)).map Tm.v))
  (fun q=>xs.length-q.1) (0, .nil) ⟨Nat.zero_le _,Nat.le_refl _,hd,Hp.same.rfl',Acc.nil⟩ ?_ ?_
 ·simp only[WkL,aB,jH,jI,jJ,tms,frT,List.take_zero,List.flatMap_nil,List.map_nil,go_sem,reduceIte,jA,jB,jC,jD,reduceCtorEq,jE,jF]
 rintro⟨i,o⟩ hp nx1 ⟨hi,hnx,hdm,hsm,hacc⟩
 generalize hQ:bG _ _ _ _ _=Q0
 dsimp only at hi hacc
 simp only[aB,tms,go_sem,reduceIte,jA,jB,jC,jD,reduceCtorEq,jE,jF]
 rcases Nat.lt_or_ge i xs.length with hlt|hge
 ·have hc1:decide ((i:Int)<(xs.length:Int))=true:=decide_eq_true (by omega)
  have hg:(xs.map Sp.v).getD i (.tup [])= .agg [.int .i64 xs[i].p, .int .i64 xs[i].t.e, .int .i64 xs[i].t.r]:=eB Sp.v _ xs i hlt
  have hw:IntKind.i64.wrap ((i:Int)+1)=((i+1:Nat):Int):=by rw[aV]<;>omega
  obtain⟨hp0,hpn⟩:=hxs xs[i] (List.getElem_mem _)
  obtain⟨a,ha⟩:∃a:Nat,xs[i].p=a:=⟨xs[i].p.toNat,by omega⟩
  have han:a<n:=by omega
  have hta:xs[i].p.toNat=a:=by omega
  obtain⟨hrl,hrows⟩:=hT
  obtain⟨orow,cells,hrow,hcl,oc,hcell⟩:=hrows a b han hb
  have hgt:((rows.length:Nat):Int)=n:=by rw[hrl]
  have hcell1:hp cb=some (.arr (.agg 4) [.agg [.int .i64 P,wv, .sl .leaf ot rows, .map m]]):=by rw[hsm cb n1];exact hcb
  have hbox:cb<nx1:=by omega
  have c3:a<rows.length:=by omega
  have c4:b<cells.length:=by omega
  rw[ha] at hg
  refine aue (ee9 hc1 hg hlt hcell1 hbox hrow hcell c3 c4) ?_
  obtain⟨D,hD⟩:∃D,D=frT T b (xs.take i):=⟨_,rfl⟩
  have hDl:D.length≤i*1000:=by
   rw[hD]
   have:=yZ T b 1000 (fun a=>hlen a b) (xs.take i)
   rw[List.length_take,Nat.min_eq_left (by omega)] at this
   exact this
  obtain⟨ps,hps⟩:∃ps,ps=T a b:=⟨_,rfl⟩
  have hpl:ps.length≤1000:=by rw[hps];exact hlen a b
  rw[←hD] at hacc⊢
  rw[←hps]
  refine aP (fun q:Nat×Own=>aB 53 0 [(0, .ptr cb (.agg 4) 0 0),(2, .int .i64 b),(7,tms q.2 (D++lE xs[i].t (ps.take q.1))),(9, .ptr nx1 (.agg 3) 0 0),(14, .sl (.agg 3) oa (xs.map Sp.v)),(15, .int .i64 xs.length),(16, .int .i64 i),(30, .sl (.agg 2) oc (ps.map Pa.v)),(31, .int .i64 ps.length),(32, .int .i64 q.1)])
   (fun q hp2 nx2=>q.1≤ps.length∧nx1+1≤nx2∧aH hp2 nx2∧Hp.same nx h' hp2∧hp2 nx1=some (.arr (.agg 3) [.agg [.int .i64 a, .int .i64 xs[i].t.e, .int .i64 xs[i].t.r]])∧Acc hp2 nx q.2 ((D++lE xs[i].t (ps.take q.1)).map Tm.v))
   (fun q=>ps.length-q.1) (0,o) ⟨Nat.zero_le _,by first|omega|(dsimp only;omega),(by(try dsimp only);repeat (first|exact aH.up hdm (by omega)|refine aH.set2 ?_ (by omega) _|refine aH.del ?_|refine aH.delO ?_ _)),(by(try dsimp only);repeat (first|exact hsm|refine aS ?_ (by omega) _|refine aT ?_ (by omega))),by simp[Hp.set],?_⟩ ?_ ?_
  ·simp only[List.take_zero,lE,List.append_nil]
   exact(by(try dsimp only);repeat' (first|exact hacc|exact Acc.new _ (by simp) (by omega)|exact kK.new (by omega)|exact aH.ntip hdm (by omega)|exact fW|exact iN (by assumption)|refine fU (by omega) ?_|refine fV ?_|refine Acc.set ?_ ?_ _|refine kK.set ?_ ?_ _))
  ·simp only[WkL,aB,jH,jI,jJ,tms,lE,List.take_zero,List.append_nil,go_sem,reduceIte,jA,jB,jC,jD,reduceCtorEq,jE,jF]
  rintro⟨k,o2⟩ hp2 nx2 ⟨hk,hnx2,hdm2,hsm2,hbx,hacc2⟩
  generalize hQ2:bG _ _ _ _ _=Q2
  dsimp only at hk hacc2
  simp only[aB,tms,go_sem,reduceIte,jA,jB,jC,jD,reduceCtorEq,jE,jF]
  have hlt0:nx1<nx2:=by omega
  have hcap:(D++lE xs[i].t (ps.take k)).length≤1000000:=by
   have h1:=aEH xs[i].t (ps.take k)
   have h2:(ps.take k).length≤1000:=by rw[List.length_take];omega
   rw[List.length_append];omega
  rcases Nat.lt_or_ge k ps.length with hltk|hgek
  ·have hck:decide ((k:Int)<(ps.length:Int))=true:=decide_eq_true (by omega)
   have hgk:(ps.map Pa.v).getD k (.tup [])=ps[k].v:=eB Pa.v _ ps k hltk
   have hwk:IntKind.i64.wrap ((k:Int)+1)=((k+1:Nat):Int):=by rw[aV]<;>omega
   have hof:∀h,aW Tryz.prog 147 [ps[k].v, .agg [.int .i64 xs[i].t.e, .int .i64 xs[i].t.r]] h (.tup [(ps[k].of xs[i].t).1.v,jZ (ps[k].of xs[i].t).2]):=fun h=>aEv ps[k] xs[i].t h
   have hpf:=ps[k].fits_v
   (repeat' (first|(with_reducible first|refine stp ?_|refine uP (by decide) ?_|refine uQ (fun _=>?_) (fun _=>?_))|((first|(with_reducible refine uA ?_;first|refine uB rfl ?_ ?_|refine aM (hof _) rfl (aO _) ?_|refine qF (n0:=nx) rfl (by(try dsimp only);repeat' (first|exact hacc2|exact Acc.new _ (by simp) (by omega)|exact kK.new (by omega)|exact aH.ntip hdm2 (by omega)|exact fW|exact iN (by assumption)|refine fU (by omega) ?_|refine fV ?_|refine Acc.set ?_ ?_ _|refine kK.set ?_ ?_ _)) rfl (by simp) (by simp only[jK,hbx,hlt0,hck,hgk,hltk,hwk,oH,Tm.fits_v,hpf,jK,jG,go_sem,reduceIte,jA,jB,jC,jD,reduceCtorEq,jE,jF];try omega) ?_|(first|refine uC rfl ?_|refine uD rfl ?_)|refine uE rfl ?_)|(with_reducible refine uF ?_;first|refine uG rfl ?_ ?_|(first|refine uH rfl ?_|refine uI rfl ?_)|refine uJ rfl ?_|refine uK (uL ?_)|refine uK (uM ?_))|(with_reducible refine uN ?_;refine uO rfl ?_))<;>try simp only[hbx,hlt0,hck,hgk,hltk,hwk,oH,Tm.fits_v,hpf,jK,jG,go_sem,reduceIte,jA,jB,jC,jD,reduceCtorEq,jE,jF])|(with_reducible refine uR ?_;refine uS rfl ?_)|omega))
   ·rename_i hx
    have hn:lE xs[i].t (ps.take (k+1))=lE xs[i].t (ps.take k)++[(ps[k].of xs[i].t).1]:=by rw[aCn _ _ _ hltk,if_pos (of_decide_eq_true hx)]
    rw[←hQ2]
    refine aC (k+1, .tok (nx2+5)) (by dsimp only;omega) ⟨hltk,by first|omega|(dsimp only;omega),(by(try dsimp only);repeat (first|exact aH.up hdm2 (by omega)|refine aH.set2 ?_ (by omega) _|refine aH.del ?_|refine aH.delO ?_ _)),(by(try dsimp only);repeat (first|exact hsm2|refine aS ?_ (by omega) _|refine aT ?_ (by omega)|refine eN ?_ (fun id e=>by have:=(hacc2).ge id e;omega))),?_,?_⟩ ?_
    ·simp only[Hp.set_app]
     rw[if_neg (by omega),aIj hacc2 hbx]
     simp only[Hp.set_app]
     repeat rw[if_neg (by omega)]
     exact hbx
    ·dsimp only;rw[hn,←List.append_assoc,List.map_append];exact Acc.new _ (by simp) (by omega)
    simp only[WkL,aB,jH,jI,jJ,tms,hn,List.map_append,List.map_cons,List.map_nil,List.append_assoc,go_sem,reduceIte,jA,jB,jC,jD,reduceCtorEq,jE,jF]
   rename_i hx
   have hn:lE xs[i].t (ps.take (k+1))=lE xs[i].t (ps.take k):=by rw[aCn _ _ _ hltk,if_neg (of_decide_eq_false hx),List.append_nil]
   rw[←hQ2]
   refine aC (k+1,o2) (by dsimp only;omega) ⟨hltk,by first|omega|(dsimp only;omega),(by(try dsimp only);repeat (first|exact aH.up hdm2 (by omega)|refine aH.set2 ?_ (by omega) _|refine aH.del ?_|refine aH.delO ?_ _)),(by(try dsimp only);repeat (first|exact hsm2|refine aS ?_ (by omega) _|refine aT ?_ (by omega)|refine eN ?_ (fun id e=>by have:=(hacc2).ge id e;omega))),?_,?_⟩ ?_
   ·simp only[Hp.set_app]
    repeat rw[if_neg (by omega)]
    exact hbx
   ·dsimp only;rw[hn];exact(by(try dsimp only);repeat' (first|exact hacc2|exact Acc.new _ (by simp) (by omega)|exact kK.new (by omega)|exact aH.ntip hdm2 (by omega)|exact fW|exact iN (by assumption)|refine fU (by omega) ?_|refine fV ?_|refine Acc.set ?_ ?_ _|refine kK.set ?_ ?_ _))
   simp only[WkL,aB,jH,jI,jJ,tms,hn,go_sem,reduceIte,jA,jB,jC,jD,reduceCtorEq,jE,jF]
  have hck:decide ((k:Int)<(ps.length:Int))=false:=decide_eq_false (by omega)
  have hil:ps.take k=ps:=List.take_of_length_le (by omega)
  rw[hil] at hacc2⊢
  have hnext:frT T b (xs.take (i+1))=D++lE xs[i].t ps:=by rw[aJn T b xs i hlt,hta,←hD,←hps]
  refine aue (ee2 hck hw) ?_
  rw[←hQ2]
  clear hQ2 Q2
  refine aue hw ?_
  rw[←hQ]
  refine aC (i+1,o2) (by dsimp only;omega) ⟨hlt,by first|omega|(dsimp only;omega),(by(try dsimp only);repeat (first|exact aH.up hdm2 (by omega)|refine aH.set2 ?_ (by omega) _|refine aH.del ?_|refine aH.delO ?_ _)),hsm2,by dsimp only;rw[hnext];exact hacc2⟩ ?_
  simp only[WkL,aB,jH,jI,jJ,tms,hnext,go_sem,reduceIte,jA,jB,jC,jD,reduceCtorEq,jE,jF]
 have hc1:decide ((i:Int)<(xs.length:Int))=false:=decide_eq_false (by omega)
 have hil:xs.take i=xs:=List.take_of_length_le (by omega)
 have hcap:(frT T b xs).length≤1000000:=by
  have:=yZ T b 1000 (fun a=>hlen a b) xs
  omega
 rw[hil] at hacc⊢
 refine aue hc1 ?_
 rw[←hQ]
 (repeat' (first|(with_reducible first|refine stp ?_|refine uP (by decide) ?_|refine uQ (fun _=>?_) (fun _=>?_))|((first|(with_reducible refine uA ?_;first|refine uB rfl ?_ ?_|refine aM (aDC _ _ hcap _) rfl (aO _) ?_|(first|refine uC rfl ?_|refine uD rfl ?_)|refine uE rfl ?_)|(with_reducible refine uF ?_;first|refine uG rfl ?_ ?_|(first|refine uH rfl ?_|refine uI rfl ?_)|refine uJ rfl ?_|refine uK (uL ?_)|refine uK (uM ?_))|(with_reducible refine uN ?_;refine uO rfl ?_))<;>try simp only[ go_sem,reduceIte,jA,jB,jC,jD,reduceCtorEq,jE,jF])|(with_reducible refine uR ?_;refine uS rfl ?_)|omega))
 refine aF h' (hsm.le hd (Hp.le_refl _)) ⟨?_,rfl⟩
 simp only[go_sem,reduceIte,jA,jB,jC,jD,reduceCtorEq,jE,jF]
end Go.Proofs.YtemjhgboialjpaaGreat
namespace Go.Proofs.YtemjhgboialjpaaGreat
open Go.RowKit
attribute [local irreducible] IntKind.wrap
theorem aEw{T:Nat→Nat→List Pa}{b:Nat}{xs ys:List Sp}(h:xs.Perm ys):ofT (frT T b xs)=ofT (frT T b ys):=by
 refine aCl fun x _=>?_
 simp only[frT,List.mem_flatMap]
 exact⟨fun⟨s,h1,h2⟩=>⟨s,h.mem_iff.1 h1,h2⟩,fun⟨s,h1,h2⟩=>⟨s,h.mem_iff.2 h1,h2⟩⟩
theorem rX{h:Hp}{cb m c:Nat}{P:Int}{wv:V}{ot:Own}{rows:List V}{l:List CE}(hc:dF h cb m P wv (.sl .leaf ot rows) l c)(hok:dQ l c)(hl:l.length≤900)(T:Nat→Nat→List Pa)(n:Nat)(hP:P=n)(hT:aKz T n rows)(hlen:∀a b,(T a b).length≤1000)
 (hin:∀y∈l,0≤y.s.p∧y.s.p<n) (b:Nat) (hb:b<n):
 aW Tryz.prog 28 [.ptr cb (.agg 4) 0 0, .int .i64 b] h (lst (.agg 2) ((ofT (frT T b (gS l))).map Tm.v)):=by
 refine aR (fun L=>cE (fun L=>bI (Tm.names_v L) _) L) fun h' nx hh=>aD L.count_Counts_Front_low fun hd=>?_
 simp only[List.length_cons,List.length_nil,Nat.reduceAdd,Nat.reduceSub,List.replicate_succ,List.replicate_zero,List.cons_append,List.nil_append,V.undef]
 have hc':dF h' cb m P wv (.sl .leaf ot rows) l c:=⟨hh _ _ hc.cell rfl,hh _ _ hc.mp rfl,hc.wf,hc.lf⟩
 have hcb:=hc'.cell
 have n1:cb<nx:=hd _ _ hcb
 have n2:m<nx:=hd _ _ hc'.mp
 have h1:decide ((b:Int)<0)=false:=decide_eq_false (by omega)
 have h2:decide (P≤(b:Int))=false:=decide_eq_false (by omega)
 have h3:decide ((b:Int)≥P)=false:=decide_eq_false (by omega)
 refine aue (ee5 hcb iW.eq_1 h1 h2 h3) ?_
 refine bS ((yH hc' hok (by omega)).mono ?_)
 rintro v h4 nx4 hnx4 ⟨o,xs,rfl,hperm,hacc,hsm⟩
 unfold dV
 simp only[go_sem,reduceIte,Nat.reduceAdd,Nat.reduceSub,Nat.reduceLT,Nat.reduceLeDiff,reduceCtorEq,Nat.reduceEqDiff,Int.reduceToNat]
 have hc4:dF h4 cb m P wv (.sl .leaf ot rows) l c:=⟨by rw[hsm cb n1];exact hcb,by rw[hsm m n2];exact hc'.mp,hc.wf,hc.lf⟩
 have hxl:xs.length≤900:=by rw[hperm.length_eq];have:=vX l;omega
 have hxs:∀s∈xs,0≤s.p∧s.p<n:=fun s hs=>by
  have:=hperm.mem_iff.1 hs
  unfold gS at this
  obtain⟨y,hy,rfl⟩:=List.mem_map.1 this
  exact hin y (List.mem_filter.1 hy).1
 have C5:=aAC hc4 T n hP hT hlen o xs hxl hxs b hb
 refine au ?_
 refine aF h' (hsm.le hd (Hp.le_refl _)) ⟨?_,rfl⟩
 rw[←aEw hperm]
 simp only[go_sem,reduceIte,Nat.reduceAdd,Nat.reduceSub,Nat.reduceLT,Nat.reduceLeDiff,reduceCtorEq,Nat.reduceEqDiff,Int.reduceToNat]
theorem qK{h:Hp}{cb m c:Nat}{P:Int}{wv lv:V}{l:List CE}(hc:dF h cb m P wv lv l c)(b:Int)(hb:b<0∨P≤b):
 aW Tryz.prog 28 [.ptr cb (.agg 4) 0 0, .int .i64 b] h (.sl (.agg 2) .nil []):=by
 refine aR (fun L=>by simp[V.names,bP]) fun h' nx hh=>aD L.count_Counts_Front_low fun hd=>?_
 simp only[List.length_cons,List.length_nil,Nat.reduceAdd,Nat.reduceSub,List.replicate_succ,List.replicate_zero,List.cons_append,List.nil_append,V.undef]
 have hcb:=hh _ _ hc.cell rfl
 cases h1:decide (b<0) with
 |true=>
  refine aue (ee3 hcb iW.eq_1 h1) ?_
  exact aF h' (by repeat (first|exact Hp.le_refl _|refine aK hd ?_ (by omega) _|refine aL hd ?_ (by omega))) ⟨rfl,rfl⟩
 |false=>
  have h0:¬b<0:=of_decide_eq_false h1
  have h2:decide (P≤b)=true:=decide_eq_true (by omega)
  have h3:decide (b≥P)=true:=decide_eq_true (by omega)
  refine aue (ee5 hcb iW.eq_1 h1 h2 h3) ?_
  exact aF h' (by repeat (first|exact Hp.le_refl _|refine aK hd ?_ (by omega) _|refine aL hd ?_ (by omega))) ⟨rfl,rfl⟩
theorem aDn:aG Tryz.prog 68=some (LB.Clone (.agg 4) 32):=by kernel_rfl
theorem zU(n:Nat)(l:List We):aKz (dB l) n (mK n l n):=by
 refine⟨by simp[mK],fun a b ha hb=>?_⟩
 have h1:(mK n l n).getD a (.tup [])=mB n l a:=by
  unfold mK
  rw[eB _ _ _ a (by simpa using ha)]
  simp
 obtain⟨oc,hoc⟩:=gY (.agg 2) ((dB l a b).map Pa.v)
 refine⟨.free,_,h1,by simp[kB],oc,?_⟩
 rw[eB _ _ _ b (by simpa [kB] using hb)]
 simp[kB,hoc]
theorem aFi(L:Nat→Prop)(n:Nat)(l:List We)(a:Nat):(mB n l a).names L:=by
 unfold mB
 simp only[V.names,true_and,and_true]
 refine⟨fun n e=>(by cases e),?_⟩
 exact bI (f:=fun m:List Pa=>lst (.agg 2) (m.map Pa.v)) (fun m=>cE (fun L=>bI (Pa.names_v L) m) L) _
theorem aIs{P:Program}{f:FuncId}{args:List V}{h:Hp}{nx:Nat}{R:V→Hp→Nat→Prop}(hen:eQ P f=true)(c:aH h nx→aX P f args h nx R):aX P f args h nx R:=
 ⟨hen,fun K cargs hl hrel hv=>(c (fun m b hm=>hl m (hrel.lt m b hm))).2 K cargs hl hrel hv⟩
theorem aJI(o:Own){P:Int}{ws:List Wy}{n:Nat}{l:List We}(R:pD P ws n l)(hl:ws.length≤1000)(h:Hp):aW Tryz.prog 69 [mps o P ws] h (lst .leaf (mK n l n)):=by
 refine cK (fun L=>cE (fun L=>bI (fun a=>aFi L n l a) _) L) fun h' nx hh=>aIs (aFG o R hl h' nx).1 fun hd=>((aFG o R hl h' nx).mono ?_)
 rintro v h'' nx' hnx ⟨o2,rfl,hacc,hsm⟩
 exact⟨by rw[hacc.loose];rfl,hsm.le hd (Hp.le_refl _)⟩
theorem aHL(o:Own)(ws:List Wy)(hn:o= .nil→ws=[]):(wys o ws).loose=lst (.agg 4) (ws.map Wy.v)∨∃o2,(wys o ws).loose=wys o2 ws:=by
 right
 cases o with
 |nil=>exact⟨.nil,rfl⟩
 |full=>exact⟨.free,rfl⟩
 |free=>exact⟨.free,rfl⟩
 |tok n=>exact⟨.free,rfl⟩
set_option maxRecDepth 100000 in
theorem aEC(o:Own){P:Int}{ws:List Wy}{n:Nat}{l:List We}(R:pD P ws n l)(hl:ws.length≤1000)(hn:o= .nil→ws=[])(h':Hp)(nx:Nat):
 aX Tryz.prog 18 [mps o P ws] h' nx fun v h'' _=>∃cb m o2 ot,v= .tup [.ptr cb (.agg 4) 0 0, .nilIface]∧nx≤cb∧nx≤m∧cb≠m∧h''=(h'.set m (.mp [] 0)).set cb (.arr (.agg 4) [iW P (wys o2 ws) (.sl .leaf ot (mK n l n)) m]):=by
 have hr:gX P ws=true:=(kE P ws).2 ⟨n,l,R⟩
 refine aD L.count_New_low fun hd=>?_
 have hmf:(mps o P ws).fits (.agg 2)=true:=by simp[mps,V.fits,V.leafy,wys]
 simp only[List.length_cons,List.length_nil,Nat.reduceAdd,Nat.reduceSub,List.replicate_succ,List.replicate_zero,List.cons_append,List.nil_append,V.undef]
 obtain⟨o2,ho2⟩:∃o2,(wys o ws).loose=wys o2 ws:=by
  rcases aHL o ws hn with h|h
  ·obtain⟨ox,hx⟩:=gY (.agg 4) (ws.map Wy.v)
   exact⟨ox,h.trans hx⟩
  exact h
 have hcl:∀h,aW Tryz.prog 68 [wys o ws] h (wys o2 ws):=fun h=>by
  have:=aBc aDn (by omega) o (ws.map Wy.v) (by simp;omega) (fun e=>by rw[hn e];rfl) (fun L=>bI (Wy.names_v L) _) h
  rw[show(V.sl (.agg 4) o (ws.map Wy.v)).loose=wys o2 ws from ho2] at this
  exact this
 obtain⟨ot,hot⟩:=gY .leaf (mK n l n)
 have hall:∀h,aW Tryz.prog 69 [mps o2 P ws] h (.sl .leaf ot (mK n l n)):=fun h=>by
  have:=aJI o2 R hl h
  rw[hot] at this;exact this
 have hlw:(wys o2 ws).leafy=true:=rfl
 have hmps:∀o,mps o P ws= .agg [.int .i64 P,wys o ws]:=fun _=>rfl
 simp only[hmps] at hall hmf⊢
 have C1:=fun h=>mZ o P ws hl h
 have D1:=fun h=>hcl h
 have D2:=fun h=>hall h
 refine aue (ee3 hmf hr hlw) ?_
 refine lI ((h'.set (nx+12) (.mp [] 0)).set (nx+14) (.arr (.agg 4) [iW P (wys o2 ws) (.sl .leaf ot (mK n l n)) (nx+12)])) ?_ ⟨nx+14,nx+12,o2,ot,rfl,by omega,by omega,by omega,rfl⟩
 intro q b hb
 simp only[Hp.set_app] at hb⊢
 split at hb
 ·rename_i e;rw[if_pos e];exact hb
 rename_i e
 rw[if_neg e]
 split at hb
 ·rename_i e2;rw[if_pos e2];exact hb
 rename_i e2
 have:=hd q b hb
 rw[if_neg e2]
 repeat rw[if_neg (by omega)]
 exact hb
theorem aKe(o:Own){P:Int}{ws:List Wy}(hr:gX P ws=false)(hl:ws.length≤1000)(h:Hp):
 aW Tryz.prog 18 [mps o P ws] h (.tup [.nilPtr,jZ 2]):=by
 have hmf:(mps o P ws).fits (.agg 2)=true:=by simp[mps,V.fits,V.leafy,wys]
 refine aR (fun L=>by simp[V.names,bP,jZ]) fun h' nx hh=>aD L.count_New_low fun hd=>?_
 simp only[List.length_cons,List.length_nil,Nat.reduceAdd,Nat.reduceSub,List.replicate_succ,List.replicate_zero,List.cons_append,List.nil_append,V.undef]
 have C1:=fun h=>mZ o P ws hl h
 refine aue (ee2 hmf hr) ?_
 exact lI h' (by repeat (first|exact Hp.le_refl _|refine aK hd ?_ (by omega) _|refine aL hd ?_ (by omega))) ⟨rfl,rfl⟩
end Go.Proofs.YtemjhgboialjpaaGreat
namespace Go.Proofs.YtemjhgboialjpaaGreat
open Go.RowKit Go.Sort
def wO:List We:=[⟨0,1,⟨false,0⟩⟩]
def pK:List Wy:=[⟨0,1,⟨false,0⟩⟩]
theorem aCk:bT pK=pK:=by rw[mI];decide
theorem aGS:cC 2 pK=((2,pK),0):=by
 have h1:¬((2:Int)<0∨(200:Int)<2∨∃w∈pK,w.fit 2=false):=by decide
 have h2:¬(1048576:Int)<eL pK:=by decide
 have h3:¬(aBM (pK.map Wy.we)∨qT (pK.map Wy.we)):=by
  rintro(⟨y,hy⟩|⟨w,hw,hn,_⟩)
  ·have e1:∀a b,(a,b)∈zE (pK.map Wy.we)→a=0∧b=1:=by
    intro a b h
    have h:(a,b)∈ [((0:Nat),(1:Nat))]:=h
    simpa using h
   cases hy with
   |one h=>have:=e1 _ _ h;omega
   |cons h k=>
    have h1:=e1 _ _ h
    have:=k.closed (S:=fun x=>x=1) (fun a b ha hb=>(e1 _ _ hb).2) h1.2
    omega
  simp[pK,Wy.we] at hw
  rcases hw with rfl
  cases hn
 unfold cC
 rw[if_neg h1,aCk,if_neg h2,if_neg h3]
theorem aHx:pD 2 pK 2 wO:=by
 have h:(cC 2 pK).2=0:=by rw[aGS]
 obtain⟨n,l,R⟩:=aEF h
 rw[aCk] at R
 have hn:n=2:=by have:=R.pl;omega
 have hl:l=wO:=by
  have h2:=R.eq
  have hlen:l.length=1:=by have:=congrArg List.length h2;simpa [pK] using this.symm
  obtain⟨b,rfl⟩:=List.length_eq_one_iff.1 hlen
  obtain⟨f,t,p⟩:=b
  simp only[pK,List.map_cons,List.map_nil,We.wy,List.cons.injEq,Wy.mk.injEq,and_true] at h2
  obtain⟨q1,q2,q3⟩:=h2
  have e1:f=0:=by omega
  have e2:t=1:=by omega
  subst e1 e2
  rw[←q3];rfl
 subst hn hl
 exact R
theorem aHy:dB wO 0 1=[Pa.nought]:=
 wV ⟨by simp[Can],(fun p hp=>by simp at hp;subst hp;exact⟨wO,⟨by simp[wO],rfl,rfl⟩,rfl⟩),fun p ⟨l,h1,h2⟩=>⟨Pa.nought,by simp,aFY l (fun w hw=>by
  have:=aDK h1 w hw
  simp[wO] at this
  rcases this with rfl
  rfl) h2⟩⟩
theorem aHz:ofT (frT (dB wO) 1 [⟨0,⟨2,0⟩⟩])=[⟨2,0⟩]:=by
 have h:frT (dB wO) 1 [⟨0,⟨2,0⟩⟩]=[⟨2,0⟩]:=by
  unfold frT
  simp only[List.flatMap_cons,List.flatMap_nil,List.append_nil,Int.toNat_zero,show((0:Int).toNat)=0 from rfl,aHy]
  decide
 rw[h,aAa]
 decide
end Go.Proofs.YtemjhgboialjpaaGreat
namespace Go.Proofs.YtemjhgboialjpaaGreat
open Go.Proofs.YtemjhgboialjpaaGreat renaming fE→uA,dU→uB,cM→uC,cN→uD,bV→uE,fF→uF,bQ→uG,cO→uH,cP→uI,bW→uJ,bX→uK,cG→uL,dP→uM,fG→uN,dG→uO,aZ→uP,gR→uQ,fS→uR,dA→uS
open Go.RowKit
def aLi:Cg:=⟨⟨0,⟨2,0⟩⟩,1⟩
theorem aHA:dJ 2 [] 0 [aLi]=(0,[⟨⟨0,⟨2,0⟩⟩,1,0⟩],1):=by decide
def aKa:List CE:=[⟨⟨0,⟨2,0⟩⟩,1,0⟩]
theorem aJZ:dQ aKa 1:=⟨by decide,by decide,by decide,by decide⟩
theorem aIR:gS aKa=[⟨0,⟨2,0⟩⟩]:=by decide
attribute [local irreducible] IntKind.wrap
theorem sU(l:List We)(a k:Nat):(dB l a k).length≤2:=by
 unfold dB
 split
 ·rename_i h;exact pC (Classical.choose_spec h).can
 simp
theorem aDD(h:Hp):aW Tryz.prog 15 [] h (.bool true):=by
 refine aR (fun L=>trivial) fun h' nx hh=>aD L.corollarylaw23_alive_low fun hd=>?_
 simp only[jL,jM,jA,jB,jN,jO,jP,jQ,V.undef]
 have hnew:∀o h,aW Tryz.prog 65 [.int .i64 2, .sl (.agg 4) o [.agg [.int .i64 0, .int .i64 1, .bool false, .int .i64 0]]] h (.tup [.agg [.int .i64 2, .sl (.agg 4) .free (pK.map Wy.v)], .nilIface]):=fun o h=>by
  have:=aEE o 2 pK (by decide) h
  rw[aGS] at this
  exact this
 (repeat' (first|(with_reducible first|refine stp ?_|refine uP (by decide) ?_|refine uQ (fun _=>?_) (fun _=>?_))|((first|(with_reducible refine uA ?_;first|refine uB rfl ?_ ?_|refine aM (hnew _ _) rfl (aO _) ?_|(first|refine uC rfl ?_|refine uD rfl ?_)|refine uE rfl ?_)|(with_reducible refine uF ?_;first|refine uG rfl ?_ ?_|(first|refine uH rfl ?_|refine uI rfl ?_)|refine uJ rfl ?_|refine uK (uL ?_)|refine uK (uM ?_))|(with_reducible refine uN ?_;refine uO rfl ?_))<;>try simp only[ go_sem,reduceIte,jA,jB,jC,jD,reduceCtorEq,jE,jF])|(with_reducible refine uR ?_;refine uS rfl ?_)|omega))
 refine bS ((aEC .free aHx (by decide) (by simp) _ _).dom.mono ?_)
 rintro v h3 nx3 hnx3 ⟨⟨cb,m,o2,ot,rfl,hcb,hm,hne,rfl⟩,hdm3,_⟩
 have k1:=hdm3 cb _ (by simp[Hp.set];rfl)
 have k2:m<nx3:=hdm3 m (.mp [] 0) (by simp only[Hp.set_app];rw[if_neg (by omega)];simp)
 unfold dV
 simp only[go_sem,reduceIte,jA,jB,jC,jD,reduceCtorEq,jE,jF]
 refine au ?_
 refine bS ((aBh (.tok nx3) [aLi] (by decide) [] 0 (aCp 0) 2 (wys o2 pK) (.sl .leaf ot (mK 2 wO 2)) cb m _ _ ⟨?_,?_,rfl,rfl⟩).mono ?_)
 ·simp only[Hp.set_app];rw[if_neg (by omega)];simp
 ·simp only[Hp.set_app];rw[if_neg (by omega),if_neg (by omega)];simp
 rintro v h6 nx6 hnx6 ⟨hv,hq⟩
 rw[aHA] at hv hq
 have hv0:v= .nilIface:=hv
 subst hv0
 rcases hq with⟨h0,_⟩|⟨_,m2,hm2,hh6⟩
 ·exact absurd rfl h0
 dsimp only at hcb hm hm2 hh6
 have hc6:dF h6 cb m2 2 (wys o2 pK) (.sl .leaf ot (mK 2 wO 2)) aKa 1:=by
  refine⟨by rw[hh6];simp[Hp.set],?_,rfl,rfl⟩
  rw[hh6]
  simp only[Hp.set_app]
  rw[if_neg (by omega)]
  simp[aKa]
 have hfr:aW Tryz.prog 28 [.ptr cb (.agg 4) 0 0, .int .i64 1] h6 (.sl (.agg 2) .free [.agg [.int .i64 2, .int .i64 0]]):=by
  have:=rX hc6 aJZ (by decide) (dB wO) 2 rfl (zU 2 wO) (fun a b=>by have:=sU wO a b;omega) (by decide) 1 (by decide)
  rw[aIR,aHz] at this
  exact this
 have hle:h'.le h6:=by
  rw[hh6]
  intro q b hb
  have:=hd q b hb
  simp only[Hp.set_app]
  repeat rw[if_neg (by omega)]
  exact hb
 clear hh6
 unfold dV
 simp only[go_sem,reduceIte,jA,jB,jC,jD,reduceCtorEq,jE,jF]
 have q0:((2:Int)==2)=true:=by decide
 have q1:((0:Int)==0)=true:=by decide
 have q2:(((1:Nat):Int)==1)=true:=by decide
 have C5:=hfr
 refine aue (ee3 q0 q1 q2) ?_
 refine aF h' hle ⟨?_,rfl⟩
 simp only[go_sem,reduceIte,jA,jB,jC,jD,reduceCtorEq,jE,jF]
end Go.Proofs.YtemjhgboialjpaaGreat
namespace Go.Proofs.YtemjhgboialjpaaGreat
open Go.RowKit
attribute [local irreducible] IntKind.wrap
end Go.Proofs.YtemjhgboialjpaaGreat
namespace Go.Proofs.YtemjhgboialjpaaGreat
theorem aEx(a b:List Tm):ofT (ofT a++ofT b)=ofT (a++b):=by
 refine kL (kG _) (kG _) fun x=>?_
 rw[lC,lC]
 constructor
 ·rintro⟨h1,h2,h3⟩
  refine⟨?_,h2,fun y hy ho hle=>?_⟩
  ·rcases List.mem_append.1 h1 with h|h
   ·exact List.mem_append.2 (.inl (kR h).2)
   exact List.mem_append.2 (.inr (kR h).2)
  obtain⟨z,hz,hzo,hzy⟩:∃z,z∈ofT a++ofT b∧z.ok=true∧z.le y=true:=by
   rcases List.mem_append.1 hy with h|h
   ·obtain⟨z,hz,hl⟩:=rC h ho
    exact⟨z,List.mem_append.2 (.inl hz),(kR hz).1,hl⟩
   obtain⟨z,hz,hl⟩:=rC h ho
   exact⟨z,List.mem_append.2 (.inr hz),(kR hz).1,hl⟩
  have e:=h3 z hz hzo (Tm.le_trans hzy hle)
  rw[e] at hzy
  exact Tm.le_antisymm hle hzy
 rintro⟨h1,h2,h3⟩
 refine⟨?_,h2,fun y hy ho hle=>h3 y ?_ ho hle⟩
 ·rcases List.mem_append.1 h1 with h|h
  ·obtain⟨z,hz,hl⟩:=rC h h2
   have e:=h3 z (List.mem_append.2 (.inl (kR hz).2)) (kR hz).1 hl
   rw[e] at hz
   exact List.mem_append.2 (.inl hz)
  obtain⟨z,hz,hl⟩:=rC h h2
  have e:=h3 z (List.mem_append.2 (.inr (kR hz).2)) (kR hz).1 hl
  rw[e] at hz
  exact List.mem_append.2 (.inr hz)
 rcases List.mem_append.1 hy with h|h
 ·exact List.mem_append.2 (.inl (kR h).2)
 exact List.mem_append.2 (.inr (kR h).2)
def eI(t:Tm)(l:List Pa):List Tm:=l.flatMap fun p=>if (p.of t).2=0 then [(p.of t).1] else []
theorem aFw(t:Tm)(l:List Pa)(k:Nat)(h:k<l.length):eI t (l.take (k+1))=eI t (l.take k)++(if (l[k].of t).2=0 then [(l[k].of t).1] else []):=by
 unfold eI
 rw[List.take_succ_eq_append_getElem h,List.flatMap_append]
 simp
theorem yE(t:Tm)(p:Pa)(l:List Pa):eI t (p::l)=(if (p.of t).2=0 then [(p.of t).1] else [])++eI t l:=by simp[eI]
theorem aAW(t:Tm)(l:List Pa):(eI t l).length≤l.length:=by
 induction l with
 |nil=>simp[eI]
 |cons p l ih=>
  rw[yE,List.length_append,List.length_cons]
  split
  ·rw[List.length_singleton];omega
  rw[List.length_nil];omega
end Go.Proofs.YtemjhgboialjpaaGreat
