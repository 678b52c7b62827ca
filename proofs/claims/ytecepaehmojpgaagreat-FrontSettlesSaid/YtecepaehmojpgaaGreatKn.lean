/-
Texts of this proof,one behind the other. No conditions.
-/
import Derived.Test.YtecepaehmojpgaaGreatKd
import Derived.Test.YtecepaehmojpgaaGreatKm
import Derived.Test.YtecepaehmojpgaaGreatKe
import Derived.Test.YtecepaehmojpgaaGreatKg
import Derived.Test.YtecepaehmojpgaaGreatKf
import Derived.Test.YtecepaehmojpgaaGreatKl
import Derived.Test.YtecepaehmojpgaaGreatKh
set_option linter.unusedSimpArgs false
set_option linter.unusedVariables false
set_option linter.unusedSectionVars false
open Nat renaming reduceAdd→jA,reduceSub→jB,reduceLT→jC,reduceLeDiff→jD,reduceEqDiff→jE
open Int renaming reduceToNat→jF,toNat_natCast→jG,natCast_add→jH,natCast_one→jI,natCast_zero→jJ
open List renaming length_map→jK,length_cons→jL,length_nil→jM,replicate_succ→jN,replicate_zero→jO,cons_append→jP,nil_append→jQ
namespace Go.Proofs.YtecepaehmojpgaaGreat
open Go.RowKit
attribute [local irreducible] IntKind.wrap
def iX(P:Int)(wv lv:V)(m:Nat):V:= .agg [.int .i64 P,wv,lv, .map m]
structure dC(h:Hp)(cb m:Nat)(P:Int)(wv lv:V)(l:List CE)(c:Nat):Prop where
 cell:h cb=some (.arr (.agg 4) [iX P wv lv m])
 mp:h m=some (.mp (l.map CE.me) c)
 wf:wv.leafy=true
 lf:lv.leafy=true
theorem aHg{P:Int}{wv lv:V}{m:Nat}(hw:wv.leafy=true)(hl:lv.leafy=true):(iX P wv lv m).fits (.agg 4)=true:=by
 simp[iX,V.fits,hw,hl,uV,aBk]
theorem aGa(x:Cg)(h:Hp):aZ Tryz.prog 67 [x.v] h (.bool (!(decide (-1000000≤x.d)&&decide (x.d≤1000000)))):=by
 refine aU (fun L=>trivial) fun h' nx hh=>aD L.count_Counts_Apply_2_low fun hd=>?_
 simp only[List.length_cons,List.length_nil,Nat.reduceAdd,Nat.reduceSub,List.replicate_succ,List.replicate_zero,List.cons_append,List.nil_append,V.undef]
 have C1:=fun h=>tB x.d h
 refine aue Cg.v.eq_1 ?_
 exact aG h' (by repeat (first|exact Hp.le_refl _|refine aJ hd ?_ (by omega) _|refine aK hd ?_ (by omega))) ⟨rfl,rfl⟩
def eR(P:Int)(x:Cg):Bool:=decide (x.s.p<0)||decide (x.s.p≥P)|| !x.s.t.ok
theorem aBG(x:Cg){h:Hp}{cb cp m c:Nat}{P:Int}{wv lv:V}{l:List CE}(hc:dC h cb m P wv lv l c)(hp:h cp=some (.arr .leaf [.ptr cb (.agg 4) 0 0])):
 aZ Tryz.prog 65 [x.v, .ptr cp .leaf 0 0] h (.bool (eR P x)):=by
 refine aU (fun L=>trivial) fun h' nx hh=>aD L.count_Counts_Apply_1_low fun hd=>?_
 simp only[List.length_cons,List.length_nil,Nat.reduceAdd,Nat.reduceSub,List.replicate_succ,List.replicate_zero,List.cons_append,List.nil_append,V.undef]
 have c1:=hh _ _ hc.cell rfl
 have c2:=hh _ _ hp rfl
 have n1:cb<nx:=hd _ _ c1
 have n2:cp<nx:=hd _ _ c2
 have e1:(cb=nx)=False:=eq_false (by omega)
 have e2:(cp=nx)=False:=eq_false (by omega)
 have hrt:∀h,aZ Tryz.prog 66 [.agg [.int .i64 x.s.t.e, .int .i64 x.s.t.r]] h (.bool x.s.t.ok):=fun h=>nC x.s.t h
 unfold eR
 cases h1:decide (x.s.p<0) with
 |true=>
  have D1:=fun h=>hrt h
  refine aue (aIB Cg.v.eq_1 iX.eq_1 c1 c2 n1 n2 e1 e2 h1 Bool.true_or Bool.or_true) ?_
  exact aG h' (by repeat (first|exact Hp.le_refl _|refine aJ hd ?_ (by omega) _|refine aK hd ?_ (by omega))) ⟨rfl,rfl⟩
 |false=>
  cases h2:decide (x.s.p≥P) with
  |true=>
   have D1:=fun h=>hrt h
   refine aue (aKS Cg.v.eq_1 iX.eq_1 c1 c2 n1 n2 e1 e2 h1 h2 Bool.true_or Bool.or_true Bool.false_or) ?_
   exact aG h' (by repeat (first|exact Hp.le_refl _|refine aJ hd ?_ (by omega) _|refine aK hd ?_ (by omega))) ⟨rfl,rfl⟩
  |false=>
   have D1:=fun h=>hrt h
   refine aue (aKS Cg.v.eq_1 iX.eq_1 c1 c2 n1 n2 e1 e2 h1 h2 Bool.true_or Bool.or_true Bool.false_or) ?_
   exact aG h' (by repeat (first|exact Hp.le_refl _|refine aJ hd ?_ (by omega) _|refine aK hd ?_ (by omega))) ⟨rfl,rfl⟩
theorem aIt(s:Sp){h:Hp}{cb m c:Nat}{P:Int}{wv lv:V}{l:List CE}(hc:dC h cb m P wv lv l c):
 aZ Tryz.prog 43 [.ptr cb (.agg 4) 0 0,s.v] h (.int .i64 (cC l s)):=by
 refine aU (fun L=>trivial) fun h' nx hh=>aD L.count_Counts_Get_low fun hd=>?_
 simp only[List.length_cons,List.length_nil,Nat.reduceAdd,Nat.reduceSub,List.replicate_succ,List.replicate_zero,List.cons_append,List.nil_append,V.undef]
 have c1:=hh _ _ hc.cell rfl
 have c2:=hh _ _ hc.mp rfl
 have n1:cb<nx:=hd _ _ c1
 have n2:m<nx:=hd _ _ c2
 have e1:(cb=nx)=False:=eq_false (by omega)
 have e2:(m=nx)=False:=eq_false (by omega)
 have hlp:bY (.agg 3) 0 s.v=s.v:=rfl
 have hsf:=Sp.fits_v s
 have hmf:=iM s l
 have hmg:=sK l s
 refine aue (aIB iX.eq_1 c1 c2 n1 n2 e1 e2 hlp hsf hmf hmg) ?_
 exact aG h' (by repeat (first|exact Hp.le_refl _|refine aJ hd ?_ (by omega) _|refine aK hd ?_ (by omega))) ⟨rfl,rfl⟩
end Go.Proofs.YtecepaehmojpgaaGreat
namespace Go.Proofs.YtecepaehmojpgaaGreat
open Go.RowKit Go.Shelf
attribute [local irreducible] IntKind.wrap
theorem kH:aH Tryz.prog 69=some (LB.ContainsFunc (.agg 4) 105):=by kernel_rfl
theorem mQ:aH Tryz.prog 105=some (LB.IndexFunc (.agg 4)):=by kernel_rfl
def dV(n:Int):Bool:= !(decide (-1000000≤n)&&decide (n≤1000000))
def aT(P:Int)(l:List CE)(c:Nat)(r:List Cg):Int×List CE×Nat:=
 if r.any (eR P)=true then (2,l,c) else if r.any (fun x=>dV x.d)=true then (1,l,c) else
 if (eF l c r).1.any (fun y=>dV y.n)=true then (1,l,c) else (0,(eF l c r).1,(eF l c r).2)
set_option maxRecDepth 100000 in
set_option maxHeartbeats 4000000 in
theorem aFt(o:Own)(r:List Cg)(hr:r.length≤100000)(l:List CE)(c:Nat)(hok:dQ l c)(P:Int)(wv lv:V)(cb m:Nat)(h':Hp)(nx:Nat)(hc:dC h' cb m P wv lv l c):
 aW Tryz.prog 36 [.ptr cb (.agg 4) 0 0,cgs o r] h' nx fun v h'' _=>v=dO (aT P l c r).1∧
  (((aT P l c r).1≠0∧h''=h')∨((aT P l c r).1=0∧∃m2,nx≤m2∧h''=(h'.set m2 (.mp ((aT P l c r).2.1.map CE.me) (aT P l c r).2.2)).set cb (.arr (.agg 4) [iX P wv lv m2]))):=by
 refine aD L.count_Counts_Apply_low fun hd=>?_
 simp only[jL,jM,jA,jB,jN,jO,jP,jQ,V.undef]
 have hcb:=hc.cell
 have hcm:=hc.mp
 have n1:cb<nx:=hd _ _ hcb
 have n2:m<nx:=hd _ _ hcm
 have e1:(cb=nx)=False:=eq_false (by omega)
 have hbase:dC (h'.set nx (.arr .leaf [.ptr cb (.agg 4) 0 0])) cb m P wv lv l c:=⟨by simp only[Hp.set];rw[if_neg (by omega)];exact hcb,by simp only[Hp.set];rw[if_neg (by omega)];exact hcm,hc.wf,hc.lf⟩
 have hst:aZ Tryz.prog 69 [.sl (.agg 4) o (r.map Cg.v), .fn (.func 65) [] [.ptr nx .leaf 0 0]] (h'.set nx (.arr .leaf [.ptr cb (.agg 4) 0 0])) (.bool (r.any (eR P))):=
  dB Cg.v Cg.fits_v kH mQ (eR P) o r _ [.ptr nx .leaf 0 0] _ (fun x _=>aBG x hbase (by simp[Hp.set])) (by omega)
 have hwd:aZ Tryz.prog 69 [.sl (.agg 4) o (r.map Cg.v), .fn (.func 67) [] []] (h'.set nx (.arr .leaf [.ptr cb (.agg 4) 0 0])) (.bool (r.any fun x=>dV x.d)):=
  dB Cg.v Cg.fits_v kH mQ (fun x=>dV x.d) o r _ [] _ (fun x _=>aGa x _) (by omega)
 unfold aT
 cases hs:r.any (eR P) with
 |true=>
  rw[hs] at hst
  have C5:=hst
  refine aue cgs.eq_1 ?_
  exact aG h' (by repeat (first|exact Hp.le_refl _|refine aJ hd ?_ (by omega) _|refine aK hd ?_ (by omega))) ⟨rfl, .inl ⟨by simp,rfl⟩⟩
 |false=>
  rw[hs] at hst
  cases hw:r.any (fun x=>dV x.d) with
  |true=>
   rw[hw] at hwd
   have C5:=hst
   have C6:=hwd
   refine aue cgs.eq_1 ?_
   exact aG h' (by repeat (first|exact Hp.le_refl _|refine aJ hd ?_ (by omega) _|refine aK hd ?_ (by omega))) ⟨rfl, .inl ⟨by simp,rfl⟩⟩
  |false=>
   rw[hw] at hwd
   simp only[Bool.false_eq_true,if_false]
   have C5:=hst
   have C6:=hwd
   refine aue (ee5 cgs.eq_1 hbase.cell e1 hcb iX.eq_1) ?_
   refine aX ((oT aJS (by kernel_rfl) m (l.map CE.me) c _ _ ?_).mono ?_)
   ·simp only[Hp.set_app];rw[if_neg (by omega)];exact hcm
   rintro v h3 nx3 hnx3 ⟨rfl,rfl,rfl⟩
   unfold cR
   simp only[go_sem,reduceIte,jA,jB,jC,jD,reduceCtorEq,jE,jF]
   refine aue trivial ?_
   obtain⟨A,hA⟩:∃A:Nat→List CE×Nat,∀i,A i=eF l c (r.take i):=⟨_,fun _=>rfl⟩
   refine aY (fun i:Nat=>aB 58 0 [(2, .ptr nx .leaf 0 0),(7, .map (nx+1)),(31,cgs o r),(32, .int .i64 r.length),(33, .int .i64 i)])
    (fun i hp nx1=>i≤r.length∧nx+2≤nx1∧aM hp nx1∧Hp.same (nx+1) (h'.set nx (.arr .leaf [.ptr cb (.agg 4) 0 0])) hp∧hp (nx+1)=some (.mp ((A i).1.map CE.me) (A i).2))
    (fun i=>r.length-i) 0 ⟨Nat.zero_le _,by simp,(by(try dsimp only);repeat (first|exact aM.up hd (by omega)|refine aM.set2 ?_ (by omega) _|refine aM.del ?_|refine aM.delO ?_ _)),(by(try dsimp only);repeat (first|exact Hp.same.rfl'|refine bJ ?_ (by omega) _|refine bO ?_ (by omega))),?_⟩ ?_ ?_
   ·rw[hA];simp[Hp.set,eF]
   ·simp only[WkL,aB,jH,jI,jJ,cgs,go_sem,reduceIte,jA,jB,jC,jD,reduceCtorEq,jE,jF]
   rintro i hp nx1 ⟨hi,hnx,hdm,hsm,hmp⟩
   generalize hQ:bZ _ _ _ _ _=Q0
   simp only[aB,cgs,go_sem,reduceIte,jA,jB,jC,jD,reduceCtorEq,jE,jF]
   have hok1:=(mZ (r.take i) hok)
   rw[←hA] at hok1
   rcases Nat.lt_or_ge i r.length with hlt|hge
   ·have hc1:decide ((i:Int)<(r.length:Int))=true:=decide_eq_true (by omega)
    have hg:(r.map Cg.v).getD i (.tup [])= .agg [.int .i64 r[i].s.p, .int .i64 r[i].s.t.e, .int .i64 r[i].s.t.r, .int .i64 r[i].d]:=dM Cg.v _ r i hlt
    have hwp:IntKind.i64.wrap ((i:Int)+1)=((i+1:Nat):Int):=by rw[bM]<;>omega
    refine aue (ee4 hc1 hg hlt hwp) ?_
    refine aX ((aIT (A i).1 (A i).2 hok1.1 r[i].s r[i].d (nx+1) _ _ ?_).dom.mono ?_)
    ·simp only[Hp.set_app];rw[if_neg (by omega),if_neg (by omega)];exact hmp
    rintro v h3 nx3 hnx3 ⟨rfl,hdm3,_⟩
    unfold cR
    simp only[go_sem,reduceIte,jA,jB,jC,jD,reduceCtorEq,jE,jF]
    refine aue hwp ?_
    rw[←hQ]
    refine aI (i+1) (by omega) ⟨hlt,by dsimp only at hnx3⊢;omega,hdm3,?_,?_⟩ ?_
    ·refine fun m hm=>?_
     simp only[Hp.set_app]
     rw[if_neg (by omega),if_neg (by omega),if_neg (by omega)]
     have:=hsm m hm
     simp only[Hp.set_app] at this
     exact this
    ·have e:A (i+1)=tM (A i).1 (A i).2 r[i].s r[i].d:=by
      rw[hA,hA,List.take_succ_eq_append_getElem hlt,wK]
     rw[e]
     simp only[Hp.set_app,if_true,reduceIte]
    simp only[WkL,aB,jH,jI,jJ,cgs,go_sem,reduceIte,jA,jB,jC,jD,reduceCtorEq,jE,jF]
   have hc1:decide ((i:Int)<(r.length:Int))=false:=decide_eq_false (by omega)
   have hil:r.take i=r:=List.take_of_length_le (by omega)
   rw[hil] at hok1
   have hAl:A i=eF l c r:=by rw[hA,hil]
   rw[hAl] at hmp hok1
   obtain⟨hok2,_,hlen2⟩:=hok1
   refine aue hc1 ?_
   rw[←hQ]
   clear hQ Q0
   generalize (eF l c r).1=L2 at*
   generalize (eF l c r).2=c2 at*
   refine au ?_
   refine yO rfl hmp ?_
   simp only[go_sem,reduceIte,jA,jB,jC,jD,reduceCtorEq,jE,jF]
   refine au ?_
   refine aY (fun _:List CE=>aB 58 0 [(2, .ptr nx .leaf 0 0),(7, .map (nx+1)),(45, .ptr nx1 .leaf 0 0)])
    (fun js hp2 nx2=>(js.map fun y=>(CE.me y).b).Nodup∧(∀y∈js,y∈L2)∧(∀y∈js,dV y.n=false)∧nx1+1≤nx2∧aM hp2 nx2∧Hp.same (nx+1) (h'.set nx (.arr .leaf [.ptr cb (.agg 4) 0 0])) hp2∧hp2 (nx+1)=some (.mp (L2.map CE.me) c2)∧hp2 nx1=some (.mit (nx+1) c2 (js.map fun y=>(CE.me y).b) c2))
    (fun js=>L2.length-js.length) [] ⟨by simp,by simp,by simp,by simp,(by(try dsimp only);repeat (first|exact aM.up hdm (by omega)|refine aM.set2 ?_ (by omega) _|refine aM.del ?_|refine aM.delO ?_ _)),(by(try dsimp only);repeat (first|exact hsm|refine bJ ?_ (by omega) _|refine bO ?_ (by omega))),?_,?_⟩ ?_ ?_
   ·simp only[Hp.set_app];rw[if_neg (by omega)];exact hmp
   ·simp[Hp.set]
   ·simp only[WkL,aB,jH,jI,jJ,go_sem,reduceIte,jA,jB,jC,jD,reduceCtorEq,jE,jF]
   rintro js hp2 nx2 ⟨hjn,hjl,hjw,hn2,hdm2,hsm2,hmp2,hit⟩
   generalize hQ:bZ _ _ _ _ _=Q0
   simp only[aB,go_sem,reduceIte,jA,jB,jC,jD,reduceCtorEq,jE,jF]
   repeat (first|with_reducible refine bI ?_|with_reducible refine cT ?_|with_reducible refine dZ ?_|with_reducible refine aO ?_|with_reducible refine bT ?_|with_reducible refine bN ?_|with_reducible refine dL ?_)
   refine yQ rfl hit hmp2 (fun x hx=>by obtain⟨y,hy,rfl⟩:=List.mem_map.1 hx;exact hok2.lt y hy) (Nat.le_refl _) ?_ ?_
   ·intro x hx hxn
    obtain⟨y,hy,rfl⟩:=List.mem_map.1 hx
    have hmore:=yF (fun y=>(CE.me y).b) hjn hxn
    have hshort:=tX (fun y=>(CE.me y).b) hjn hjl hy hxn
    have hfind:=aCf CE.me hok2.num hy
    simp only[go_sem,reduceIte,jA,jB,jC,jD,reduceCtorEq,jE,jF]
    refine au ?_
    refine yR (es:=L2.map CE.me) (c:=c2) (m:=nx+1) (since:=c2) (seen:=(js.map fun y=>(CE.me y).b)++[(CE.me y).b]) rfl ?_ ?_ (b:=(CE.me y).b) (by simp) hfind ?_
    ·simp only[Hp.set_app,reduceIte]
    ·simp only[Hp.set_app];rw[if_neg (by omega)];exact hmp2
    have hyn:(CE.me y).v= .int .i64 y.n:=rfl
    simp only[hyn,go_sem,reduceIte,jA,jB,jC,jD,reduceCtorEq,jE,jF]
    have hwi:∀h,aZ Tryz.prog 68 [.int .i64 y.n] h (.bool (!(dV y.n))):=fun h=>by
     have:=tB y.n h
     unfold dV
     rw[Bool.not_not];exact this
    cases hwy:dV y.n with
    |true=>
     rw[hwy] at hwi
     have hany:L2.any (fun y=>dV y.n)=true:=List.any_eq_true.2 ⟨y,hy,hwy⟩
     have C1:=fun h=>hwi h
     refine aue (ee2 Bool.not_true Bool.not_false) ?_
     rw[←hQ]
     refine au ?_
     simp only[hany,if_true]
     refine aG h' ?_ ⟨rfl, .inl ⟨by simp,rfl⟩⟩
     intro n b hb
     have hn:=hd n b hb
     simp only[Hp.set_app]
     rw[if_neg (by omega),hsm2 n (by omega)]
     simp only[Hp.set_app]
     rw[if_neg (by omega)];exact hb
    |false=>
     rw[hwy] at hwi
     have C1:=fun h=>hwi h
     refine aue (ee2 Bool.not_true Bool.not_false) ?_
     rw[←hQ]
     refine aI (js++[y]) (by simp only[List.length_append,jL,jM];omega) ⟨hmore,?_,?_,by first|omega|(dsimp only;omega),(by(try dsimp only);repeat (first|exact aM.up hdm2 (by omega)|refine aM.set2 ?_ (by omega) _|refine aM.del ?_|refine aM.delO ?_ _)),(by(try dsimp only);repeat (first|exact hsm2|refine bJ ?_ (by omega) _|refine bO ?_ (by omega))),?_,?_⟩ ?_
     ·intro q hq
      rcases List.mem_append.1 hq with hq|hq
      ·exact hjl q hq
      rw[List.mem_singleton.1 hq];exact hy
     ·intro q hq
      rcases List.mem_append.1 hq with hq|hq
      ·exact hjw q hq
      rw[List.mem_singleton.1 hq];exact hwy
     ·simp only[Hp.set_app];rw[if_neg (by omega)];exact hmp2
     ·simp only[Hp.set_app,reduceIte,List.map_append,List.map_cons,List.map_nil]
     simp only[WkL,aB,jH,jI,jJ,go_sem,reduceIte,jA,jB,jC,jD,reduceCtorEq,jE,jF]
   intro hall
   have hperm:=aBW (fun y=>(CE.me y).b) hok2.num hjn hjl (fun y hy=>hall _ (List.mem_map.2 ⟨y,hy,rfl⟩))
   have hany:L2.any (fun y=>dV y.n)=false:=by
    rw[List.any_eq_false]
    intro y hy
    rw[hjw y (hperm.mem_iff.2 hy)];simp
   have d1:hp2 nx=some (.arr .leaf [.ptr cb (.agg 4) 0 0]):=by rw[hsm2 nx (by omega)];simp[Hp.set]
   have d2:hp2 cb=some (.arr (.agg 4) [.agg [.int .i64 P,wv,lv, .map m]]):=by rw[hsm2 cb (by omega)];simp only[Hp.set_app];rw[if_neg (by omega)];exact hcb
   have hwf:=hc.wf
   have hlf:=hc.lf
   simp only[go_sem,reduceIte,jA,jB,jC,jD,reduceCtorEq,jE,jF]
   refine au ?_
   rw[←hQ]
   refine aue (ee4 d1 d2 hwf hlf) ?_
   simp only[hany,Bool.false_eq_true,if_false]
   refine aG ((h'.set (nx+1) (.mp (L2.map CE.me) c2)).set cb (.arr (.agg 4) [iX P wv lv (nx+1)])) ?_ ⟨rfl, .inr ⟨trivial,nx+1,by omega,rfl⟩⟩
   intro n b hb
   simp only[Hp.set_app] at hb⊢
   split at hb
   ·rename_i e;rw[if_pos e];exact hb
   rename_i e
   rw[if_neg e]
   split at hb
   ·rename_i e2;rw[e2,hmp2];exact hb
   have hn:=hd n b hb
   rw[hsm2 n (by omega)]
   simp only[Hp.set_app]
   rw[if_neg (by omega)];exact hb
end Go.Proofs.YtecepaehmojpgaaGreat
namespace Go.Proofs.YtecepaehmojpgaaGreat
open Go.RowKit
attribute [local irreducible] IntKind.wrap
def eC(l:List CE):List Sp:=(l.filter fun y=>decide (y.n>0)).map (·.s)
theorem aHn(l:List CE)(y:CE):eC (l++[y])=eC l++if decide (y.n>0)=true then [y.s] else []:=by
 unfold eC
 rw[List.filter_append,List.map_append]
 congr 1
 by_cases h:y.n>0<;>simp[h]
theorem aAd(l:List CE):(eC l).length≤l.length:=by
 unfold eC
 rw[jK]
 exact List.length_filter_le _ _
set_option maxRecDepth 100000 in
set_option maxHeartbeats 4000000 in
theorem aEf{h':Hp}{nx cb m c:Nat}{P:Int}{wv lv:V}{l:List CE}(hc:dC h' cb m P wv lv l c)(hok:dQ l c)(hl:l.length≤1000000):
 aW Tryz.prog 74 [.ptr cb (.agg 4) 0 0] h' nx fun v h'' _=>∃(o:Own) (xs:List Sp),v= .sl (.agg 3) o (xs.map Sp.v)∧xs.Perm (eC l)∧Acc h'' nx o (xs.map Sp.v)∧Hp.same nx h' h'':=by
 refine aD L.count_Counts_active_low fun hd=>?_
 simp only[jL,jM,jA,jB,jN,jO,jP,jQ,V.undef]
 have hcb:=hc.cell
 have hcm:=hc.mp
 have n1:cb<nx:=hd _ _ hcb
 have n2:m<nx:=hd _ _ hcm
 refine aue (ee2 hcb iX.eq_1) ?_
 refine yO rfl hcm ?_
 simp only[go_sem,reduceIte,jA,jB,jC,jD,reduceCtorEq,jE,jF]
 refine au ?_
 refine aY (fun q:List CE×Own=>aB 23 0 [(3, .sl (.agg 3) q.2 ((eC q.1).map Sp.v)),(10, .ptr nx .leaf 0 0)])
  (fun q hp nx1=>(q.1.map fun y=>(CE.me y).b).Nodup∧(∀y∈q.1,y∈l)∧nx+1≤nx1∧aM hp nx1∧Hp.same nx h' hp∧hp nx=some (.mit m c (q.1.map fun y=>(CE.me y).b) c)∧Acc hp (nx+1) q.2 ((eC q.1).map Sp.v))
  (fun q=>l.length-q.1.length) ([], .nil) ⟨by simp,by simp,by simp,(by(try dsimp only);repeat (first|exact aM.up hd (by omega)|refine aM.set2 ?_ (by omega) _|refine aM.del ?_|refine aM.delO ?_ _)),(by(try dsimp only);repeat (first|exact Hp.same.rfl'|refine bJ ?_ (by omega) _|refine bO ?_ (by omega))),by simp[Hp.set],Acc.nil⟩ ?_ ?_
 ·simp only[WkL,aB,jH,jI,jJ,eC,List.filter_nil,List.map_nil,go_sem,reduceIte,jA,jB,jC,jD,reduceCtorEq,jE,jF]
 rintro⟨js,o⟩ hp nx1 ⟨hjn,hjl,hn1,hdm,hsm,hit,hacc⟩
 generalize hQ:bZ _ _ _ _ _=Q0
 dsimp only at hjn hjl hit hacc
 have hmp:hp m=some (.mp (l.map CE.me) c):=by rw[hsm m n2];exact hcm
 simp only[aB,go_sem,reduceIte,jA,jB,jC,jD,reduceCtorEq,jE,jF]
 repeat (first|with_reducible refine bI ?_|with_reducible refine cT ?_|with_reducible refine dZ ?_|with_reducible refine aO ?_|with_reducible refine bT ?_|with_reducible refine bN ?_|with_reducible refine dL ?_)
 refine yQ rfl hit hmp (fun x hx=>by obtain⟨y,hy,rfl⟩:=List.mem_map.1 hx;exact hok.lt y hy) (Nat.le_refl _) ?_ ?_
 ·intro x hx hxn
  obtain⟨y,hy,rfl⟩:=List.mem_map.1 hx
  have hmore:=yF (fun y=>(CE.me y).b) hjn hxn
  have hshort:=tX (fun y=>(CE.me y).b) hjn hjl hy hxn
  have hfind:=aCf CE.me hok.num hy
  simp only[go_sem,reduceIte,jA,jB,jC,jD,reduceCtorEq,jE,jF]
  refine au ?_
  refine yR (es:=l.map CE.me) (c:=c) (m:=m) (since:=c) (seen:=(js.map fun y=>(CE.me y).b)++[(CE.me y).b]) rfl ?_ ?_ (b:=(CE.me y).b) (by simp) hfind ?_
  ·simp only[Hp.set_app,reduceIte]
  ·simp only[Hp.set_app];rw[if_neg (by omega)];exact hmp
  have hyn:(CE.me y).v= .int .i64 y.n:=rfl
  have hyk:(CE.me y).k= .agg [.int .i64 y.s.p, .int .i64 y.s.t.e, .int .i64 y.s.t.r]:=rfl
  have hlenA:((eC js).map Sp.v).length=(eC js).length:=by simp
  have hcap:(eC js).length≤1000000:=by have:=aAd js;omega
  have hmem:∀q∈js++[y],q∈l:=fun q hq=>by
   rcases List.mem_append.1 hq with hq|hq
   ·exact hjl q hq
   rw[List.mem_singleton.1 hq];exact hy
  have hsn:=aHn js y
  have hacc2:Acc (hp.set nx (.mit m c ((js.map fun y=>(CE.me y).b)++[(CE.me y).b]) c)) (nx+1) o ((eC js).map Sp.v):=by
   rcases hacc with h|⟨h1,id,h2,h3,h4⟩
   ·exact .inl h
   exact .inr ⟨h1,id,h2,h3,by simp only[Hp.set_app];rw[if_neg (by omega)];exact h4⟩
  have hdm2:aM (hp.set nx (.mit m c ((js.map fun y=>(CE.me y).b)++[(CE.me y).b]) c)) nx1:=aM.set2 hdm (by omega) _
  have hsm2:Hp.same nx h' (hp.set nx (.mit m c ((js.map fun y=>(CE.me y).b)++[(CE.me y).b]) c)):=bJ hsm (Nat.le_refl _) _
  have hit2:(hp.set nx (.mit m c ((js.map fun y=>(CE.me y).b)++[(CE.me y).b]) c)) nx=some (.mit m c ((js++[y]).map fun y=>(CE.me y).b) c):=by simp[Hp.set]
  generalize hp.set nx (.mit m c ((js.map fun y=>(CE.me y).b)++[(CE.me y).b]) c)=hp2 at hacc2 hdm2 hsm2 hit2⊢
  simp only[hyn,hyk,go_sem,reduceIte,jA,jB,jC,jD,reduceCtorEq,jE,jF]
  cases hpos:decide (y.n>0) with
  |true=>
   rw[hpos,if_pos rfl] at hsn
   have hpos':decide (y.n>0)=true:=hpos
   have hacc:=hacc2
   have hdm:=hdm2
   refine aue (ee2 hpos hlenA) ?_
   rw[←hQ]
   refine aI (js++[y], .tok (nx1+5)) (by simp only[List.length_append,jL,jM];omega) ⟨hmore,hmem,by first|omega|(dsimp only;omega),(by(try dsimp only);repeat (first|exact aM.up hdm2 (by omega)|refine aM.set2 ?_ (by omega) _|refine aM.del ?_|refine aM.delO ?_ _)),(by(try dsimp only);repeat (first|exact hsm2|refine bJ ?_ (by omega) _|refine bO ?_ (by omega)|refine fO ?_ (fun id e=>by have:=(hacc2).ge id e;omega))),?_,?_⟩ ?_
   ·refine Eq.trans ((?_:Hp.same (nx+1) hp2 _) nx (by omega)) hit2
    exact(by(try dsimp only);repeat (first|exact Hp.same.rfl'|refine bJ ?_ (by omega) _|refine bO ?_ (by omega)|refine fO ?_ (fun id e=>by have:=(hacc2).ge id e;omega)))
   ·dsimp only;rw[hsn,List.map_append];exact Acc.new _ (by simp) (by omega)
   simp only[WkL,aB,jH,jI,jJ,hsn,List.map_append,Sp.v,go_sem,reduceIte,jA,jB,jC,jD,reduceCtorEq,jE,jF]
  |false=>
   rw[hpos,if_neg (by simp),List.append_nil] at hsn
   refine aue (ee2 hpos hlenA) ?_
   rw[←hQ]
   refine aI (js++[y],o) (by simp only[List.length_append,jL,jM];omega) ⟨hmore,hmem,by first|omega|(dsimp only;omega),(by(try dsimp only);repeat (first|exact aM.up hdm2 (by omega)|refine aM.set2 ?_ (by omega) _|refine aM.del ?_|refine aM.delO ?_ _)),(by(try dsimp only);repeat (first|exact hsm2|refine bJ ?_ (by omega) _|refine bO ?_ (by omega)|refine fO ?_ (fun id e=>by have:=(hacc2).ge id e;omega))),?_,?_⟩ ?_
   ·refine Eq.trans ((?_:Hp.same (nx+1) hp2 _) nx (by omega)) hit2
    exact(by(try dsimp only);repeat (first|exact Hp.same.rfl'|refine bJ ?_ (by omega) _|refine bO ?_ (by omega)|refine fO ?_ (fun id e=>by have:=(hacc2).ge id e;omega)))
   ·dsimp only;rw[hsn];exact(by(try dsimp only);repeat' (first|exact hacc2|exact Acc.new _ (by simp) (by omega)|exact kD.new (by omega)|exact aM.ntip hdm2 (by omega)|exact gS|exact iY (by assumption)|refine gQ (by omega) ?_|refine gR ?_|refine Acc.set ?_ ?_ _|refine kD.set ?_ ?_ _))
   simp only[WkL,aB,jH,jI,jJ,hsn,go_sem,reduceIte,jA,jB,jC,jD,reduceCtorEq,jE,jF]
 intro hall
 have hperm:=aBW (fun y=>(CE.me y).b) hok.num hjn hjl (fun y hy=>hall _ (List.mem_map.2 ⟨y,hy,rfl⟩))
 simp only[go_sem,reduceIte,jA,jB,jC,jD,reduceCtorEq,jE,jF]
 refine au ?_
 rw[←hQ]
 refine au ?_
 refine aG hp (Hp.le_refl _) ⟨o,eC js,?_,?_,?_,hsm⟩
 ·simp only[go_sem,reduceIte,jA,jB,jC,jD,reduceCtorEq,jE,jF]
 ·exact(hperm.filter _).map _
 rcases hacc with h|⟨h1,id,h2,h3,h4⟩
 ·exact .inl h
 exact .inr ⟨h1,id,by omega,h3,h4⟩
end Go.Proofs.YtecepaehmojpgaaGreat
namespace Go.Proofs.YtecepaehmojpgaaGreat
open Go.Proofs.YtecepaehmojpgaaGreat renaming gW→uA,fK→uB,cU→uC,cV→uD,cK→uE,gX→uF,dI→uG,cW→uH,cX→uI,cL→uJ,dH→uK,dN→uL,fL→uM,gY→uN,eG→uO,bQ→uP,kN→uQ,iP→uR,eU→uS
open Go.RowKit
attribute [local irreducible] IntKind.wrap
def iI(t:Tm):List Pa→List Tm
 | []=>[]
 |p::l=>(if (p.of t).2=0 then [(p.of t).1] else [])++iI t l
theorem aDd(t:Tm)(a b:List Pa):iI t (a++b)=iI t a++iI t b:=by
 induction a with
 |nil=>rfl
 |cons p a ih=>simp[iI,ih]
theorem aDc(t:Tm)(a:List Pa):(iI t a).length≤a.length:=by
 induction a with
 |nil=>simp[iI]
 |cons p a ih=>simp only[iI,List.length_append,jL];split<;>simp<;>omega
theorem aBe(t:Tm)(l:List Pa)(i:Nat)(h:i<l.length):iI t (l.take (i+1))=iI t (l.take i)++(if (l[i].of t).2=0 then [(l[i].of t).1] else []):=by
 rw[List.take_succ_eq_append_getElem h,aDd]
 simp[iI]
def frT(T:Nat→Nat→List Pa)(b:Nat)(xs:List Sp):List Tm:=xs.flatMap fun s=>iI s.t (T s.p.toNat b)
theorem aIy(T:Nat→Nat→List Pa)(b:Nat)(xs:List Sp)(i:Nat)(h:i<xs.length):frT T b (xs.take (i+1))=frT T b (xs.take i)++iI xs[i].t (T xs[i].p.toNat b):=by
 unfold frT
 rw[List.take_succ_eq_append_getElem h,List.flatMap_append]
 simp
theorem wZ(T:Nat→Nat→List Pa)(b K:Nat)(hT:∀a,(T a b).length≤K):∀xs:List Sp,(frT T b xs).length≤xs.length*K
 | []=>by simp[frT]
 |s::xs=>by
  have h1:=wZ T b K hT xs
  have h2:=aDc s.t (T s.p.toNat b)
  have h3:=hT s.p.toNat
  unfold frT at h1⊢
  rw[List.flatMap_cons,List.length_append,jL,Nat.add_mul]
  omega
theorem aHd{h H:Hp}{o:Own}{n0 n:Nat}{k:Sh}{es es':List V}(ha:Acc h n0 o es)(hn:h n=some (.arr k es')):(H.delO o) n=H n:=by
 rcases ha with⟨_,rfl⟩|⟨_,id,_,rfl,ht⟩
 ·rfl
 show H.del id n=H n
 unfold Hp.del
 rw[if_neg]
 rintro rfl
 rw[hn] at ht;cases ht
def aHq(T:Nat→Nat→List Pa)(n:Nat)(rows:List V):Prop:=rows.length=n∧
 ∀a b,a<n→b<n→∃o cells,rows.getD a (.tup [])= .sl .leaf o cells∧cells.length=n∧∃oc,cells.getD b (.tup [])= .sl (.agg 2) oc ((T a b).map Pa.v)
set_option maxRecDepth 100000 in
set_option maxHeartbeats 4000000 in
theorem aFf{h:Hp}{cb m c:Nat}{P:Int}{wv:V}{ot:Own}{rows:List V}{l:List CE}(hc:dC h cb m P wv (.sl .leaf ot rows) l c)(T:Nat→Nat→List Pa)(n:Nat)(hP:P=n)(hT:aHq T n rows)(hlen:∀a b,(T a b).length≤1000)
 (oa:Own) (xs:List Sp) (hxl:xs.length≤900) (hxs:∀s∈xs,0≤s.p∧s.p<n) (b:Nat) (hb:b<n):
 aZ Tryz.prog 75 [.ptr cb (.agg 4) 0 0, .sl (.agg 3) oa (xs.map Sp.v), .int .i64 b] h (lst (.agg 2) ((ofT (frT T b xs)).map Tm.v)):=by
 refine aU (fun L=>eV (fun L=>cF (Tm.names_v L) _) L) fun h' nx hh=>aD L.count_Counts_front_low fun hd=>?_
 simp only[jL,jM,jA,jB,jN,jO,jP,jQ,V.undef]
 have hcb:=hh _ _ hc.cell rfl
 have n1:cb<nx:=hd _ _ hcb
 refine aue trivial ?_
 refine aY (fun q:Nat×Own=>aB 53 0 [(0, .ptr cb (.agg 4) 0 0),(2, .int .i64 b),(7,tms q.2 (frT T b (xs.take q.1))),(14, .sl (.agg 3) oa (xs.map Sp.v)),(15, .int .i64 xs.length),(16, .int .i64 q.1)])
  (fun q hp nx1=>q.1≤xs.length∧nx≤nx1∧aM hp nx1∧Hp.same nx h' hp∧Acc hp nx q.2 ((frT T b (xs.take q.1)).map Tm.v))
  (fun q=>xs.length-q.1) (0, .nil) ⟨Nat.zero_le _,Nat.le_refl _,hd,Hp.same.rfl',Acc.nil⟩ ?_ ?_
 ·simp only[WkL,aB,jH,jI,jJ,tms,frT,List.take_zero,List.flatMap_nil,List.map_nil,go_sem,reduceIte,jA,jB,jC,jD,reduceCtorEq,jE,jF]
 rintro⟨i,o⟩ hp nx1 ⟨hi,hnx,hdm,hsm,hacc⟩
 generalize hQ:bZ _ _ _ _ _=Q0
 dsimp only at hi hacc
 simp only[aB,tms,go_sem,reduceIte,jA,jB,jC,jD,reduceCtorEq,jE,jF]
 rcases Nat.lt_or_ge i xs.length with hlt|hge
 ·have hc1:decide ((i:Int)<(xs.length:Int))=true:=decide_eq_true (by omega)
  have hg:(xs.map Sp.v).getD i (.tup [])= .agg [.int .i64 xs[i].p, .int .i64 xs[i].t.e, .int .i64 xs[i].t.r]:=dM Sp.v _ xs i hlt
  have hw:IntKind.i64.wrap ((i:Int)+1)=((i+1:Nat):Int):=by rw[bM]<;>omega
  obtain⟨hp0,hpn⟩:=hxs xs[i] (List.getElem_mem _)
  obtain⟨a,ha⟩:∃a:Nat,xs[i].p=a:=⟨xs[i].p.toNat,by omega⟩
  have han:a<n:=by omega
  have hta:xs[i].p.toNat=a:=by omega
  obtain⟨hrl,hrows⟩:=hT
  obtain⟨orow,cells,hrow,hcl,oc,hcell⟩:=hrows a b han hb
  have hgt:((rows.length:Nat):Int)=n:=by rw[hrl]
  have hcell1:hp cb=some (.arr (.agg 4) [.agg [.int .i64 P,wv, .sl .leaf ot rows, .map m]]):=by rw[hsm cb n1];exact hcb
  have hbox:cb<nx1:=by omega
  have c3:a<rows.length:=by omega
  have c4:b<cells.length:=by omega
  rw[ha] at hg
  refine aue (ee9 hc1 hg hlt hcell1 hbox hrow hcell c3 c4) ?_
  obtain⟨D,hD⟩:∃D,D=frT T b (xs.take i):=⟨_,rfl⟩
  have hDl:D.length≤i*1000:=by
   rw[hD]
   have:=wZ T b 1000 (fun a=>hlen a b) (xs.take i)
   rw[List.length_take,Nat.min_eq_left (by omega)] at this
   exact this
  obtain⟨ps,hps⟩:∃ps,ps=T a b:=⟨_,rfl⟩
  have hpl:ps.length≤1000:=by rw[hps];exact hlen a b
  rw[←hD] at hacc⊢
  rw[←hps]
  refine aY (fun q:Nat×Own=>aB 53 0 [(0, .ptr cb (.agg 4) 0 0),(2, .int .i64 b),(7,tms q.2 (D++iI xs[i].t (ps.take q.1))),(9, .ptr nx1 (.agg 3) 0 0),(14, .sl (.agg 3) oa (xs.map Sp.v)),(15, .int .i64 xs.length),(16, .int .i64 i),(30, .sl (.agg 2) oc (ps.map Pa.v)),(31, .int .i64 ps.length),(32, .int .i64 q.1)])
   (fun q hp2 nx2=>q.1≤ps.length∧nx1+1≤nx2∧aM hp2 nx2∧Hp.same nx h' hp2∧hp2 nx1=some (.arr (.agg 3) [.agg [.int .i64 a, .int .i64 xs[i].t.e, .int .i64 xs[i].t.r]])∧Acc hp2 nx q.2 ((D++iI xs[i].t (ps.take q.1)).map Tm.v))
   (fun q=>ps.length-q.1) (0,o) ⟨Nat.zero_le _,by first|omega|(dsimp only;omega),(by(try dsimp only);repeat (first|exact aM.up hdm (by omega)|refine aM.set2 ?_ (by omega) _|refine aM.del ?_|refine aM.delO ?_ _)),(by(try dsimp only);repeat (first|exact hsm|refine bJ ?_ (by omega) _|refine bO ?_ (by omega))),by simp[Hp.set],?_⟩ ?_ ?_
  ·simp only[List.take_zero,iI,List.append_nil]
   exact(by(try dsimp only);repeat' (first|exact hacc|exact Acc.new _ (by simp) (by omega)|exact kD.new (by omega)|exact aM.ntip hdm (by omega)|exact gS|exact iY (by assumption)|refine gQ (by omega) ?_|refine gR ?_|refine Acc.set ?_ ?_ _|refine kD.set ?_ ?_ _))
  ·simp only[WkL,aB,jH,jI,jJ,tms,iI,List.take_zero,List.append_nil,go_sem,reduceIte,jA,jB,jC,jD,reduceCtorEq,jE,jF]
  rintro⟨k,o2⟩ hp2 nx2 ⟨hk,hnx2,hdm2,hsm2,hbx,hacc2⟩
  generalize hQ2:bZ _ _ _ _ _=Q2
  dsimp only at hk hacc2
  simp only[aB,tms,go_sem,reduceIte,jA,jB,jC,jD,reduceCtorEq,jE,jF]
  have hlt0:nx1<nx2:=by omega
  have hcap:(D++iI xs[i].t (ps.take k)).length≤1000000:=by
   have h1:=aDc xs[i].t (ps.take k)
   have h2:(ps.take k).length≤1000:=by rw[List.length_take];omega
   rw[List.length_append];omega
  rcases Nat.lt_or_ge k ps.length with hltk|hgek
  ·have hck:decide ((k:Int)<(ps.length:Int))=true:=decide_eq_true (by omega)
   have hgk:(ps.map Pa.v).getD k (.tup [])=ps[k].v:=dM Pa.v _ ps k hltk
   have hwk:IntKind.i64.wrap ((k:Int)+1)=((k+1:Nat):Int):=by rw[bM]<;>omega
   have hof:∀h,aZ Tryz.prog 83 [ps[k].v, .agg [.int .i64 xs[i].t.e, .int .i64 xs[i].t.r]] h (.tup [(ps[k].of xs[i].t).1.v,dO (ps[k].of xs[i].t).2]):=fun h=>vX ps[k] xs[i].t h
   have hpf:=ps[k].fits_v
   (repeat' (first|(with_reducible first|refine stp ?_|refine uP (by decide) ?_|refine uQ (fun _=>?_) (fun _=>?_))|((first|(with_reducible refine uA ?_;first|refine uB rfl ?_ ?_|refine aQ (hof _) rfl (aR _) ?_|refine sR (n0:=nx) rfl (by(try dsimp only);repeat' (first|exact hacc2|exact Acc.new _ (by simp) (by omega)|exact kD.new (by omega)|exact aM.ntip hdm2 (by omega)|exact gS|exact iY (by assumption)|refine gQ (by omega) ?_|refine gR ?_|refine Acc.set ?_ ?_ _|refine kD.set ?_ ?_ _)) rfl (by simp) (by simp only[jK,hbx,hlt0,hck,hgk,hltk,hwk,dP,Tm.fits_v,hpf,jK,jG,go_sem,reduceIte,jA,jB,jC,jD,reduceCtorEq,jE,jF];try omega) ?_|(first|refine uC rfl ?_|refine uD rfl ?_)|refine uE rfl ?_)|(with_reducible refine uF ?_;first|refine uG rfl ?_ ?_|(first|refine uH rfl ?_|refine uI rfl ?_)|refine uJ rfl ?_|refine uK (uL ?_)|refine uK (uM ?_))|(with_reducible refine uN ?_;refine uO rfl ?_))<;>try simp only[hbx,hlt0,hck,hgk,hltk,hwk,dP,Tm.fits_v,hpf,jK,jG,go_sem,reduceIte,jA,jB,jC,jD,reduceCtorEq,jE,jF])|(with_reducible refine uR ?_;refine uS rfl ?_)|omega))
   ·rename_i hx
    have hn:iI xs[i].t (ps.take (k+1))=iI xs[i].t (ps.take k)++[(ps[k].of xs[i].t).1]:=by rw[aBe _ _ _ hltk,if_pos (of_decide_eq_true hx)]
    rw[←hQ2]
    refine aI (k+1, .tok (nx2+5)) (by dsimp only;omega) ⟨hltk,by first|omega|(dsimp only;omega),(by(try dsimp only);repeat (first|exact aM.up hdm2 (by omega)|refine aM.set2 ?_ (by omega) _|refine aM.del ?_|refine aM.delO ?_ _)),(by(try dsimp only);repeat (first|exact hsm2|refine bJ ?_ (by omega) _|refine bO ?_ (by omega)|refine fO ?_ (fun id e=>by have:=(hacc2).ge id e;omega))),?_,?_⟩ ?_
    ·simp only[Hp.set_app]
     rw[if_neg (by omega),aHd hacc2 hbx]
     simp only[Hp.set_app]
     repeat rw[if_neg (by omega)]
     exact hbx
    ·dsimp only;rw[hn,←List.append_assoc,List.map_append];exact Acc.new _ (by simp) (by omega)
    simp only[WkL,aB,jH,jI,jJ,tms,hn,List.map_append,List.map_cons,List.map_nil,List.append_assoc,go_sem,reduceIte,jA,jB,jC,jD,reduceCtorEq,jE,jF]
   rename_i hx
   have hn:iI xs[i].t (ps.take (k+1))=iI xs[i].t (ps.take k):=by rw[aBe _ _ _ hltk,if_neg (of_decide_eq_false hx),List.append_nil]
   rw[←hQ2]
   refine aI (k+1,o2) (by dsimp only;omega) ⟨hltk,by first|omega|(dsimp only;omega),(by(try dsimp only);repeat (first|exact aM.up hdm2 (by omega)|refine aM.set2 ?_ (by omega) _|refine aM.del ?_|refine aM.delO ?_ _)),(by(try dsimp only);repeat (first|exact hsm2|refine bJ ?_ (by omega) _|refine bO ?_ (by omega)|refine fO ?_ (fun id e=>by have:=(hacc2).ge id e;omega))),?_,?_⟩ ?_
   ·simp only[Hp.set_app]
    repeat rw[if_neg (by omega)]
    exact hbx
   ·dsimp only;rw[hn];exact(by(try dsimp only);repeat' (first|exact hacc2|exact Acc.new _ (by simp) (by omega)|exact kD.new (by omega)|exact aM.ntip hdm2 (by omega)|exact gS|exact iY (by assumption)|refine gQ (by omega) ?_|refine gR ?_|refine Acc.set ?_ ?_ _|refine kD.set ?_ ?_ _))
   simp only[WkL,aB,jH,jI,jJ,tms,hn,go_sem,reduceIte,jA,jB,jC,jD,reduceCtorEq,jE,jF]
  have hck:decide ((k:Int)<(ps.length:Int))=false:=decide_eq_false (by omega)
  have hil:ps.take k=ps:=List.take_of_length_le (by omega)
  rw[hil] at hacc2⊢
  have hnext:frT T b (xs.take (i+1))=D++iI xs[i].t ps:=by rw[aIy T b xs i hlt,hta,←hD,←hps]
  refine aue (ee2 hck hw) ?_
  rw[←hQ2]
  clear hQ2 Q2
  refine aue hw ?_
  rw[←hQ]
  refine aI (i+1,o2) (by dsimp only;omega) ⟨hlt,by first|omega|(dsimp only;omega),(by(try dsimp only);repeat (first|exact aM.up hdm2 (by omega)|refine aM.set2 ?_ (by omega) _|refine aM.del ?_|refine aM.delO ?_ _)),hsm2,by dsimp only;rw[hnext];exact hacc2⟩ ?_
  simp only[WkL,aB,jH,jI,jJ,tms,hnext,go_sem,reduceIte,jA,jB,jC,jD,reduceCtorEq,jE,jF]
 have hc1:decide ((i:Int)<(xs.length:Int))=false:=decide_eq_false (by omega)
 have hil:xs.take i=xs:=List.take_of_length_le (by omega)
 have hcap:(frT T b xs).length≤1000000:=by
  have:=wZ T b 1000 (fun a=>hlen a b) xs
  omega
 rw[hil] at hacc⊢
 refine aue hc1 ?_
 rw[←hQ]
 (repeat' (first|(with_reducible first|refine stp ?_|refine uP (by decide) ?_|refine uQ (fun _=>?_) (fun _=>?_))|((first|(with_reducible refine uA ?_;first|refine uB rfl ?_ ?_|refine aQ (aCq _ _ hcap _) rfl (aR _) ?_|(first|refine uC rfl ?_|refine uD rfl ?_)|refine uE rfl ?_)|(with_reducible refine uF ?_;first|refine uG rfl ?_ ?_|(first|refine uH rfl ?_|refine uI rfl ?_)|refine uJ rfl ?_|refine uK (uL ?_)|refine uK (uM ?_))|(with_reducible refine uN ?_;refine uO rfl ?_))<;>try simp only[ go_sem,reduceIte,jA,jB,jC,jD,reduceCtorEq,jE,jF])|(with_reducible refine uR ?_;refine uS rfl ?_)|omega))
 refine aG h' (hsm.le hd (Hp.le_refl _)) ⟨?_,rfl⟩
 simp only[go_sem,reduceIte,jA,jB,jC,jD,reduceCtorEq,jE,jF]
end Go.Proofs.YtecepaehmojpgaaGreat
namespace Go.Proofs.YtecepaehmojpgaaGreat
open Go.RowKit
attribute [local irreducible] IntKind.wrap
theorem aIa{T:Nat→Nat→List Pa}{b:Nat}{xs ys:List Sp}(h:xs.Perm ys):ofT (frT T b xs)=ofT (frT T b ys):=by
 refine aGv fun x _=>?_
 simp only[frT,List.mem_flatMap]
 exact⟨fun⟨s,h1,h2⟩=>⟨s,h.mem_iff.1 h1,h2⟩,fun⟨s,h1,h2⟩=>⟨s,h.mem_iff.2 h1,h2⟩⟩
theorem aCa:aH Tryz.prog 64=some (LB.Clone (.agg 4) 32):=by kernel_rfl
theorem oG(n:Nat)(l:List We):aHq (bG l) n (cH n l n):=by
 refine⟨by simp[cH],fun a b ha hb=>?_⟩
 have h1:(cH n l n).getD a (.tup [])=qN n l a:=by
  unfold cH
  rw[dM _ _ _ a (by simpa using ha)]
  simp
 obtain⟨oc,hoc⟩:=mC (.agg 2) ((bG l a b).map Pa.v)
 refine⟨.free,_,h1,by simp[qO],oc,?_⟩
 rw[dM _ _ _ b (by simpa [qO] using hb)]
 simp[qO,hoc]
theorem aDu(L:Nat→Prop)(n:Nat)(l:List We)(a:Nat):(qN n l a).names L:=by
 unfold qN
 simp only[V.names,true_and,and_true]
 refine⟨fun n e=>(by cases e),?_⟩
 exact cF (f:=fun m:List Pa=>lst (.agg 2) (m.map Pa.v)) (fun m=>eV (fun L=>cF (Pa.names_v L) m) L) _
theorem aHo{P:Program}{f:FuncId}{args:List V}{h:Hp}{nx:Nat}{R:V→Hp→Nat→Prop}(hen:fR P f=true)(c:aM h nx→aW P f args h nx R):aW P f args h nx R:=
 ⟨hen,fun K cargs hl hrel hv=>(c (fun m b hm=>hl m (hrel.lt m b hm))).2 K cargs hl hrel hv⟩
theorem aEc(o:Own){P:Int}{ws:List Wy}{n:Nat}{l:List We}(R:eX P ws n l)(hl:ws.length≤1000)(h:Hp):aZ Tryz.prog 38 [mps o P ws] h (lst .leaf (cH n l n)):=by
 refine gN (fun L=>eV (fun L=>cF (fun a=>aDu L n l a) _) L) fun h' nx hh=>aHo (aEb o R hl h' nx).1 fun hd=>((aEb o R hl h' nx).mono ?_)
 rintro v h'' nx' hnx ⟨o2,rfl,hacc,hsm⟩
 exact⟨by rw[hacc.loose];rfl,hsm.le hd (Hp.le_refl _)⟩
theorem aGF(o:Own)(ws:List Wy)(hn:o= .nil→ws=[]):(wys o ws).loose=lst (.agg 4) (ws.map Wy.v)∨∃o2,(wys o ws).loose=wys o2 ws:=by
 right
 cases o with
 |nil=>exact⟨.nil,rfl⟩
 |full=>exact⟨.free,rfl⟩
 |free=>exact⟨.free,rfl⟩
 |tok n=>exact⟨.free,rfl⟩
set_option maxRecDepth 100000 in
theorem aIe(o:Own){P:Int}{ws:List Wy}{n:Nat}{l:List We}(R:eX P ws n l)(hl:ws.length≤1000)(hn:o= .nil→ws=[])(h':Hp)(nx:Nat):
 aW Tryz.prog 35 [mps o P ws] h' nx fun v h'' _=>∃cb m o2 ot,v= .tup [.ptr cb (.agg 4) 0 0, .nilIface]∧nx≤cb∧nx≤m∧cb≠m∧h''=(h'.set m (.mp [] 0)).set cb (.arr (.agg 4) [iX P (wys o2 ws) (.sl .leaf ot (cH n l n)) m]):=by
 have hr:jZ P ws=true:=(kY P ws).2 ⟨n,l,R⟩
 refine aD L.count_New_low fun hd=>?_
 have hmf:(mps o P ws).fits (.agg 2)=true:=by simp[mps,V.fits,V.leafy,wys]
 simp only[List.length_cons,List.length_nil,Nat.reduceAdd,Nat.reduceSub,List.replicate_succ,List.replicate_zero,List.cons_append,List.nil_append,V.undef]
 obtain⟨o2,ho2⟩:∃o2,(wys o ws).loose=wys o2 ws:=by
  rcases aGF o ws hn with h|h
  ·obtain⟨ox,hx⟩:=mC (.agg 4) (ws.map Wy.v)
   exact⟨ox,h.trans hx⟩
  exact h
 have hcl:∀h,aZ Tryz.prog 64 [wys o ws] h (wys o2 ws):=fun h=>by
  have:=zR aCa (by omega) o (ws.map Wy.v) (by simp;omega) (fun e=>by rw[hn e];rfl) (fun L=>cF (Wy.names_v L) _) h
  rw[show(V.sl (.agg 4) o (ws.map Wy.v)).loose=wys o2 ws from ho2] at this
  exact this
 obtain⟨ot,hot⟩:=mC .leaf (cH n l n)
 have hall:∀h,aZ Tryz.prog 38 [mps o2 P ws] h (.sl .leaf ot (cH n l n)):=fun h=>by
  have:=aEc o2 R hl h
  rw[hot] at this;exact this
 have hlw:(wys o2 ws).leafy=true:=rfl
 have hmps:∀o,mps o P ws= .agg [.int .i64 P,wys o ws]:=fun _=>rfl
 simp only[hmps] at hall hmf⊢
 have C1:=fun h=>lY o P ws hl h
 have D1:=fun h=>hcl h
 have D2:=fun h=>hall h
 refine aue (ee3 hmf hr hlw) ?_
 refine iF ((h'.set (nx+12) (.mp [] 0)).set (nx+14) (.arr (.agg 4) [iX P (wys o2 ws) (.sl .leaf ot (cH n l n)) (nx+12)])) ?_ ⟨nx+14,nx+12,o2,ot,rfl,by omega,by omega,by omega,rfl⟩
 intro q b hb
 simp only[Hp.set_app] at hb⊢
 split at hb
 ·rename_i e;rw[if_pos e];exact hb
 rename_i e
 rw[if_neg e]
 split at hb
 ·rename_i e2;rw[if_pos e2];exact hb
 rename_i e2
 have:=hd q b hb
 rw[if_neg e2]
 repeat rw[if_neg (by omega)]
 exact hb
theorem aJq(o:Own){P:Int}{ws:List Wy}(hr:jZ P ws=false)(hl:ws.length≤1000)(h:Hp):
 aZ Tryz.prog 35 [mps o P ws] h (.tup [.nilPtr,dO 2]):=by
 have hmf:(mps o P ws).fits (.agg 2)=true:=by simp[mps,V.fits,V.leafy,wys]
 refine aU (fun L=>by simp[V.names,bP,dO]) fun h' nx hh=>aD L.count_New_low fun hd=>?_
 simp only[List.length_cons,List.length_nil,Nat.reduceAdd,Nat.reduceSub,List.replicate_succ,List.replicate_zero,List.cons_append,List.nil_append,V.undef]
 have C1:=fun h=>lY o P ws hl h
 refine aue (ee2 hmf hr) ?_
 exact iF h' (by repeat (first|exact Hp.le_refl _|refine aJ hd ?_ (by omega) _|refine aK hd ?_ (by omega))) ⟨rfl,rfl⟩
end Go.Proofs.YtecepaehmojpgaaGreat
namespace Go.Proofs.YtecepaehmojpgaaGreat
open Go.RowKit Go.Sort
def iC:List We:=[⟨0,1,⟨false,0⟩⟩]
def oR:List Wy:=[⟨0,1,⟨false,0⟩⟩]
theorem aBb:cB oR=oR:=by rw[rP];decide
theorem aFI:eE 2 oR=((2,oR),0):=by
 have h1:¬((2:Int)<0∨(200:Int)<2∨∃w∈oR,w.fit 2=false):=by decide
 have h2:¬(1048576:Int)<eN oR:=by decide
 have h3:¬(aHs (oR.map Wy.we)∨aBA (oR.map Wy.we)):=by
  rintro(⟨y,hy⟩|⟨w,hw,hn,_⟩)
  ·have e1:∀a b,(a,b)∈zE (oR.map Wy.we)→a=0∧b=1:=by
    intro a b h
    have h:(a,b)∈ [((0:Nat),(1:Nat))]:=h
    simpa using h
   cases hy with
   |one h=>have:=e1 _ _ h;omega
   |cons h k=>
    have h1:=e1 _ _ h
    have:=k.closed (S:=fun x=>x=1) (fun a b ha hb=>(e1 _ _ hb).2) h1.2
    omega
  simp[oR,Wy.we] at hw
  rcases hw with rfl
  cases hn
 unfold eE
 rw[if_neg h1,aBb,if_neg h2,if_neg h3]
theorem tW:eX 2 oR 2 iC:=by
 have h:(eE 2 oR).2=0:=by rw[aFI]
 obtain⟨n,l,R⟩:=aDa h
 rw[aBb] at R
 have hn:n=2:=by have:=R.pl;omega
 have hl:l=iC:=by
  have h2:=R.eq
  have hlen:l.length=1:=by have:=congrArg List.length h2;simpa [oR] using this.symm
  obtain⟨b,rfl⟩:=List.length_eq_one_iff.1 hlen
  obtain⟨f,t,p⟩:=b
  simp only[oR,List.map_cons,List.map_nil,We.wy,List.cons.injEq,Wy.mk.injEq,and_true] at h2
  obtain⟨q1,q2,q3⟩:=h2
  have e1:f=0:=by omega
  have e2:t=1:=by omega
  subst e1 e2
  rw[←q3];rfl
 subst hn hl
 exact R
theorem aBa:bG iC 0 1=[Pa.nought]:=
 mR ⟨by simp[Can],(fun p hp=>by simp at hp;subst hp;exact⟨iC,⟨by simp[iC],rfl,rfl⟩,rfl⟩),fun p ⟨l,h1,h2⟩=>⟨Pa.nought,by simp,aHM l (fun w hw=>by
  have:=rU h1 w hw
  simp[iC] at this
  rcases this with rfl
  rfl) h2⟩⟩
end Go.Proofs.YtecepaehmojpgaaGreat
namespace Go.Proofs.YtecepaehmojpgaaGreat
open Go.RowKit
attribute [local irreducible] IntKind.wrap
theorem iW(l:List We)(a k:Nat):(bG l a k).length≤2:=by
 unfold bG
 split
 ·rename_i h;exact tH (Classical.choose_spec h).can
 simp
end Go.Proofs.YtecepaehmojpgaaGreat
namespace Go.Proofs.YtecepaehmojpgaaGreat
end Go.Proofs.YtecepaehmojpgaaGreat
