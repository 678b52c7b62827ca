/-
Texts of this proof,one behind the other. No conditions.
-/
import Derived.Test.YtecepaehmojpgaaGreatKd
import Derived.Test.YtecepaehmojpgaaGreatKm
import Derived.Test.YtecepaehmojpgaaGreatKe
import Derived.Test.YtecepaehmojpgaaGreatKg
import Derived.Test.YtecepaehmojpgaaGreatKf
import Derived.Test.YtecepaehmojpgaaGreatKl
import Derived.Test.YtecepaehmojpgaaGreatKh
open Go.Proofs.YtecepaehmojpgaaGreat.CE renaming me→Ka
open Go.Proofs.YtecepaehmojpgaaGreat.Hp renaming aAH→Kb,le_refl→Kc,same→Kd,set→Ke
open List renaming take_succ_eq_append_getElem→Kf,length_append→Kg,replicate_succ→Kh,replicate_zero→Ki,length_cons→Kj,length_nil→Kk,cons_append→Km,nil_append→Ko,map_append→Kp,mem_map→Ku,take_of_length_le→Kv,append_nil→Kw,map_nil→Kx,mem_singleton→Ky,mem_append→Kz,take_zero→KC,map_cons→KD,flatMap_append→KE,append_assoc→KJ,length_take→KL
open Go.IntKind renaming wrap→Kq
open Nat renaming reduceAdd→Ks,reduceSub→Kt,le_refl→KB,lt_or_ge→KI,zero_le→KK
open Bool renaming false_eq_true→KF,true_or→KG,or_true→KH,not_false→KM,false_or→KN,not_true→KO
set_option linter.unusedSimpArgs false
set_option linter.unusedVariables false
set_option linter.unusedSectionVars false
set_option maxHeartbeats 8000000
open Nat renaming reduceAdd→jA,reduceSub→jB,reduceLT→jC,reduceLeDiff→jD,reduceEqDiff→jE
open Int renaming reduceToNat→jF,toNat_natCast→jG,natCast_add→jH,natCast_one→jI,natCast_zero→jJ
open List renaming length_map→jK,length_cons→jL,length_nil→jM,replicate_succ→jN,replicate_zero→jO,cons_append→jP,nil_append→jQ
namespace Go.Proofs.YtecepaehmojpgaaGreat
open Go.RowKit
attribute [local irreducible] Kq
def kJ(P:Int)(wv lv:V)(m:Nat):V:= .agg [.int .i64 P,wv,lv, .map m]
structure dQ(h:Hp)(cb m:Nat)(P:Int)(wv lv:V)(l:List CE)(c:Nat):Prop where
 cell:h cb=some (.arr (.agg 4) [kJ P wv lv m])
 mp:h m=some (.mp (l.map Ka) c)
 wf:wv.aAD=true
 lf:lv.aAD=true
theorem Cv{P:Int}{wv lv:V}{m:Nat}(hw:wv.aAD=true)(hl:lv.aAD=true):(kJ P wv lv m).fits (.agg 4)=true:=by
 simp[kJ,V.fits,hw,hl,tM,zO]
theorem Bx(x:Cg)(h:Hp):aY Tryz.prog 67 [x.v] h (.bool (!(decide (-1000000≤x.d)&&decide (x.d≤1000000)))):=by
 refine aR (fun L=>trivial) fun h' nx hh=>aF L.aX9 fun hd=>?_;simp only[Kj,Kk,Ks,Kt,Kh,Ki,Km,Ko,V.undef];have C1:=fun h=>yD x.d h;refine aue Cg.v.eq_1 ?_;exact aG h' (by repeat (first|exact Kc _|refine aJ hd ?_ or _|refine aL hd ?_ or)) ⟨rfl,rfl⟩
def dY(P:Int)(x:Cg):Bool:=decide (x.s.p<0)||decide (x.s.p≥P)|| !x.s.t.ok
theorem qr(x:Cg){h:Hp}{cb cp m c:Nat}{P:Int}{wv lv:V}{l:List CE}(hc:dQ h cb m P wv lv l c)(hp:h cp=some (.arr .leaf [.ptr cb (.agg 4) 0 0])):
 aY Tryz.prog 65 [x.v, .ptr cp .leaf 0 0] h (.bool (dY P x)):=by
 refine aR (fun L=>trivial) fun h' nx hh=>aF L.aYI fun hd=>?_;simp only[Kj,Kk,Ks,Kt,Kh,Ki,Km,Ko,V.undef];have c1:=hh _ _ hc.cell rfl;have c2:=hh _ _ hp rfl;have n1:cb<nx:=hd _ _ c1;have n2:cp<nx:=hd _ _ c2;have e1:(cb=nx)=False:=eq_false or;have e2:(cp=nx)=False:=eq_false or;have hrt:∀h,aY Tryz.prog 66 [.agg [.int .i64 x.s.t.e, .int .i64 x.s.t.r]] h (.bool x.s.t.ok):=fun h=>qD x.s.t h;unfold dY;cases h1:decide (x.s.p<0) with
 |true=>
  have D1:=fun h=>hrt h;refine aue (i5 Cg.v.eq_1 kJ.eq_1 c1 c2 n1 n2 e1 e2 h1 KG KH) ?_;exact aG h' (by repeat (first|exact Kc _|refine aJ hd ?_ or _|refine aL hd ?_ or)) ⟨rfl,rfl⟩
 |false=>
  cases h2:decide (x.s.p≥P) with
  |true=>
   have D1:=fun h=>hrt h;refine aue (EL Cg.v.eq_1 kJ.eq_1 c1 c2 n1 n2 e1 e2 h1 h2 KG KH KN) ?_;exact aG h' (by repeat (first|exact Kc _|refine aJ hd ?_ or _|refine aL hd ?_ or)) ⟨rfl,rfl⟩
  |false=>
   have D1:=fun h=>hrt h;refine aue (EL Cg.v.eq_1 kJ.eq_1 c1 c2 n1 n2 e1 e2 h1 h2 KG KH KN) ?_;exact aG h' (by repeat (first|exact Kc _|refine aJ hd ?_ or _|refine aL hd ?_ or)) ⟨rfl,rfl⟩
theorem w7(s:Sp){h:Hp}{cb m c:Nat}{P:Int}{wv lv:V}{l:List CE}(hc:dQ h cb m P wv lv l c):
 aY Tryz.prog 43 [.ptr cb (.agg 4) 0 0,s.v] h (.int .i64 (cZ l s)):=by
 refine aR (fun L=>trivial) fun h' nx hh=>aF L.aYe fun hd=>?_;simp only[Kj,Kk,Ks,Kt,Kh,Ki,Km,Ko,V.undef];have c1:=hh _ _ hc.cell rfl;have c2:=hh _ _ hc.mp rfl;have n1:cb<nx:=hd _ _ c1;have n2:m<nx:=hd _ _ c2;have e1:(cb=nx)=False:=eq_false or;have e2:(m=nx)=False:=eq_false or;have hlp:cK (.agg 3) 0 s.v=s.v:=rfl;have hsf:=Sp.aAC s;have hmf:=kT s l;have hmg:=tI l s;refine aue (i5 kJ.eq_1 c1 c2 n1 n2 e1 e2 hlp hsf hmf hmg) ?_;exact aG h' (by repeat (first|exact Kc _|refine aJ hd ?_ or _|refine aL hd ?_ or)) ⟨rfl,rfl⟩
theorem zf{h:Hp}{cb m c:Nat}{P:Int}{wv lv:V}{l:List CE}(hc:dQ h cb m P wv lv l c):
 aY Tryz.prog 61 [.ptr cb (.agg 4) 0 0] h (.bool (decide (l=[]))):=by
 refine aR (fun L=>trivial) fun h' nx hh=>aF L.aYL fun hd=>?_;simp only[Kj,Kk,Ks,Kt,Kh,Ki,Km,Ko,V.undef];have c1:=hh _ _ hc.cell rfl;have c2:=hh _ _ hc.mp rfl;have hz:(((l.length:Nat):Int)==0)=decide (l=[]):=by
  rw[Bool.eq_iff_iff];cases l<;>simp;omega
 refine aue (ee4 kJ.eq_1 c1 c2 hz) ?_;exact aG h' (by repeat (first|exact Kc _|refine aJ hd ?_ or _|refine aL hd ?_ or)) ⟨rfl,rfl⟩
end Go.Proofs.YtecepaehmojpgaaGreat
namespace Go.Proofs.YtecepaehmojpgaaGreat
open Go.RowKit Go.Shelf
attribute [local irreducible] Kq
theorem mG:aH Tryz.prog 69=some (LB.aAl (.agg 4) 105):=Zz
theorem pM:aH Tryz.prog 105=some (LB.aAj (.agg 4)):=Zz
def cV(n:Int):Bool:= !(decide (-1000000≤n)&&decide (n≤1000000))
def aV(P:Int)(l:List CE)(c:Nat)(r:List Cg):Int×List CE×Nat:=
 if r.any (dY P)=true then (2,l,c) else if r.any (fun x=>cV x.d)=true then (1,l,c) else
 if (eN l c r).1.any (fun y=>cV y.n)=true then (1,l,c) else (0,(eN l c r).1,(eN l c r).2)
set_option maxRecDepth 100000 in
set_option maxHeartbeats 4000000 in
theorem AN(o:Own)(r:List Cg)(hr:r.length≤100000)(l:List CE)(c:Nat)(hok:eO l c)(P:Int)(wv lv:V)(cb m:Nat)(h':Hp)(nx:Nat)(hc:dQ h' cb m P wv lv l c):
 bD Tryz.prog 36 [.ptr cb (.agg 4) 0 0,cgs o r] h' nx fun v h'' _=>v=fC (aV P l c r).1∧
  (((aV P l c r).1≠0∧h''=h')∨((aV P l c r).1=0∧∃m2,nx≤m2∧h''=(h'.set m2 (.mp ((aV P l c r).2.1.map Ka) (aV P l c r).2.2)).set cb (.arr (.agg 4) [kJ P wv lv m2]))):=by
 refine aF L.aYs fun hd=>?_;simp only[jL,jM,jA,jB,jN,jO,jP,jQ,V.undef];have hcb:=hc.cell;have hcm:=hc.mp;have n1:cb<nx:=hd _ _ hcb;have n2:m<nx:=hd _ _ hcm;have e1:(cb=nx)=False:=eq_false or;have aGW:dQ (h'.set nx (.arr .leaf [.ptr cb (.agg 4) 0 0])) cb m P wv lv l c:=⟨by simp only[Ke];rw[if_neg or];exact hcb,by simp only[Ke];rw[if_neg or];exact hcm,hc.wf,hc.lf⟩;have hst:aY Tryz.prog 69 [.sl (.agg 4) o (r.map Cg.v), .fn (.func 65) [] [.ptr nx .leaf 0 0]] (h'.set nx (.arr .leaf [.ptr cb (.agg 4) 0 0])) (.bool (r.any (dY P))):=
  eB Cg.v Cg.aAC mG pM (dY P) o r _ [.ptr nx .leaf 0 0] _ (fun x _=>qr x aGW (by simp[Ke])) or
 have hwd:aY Tryz.prog 69 [.sl (.agg 4) o (r.map Cg.v), .fn (.func 67) [] []] (h'.set nx (.arr .leaf [.ptr cb (.agg 4) 0 0])) (.bool (r.any fun x=>cV x.d)):=
  eB Cg.v Cg.aAC mG pM (fun x=>cV x.d) o r _ [] _ (fun x _=>Bx x _) or
 unfold aV;cases hs:r.any (dY P) with
 |true=>
  rw[hs] at hst;have C5:=hst;refine aue cgs.eq_1 ?_;exact aG h' (by repeat (first|exact Kc _|refine aJ hd ?_ or _|refine aL hd ?_ or)) ⟨rfl, .inl ⟨Zm,rfl⟩⟩
 |false=>
  rw[hs] at hst;cases hw:r.any (fun x=>cV x.d) with
  |true=>
   rw[hw] at hwd;have C5:=hst;have C6:=hwd;refine aue cgs.eq_1 ?_;exact aG h' (by repeat (first|exact Kc _|refine aJ hd ?_ or _|refine aL hd ?_ or)) ⟨rfl, .inl ⟨Zm,rfl⟩⟩
  |false=>
   rw[hw] at hwd;simp only[KF,if_false];have C5:=hst;have C6:=hwd;refine aue (ee5 cgs.eq_1 aGW.cell e1 hcb kJ.eq_1) ?_;refine bN ((sE E9 Zz m (l.map Ka) c _ _ ?_).mono ?_)
   ·simp only[Kb];rw[if_neg or];exact hcm
   rintro v h3 nx3 aDl ⟨rfl,rfl,rfl⟩;unfold dM;refine Zn ?_;refine aue trivial ?_;obtain⟨A,hA⟩:∃A:Nat→List CE×Nat,∀i,A i=eN l c (r.take i):=⟨_,fun _=>rfl⟩
   refine aO (fun i:Nat=>aB 58 0 [(2, .ptr nx .leaf 0 0),(7, .map (nx+1)),(31,cgs o r),(32, .int .i64 r.length),(33, .int .i64 i)])
    (fun i hp nx1=>i≤r.length∧nx+2≤nx1∧aI hp nx1∧Kd (nx+1) (h'.set nx (.arr .leaf [.ptr cb (.agg 4) 0 0])) hp∧hp (nx+1)=some (.mp ((A i).1.map Ka) (A i).2))
    (fun i=>r.length-i) 0 ⟨KK _,Zm,(by(try dsimp only);repeat (first|exact aI.up hd or|refine aI.aAh ?_ or _|refine aI.del ?_|refine aI.aAb ?_ _)),(by(try dsimp only);repeat (first|exact Hp.same.aBG|refine aW ?_ or _|refine aX ?_ or)),?_⟩ ?_ ?_
   ·rw[hA];simp[Ke,eN]
   ·simp only[WkL,aB,jH,jI,jJ,cgs,go_sem,reduceIte,jA,jB,jC,jD,reduceCtorEq,jE,jF]
   rintro i hp nx1 ⟨hi,hnx,hdm,hsm,hmp⟩;generalize hQ:bH _ _ _ _ _=Q0;simp only[aB,cgs,go_sem,reduceIte,jA,jB,jC,jD,reduceCtorEq,jE,jF];have aJj:=(lQ (r.take i) hok);rw[←hA] at aJj;rcases KI i r.length with hlt|hge
   ·have hc1:decide ((i:Int)<(r.length:Int))=true:=decide_eq_true or;have hg:(r.map Cg.v).getD i (.tup [])= .agg [.int .i64 r[i].s.p, .int .i64 r[i].s.t.e, .int .i64 r[i].s.t.r, .int .i64 r[i].d]:=bY Cg.v _ r i hlt;have hwp:IntKind.i64.wrap ((i:Int)+1)=((i+1:Nat):Int):=by rw[bB]<;>omega
    refine aue (ee4 hc1 hg hlt hwp) ?_;refine bN ((Ed (A i).1 (A i).2 aJj.1 r[i].s r[i].d (nx+1) _ _ ?_).dom.mono ?_)
    ·simp only[Kb];rw[if_neg or,if_neg or];exact hmp
    rintro v h3 nx3 aDl ⟨rfl,aIR,_⟩;unfold dM;refine Zn ?_;refine aue hwp ?_;rw[←hQ];refine aD (i+1) or ⟨hlt,by dsimp only at aDl⊢;omega,aIR,?_,?_⟩ ?_
    ·refine fun m hm=>?_;simp only[Kb];rw[if_neg or,if_neg or,if_neg or];have:=hsm m hm;simp only[Kb] at this;exact this
    ·have e:A (i+1)=yN (A i).1 (A i).2 r[i].s r[i].d:=by
      rw[hA,hA,Kf hlt,cd]
     rw[e];simp only[Kb,if_true,reduceIte]
    simp only[WkL,aB,jH,jI,jJ,cgs,go_sem,reduceIte,jA,jB,jC,jD,reduceCtorEq,jE,jF]
   have hc1:decide ((i:Int)<(r.length:Int))=false:=decide_eq_false or;have hil:r.take i=r:=Kv or;rw[hil] at aJj;have hAl:A i=eN l c r:=by rw[hA,hil]
   rw[hAl] at hmp aJj;obtain⟨aJi,_,aWa⟩:=aJj;refine aue hc1 ?_;rw[←hQ];clear hQ Q0;generalize (eN l c r).1=L2 at*;generalize (eN l c r).2=c2 at*;refine au ?_;refine g6 rfl hmp ?_;refine Zn ?_;refine au ?_
   refine aO (fun _:List CE=>aB 58 0 [(2, .ptr nx .leaf 0 0),(7, .map (nx+1)),(45, .ptr nx1 .leaf 0 0)])
    (fun js hp2 nx2=>(js.map fun y=>(Ka y).b).Nodup∧(∀y∈js,y∈L2)∧(∀y∈js,cV y.n=false)∧nx1+1≤nx2∧aI hp2 nx2∧Kd (nx+1) (h'.set nx (.arr .leaf [.ptr cb (.agg 4) 0 0])) hp2∧hp2 (nx+1)=some (.mp (L2.map Ka) c2)∧hp2 nx1=some (.mit (nx+1) c2 (js.map fun y=>(Ka y).b) c2))
    (fun js=>L2.length-js.length) [] ⟨Zm,Zm,Zm,Zm,(by(try dsimp only);repeat (first|exact aI.up hdm or|refine aI.aAh ?_ or _|refine aI.del ?_|refine aI.aAb ?_ _)),(by(try dsimp only);repeat (first|exact hsm|refine aW ?_ or _|refine aX ?_ or)),?_,?_⟩ ?_ ?_
   ·simp only[Kb];rw[if_neg or];exact hmp
   ·simp[Ke]
   ·simp only[WkL,aB,jH,jI,jJ,go_sem,reduceIte,jA,jB,jC,jD,reduceCtorEq,jE,jF]
   rintro js hp2 nx2 ⟨hjn,hjl,hjw,hn2,aBU,aCd,aNx,hit⟩;generalize hQ:bH _ _ _ _ _=Q0;simp only[aB,go_sem,reduceIte,jA,jB,jC,jD,reduceCtorEq,jE,jF];repeat (first|with_reducible refine bI ?_|with_reducible refine dJ ?_|with_reducible refine eD ?_|with_reducible refine aM ?_|with_reducible refine bZ ?_|with_reducible refine bL ?_|with_reducible refine dZ ?_)
   refine g8 rfl hit aNx (fun x hx=>by obtain⟨y,hy,rfl⟩:=Ku.1 hx;exact aJi.lt y hy) (KB _) ?_ ?_
   ·intro x hx hxn;obtain⟨y,hy,rfl⟩:=Ku.1 hx;have aCH:=gm (fun y=>(Ka y).b) hjn hxn;have aEg:=zH (fun y=>(Ka y).b) hjn hjl hy hxn;have aEu:=ru Ka aJi.num hy;refine Zn ?_;refine au ?_;refine g9 (es:=L2.map Ka) (c:=c2) (m:=nx+1) (since:=c2) (seen:=(js.map fun y=>(Ka y).b)++[(Ka y).b]) rfl ?_ ?_ (b:=(Ka y).b) Zm aEu ?_
    ·simp only[Kb,reduceIte]
    ·simp only[Kb];rw[if_neg or];exact aNx
    have hyn:(Ka y).v= .int .i64 y.n:=rfl;simp only[hyn,go_sem,reduceIte,jA,jB,jC,jD,reduceCtorEq,jE,jF];have hwi:∀h,aY Tryz.prog 68 [.int .i64 y.n] h (.bool (!(cV y.n))):=fun h=>by
     have:=yD y.n h;unfold cV;rw[Bool.not_not];exact this
    cases hwy:cV y.n with
    |true=>
     rw[hwy] at hwi;have aBW:L2.any (fun y=>cV y.n)=true:=List.any_eq_true.2 ⟨y,hy,hwy⟩;have C1:=fun h=>hwi h;refine aue (ee2 KO KM) ?_;rw[←hQ];refine au ?_;simp only[aBW,if_true];refine aG h' ?_ ⟨rfl, .inl ⟨Zm,rfl⟩⟩;intro n b hb;have hn:=hd n b hb;simp only[Kb];rw[if_neg or,aCd n or];simp only[Kb];rw[if_neg or];exact hb
    |false=>
     rw[hwy] at hwi;have C1:=fun h=>hwi h;refine aue (ee2 KO KM) ?_;rw[←hQ];refine aD (js++[y]) (by simp only[Kg,jL,jM];omega) ⟨aCH,?_,?_,ZN,(by(try dsimp only);repeat (first|exact aI.up aBU or|refine aI.aAh ?_ or _|refine aI.del ?_|refine aI.aAb ?_ _)),(by(try dsimp only);repeat (first|exact aCd|refine aW ?_ or _|refine aX ?_ or)),?_,?_⟩ ?_
     ·intro q hq;rcases Kz.1 hq with hq|hq
      ·exact hjl q hq
      rw[Ky.1 hq];exact hy
     ·intro q hq;rcases Kz.1 hq with hq|hq
      ·exact hjw q hq
      rw[Ky.1 hq];exact hwy
     ·simp only[Kb];rw[if_neg or];exact aNx
     ·simp only[Kb,reduceIte,Kp,KD,Kx]
     simp only[WkL,aB,jH,jI,jJ,go_sem,reduceIte,jA,jB,jC,jD,reduceCtorEq,jE,jF]
   intro aAt;have aBr:=ri (fun y=>(Ka y).b) aJi.num hjn hjl (fun y hy=>aAt _ (Ku.2 ⟨y,hy,rfl⟩));have aBW:L2.any (fun y=>cV y.n)=false:=by
    rw[List.any_eq_false];intro y hy;rw[hjw y (aBr.mem_iff.2 hy)];simp
   have d1:hp2 nx=some (.arr .leaf [.ptr cb (.agg 4) 0 0]):=by rw[aCd nx or];simp[Ke]
   have d2:hp2 cb=some (.arr (.agg 4) [.agg [.int .i64 P,wv,lv, .map m]]):=by rw[aCd cb or];simp only[Kb];rw[if_neg or];exact hcb
   have hwf:=hc.wf;have hlf:=hc.lf;refine Zn ?_;refine au ?_;rw[←hQ];refine aue (ee4 d1 d2 hwf hlf) ?_;simp only[aBW,KF,if_false];refine aG ((h'.set (nx+1) (.mp (L2.map Ka) c2)).set cb (.arr (.agg 4) [kJ P wv lv (nx+1)])) ?_ ⟨rfl, .inr ⟨trivial,nx+1,or,rfl⟩⟩;intro n b hb;simp only[Kb] at hb⊢;split at hb
   ·rename_i e;rw[if_pos e];exact hb
   rename_i e;rw[if_neg e];split at hb
   ·rename_i e2;rw[e2,aNx];exact hb
   have hn:=hd n b hb;rw[aCd n or];simp only[Kb];rw[if_neg or];exact hb
end Go.Proofs.YtecepaehmojpgaaGreat
namespace Go.Proofs.YtecepaehmojpgaaGreat
open Go.RowKit
attribute [local irreducible] Kq
def oZ(l:List CE):List Sp:=(l.filter fun y=>decide (y.n>0)).map (·.s)
theorem CG(l:List CE)(y:CE):oZ (l++[y])=oZ l++if decide (y.n>0)=true then [y.s] else []:=by
 unfold oZ;rw[List.filter_append,Kp];congr 1;by_cases h:y.n>0<;>simp[h]
theorem yx(l:List CE):(oZ l).length≤l.length:=by
 unfold oZ;rw[jK];exact List.length_filter_le _ _
set_option maxRecDepth 100000 in
set_option maxHeartbeats 4000000 in
theorem yv{h':Hp}{nx cb m c:Nat}{P:Int}{wv lv:V}{l:List CE}(hc:dQ h' cb m P wv lv l c)(hok:eO l c)(hl:l.length≤1000000):
 bD Tryz.prog 74 [.ptr cb (.agg 4) 0 0] h' nx fun v h'' _=>∃(o:Own) (xs:List Sp),v= .sl (.agg 3) o (xs.map Sp.v)∧xs.Perm (oZ l)∧Acc h'' nx o (xs.map Sp.v)∧Kd nx h' h'':=by
 refine aF L.aX5 fun hd=>?_;simp only[jL,jM,jA,jB,jN,jO,jP,jQ,V.undef];have hcb:=hc.cell;have hcm:=hc.mp;have n1:cb<nx:=hd _ _ hcb;have n2:m<nx:=hd _ _ hcm;refine aue (ee2 hcb kJ.eq_1) ?_;refine g6 rfl hcm ?_;refine Zn ?_;refine au ?_
 refine aO (fun q:List CE×Own=>aB 23 0 [(3, .sl (.agg 3) q.2 ((oZ q.1).map Sp.v)),(10, .ptr nx .leaf 0 0)])
  (fun q hp nx1=>(q.1.map fun y=>(Ka y).b).Nodup∧(∀y∈q.1,y∈l)∧nx+1≤nx1∧aI hp nx1∧Kd nx h' hp∧hp nx=some (.mit m c (q.1.map fun y=>(Ka y).b) c)∧Acc hp (nx+1) q.2 ((oZ q.1).map Sp.v))
  (fun q=>l.length-q.1.length) ([], .nil) ⟨Zm,Zm,Zm,(by(try dsimp only);repeat (first|exact aI.up hd or|refine aI.aAh ?_ or _|refine aI.del ?_|refine aI.aAb ?_ _)),(by(try dsimp only);repeat (first|exact Hp.same.aBG|refine aW ?_ or _|refine aX ?_ or)),by simp[Ke],Acc.nil⟩ ?_ ?_
 ·simp only[WkL,aB,jH,jI,jJ,oZ,List.filter_nil,Kx,go_sem,reduceIte,jA,jB,jC,jD,reduceCtorEq,jE,jF]
 rintro⟨js,o⟩ hp nx1 ⟨hjn,hjl,hn1,hdm,hsm,hit,aAU⟩;generalize hQ:bH _ _ _ _ _=Q0;dsimp only at hjn hjl hit aAU;have hmp:hp m=some (.mp (l.map Ka) c):=by rw[hsm m n2];exact hcm
 simp only[aB,go_sem,reduceIte,jA,jB,jC,jD,reduceCtorEq,jE,jF];repeat (first|with_reducible refine bI ?_|with_reducible refine dJ ?_|with_reducible refine eD ?_|with_reducible refine aM ?_|with_reducible refine bZ ?_|with_reducible refine bL ?_|with_reducible refine dZ ?_)
 refine g8 rfl hit hmp (fun x hx=>by obtain⟨y,hy,rfl⟩:=Ku.1 hx;exact hok.lt y hy) (KB _) ?_ ?_
 ·intro x hx hxn;obtain⟨y,hy,rfl⟩:=Ku.1 hx;have aCH:=gm (fun y=>(Ka y).b) hjn hxn;have aEg:=zH (fun y=>(Ka y).b) hjn hjl hy hxn;have aEu:=ru Ka hok.num hy;refine Zn ?_;refine au ?_;refine g9 (es:=l.map Ka) (c:=c) (m:=m) (since:=c) (seen:=(js.map fun y=>(Ka y).b)++[(Ka y).b]) rfl ?_ ?_ (b:=(Ka y).b) Zm aEu ?_
  ·simp only[Kb,reduceIte]
  ·simp only[Kb];rw[if_neg or];exact hmp
  have hyn:(Ka y).v= .int .i64 y.n:=rfl;have hyk:(Ka y).k= .agg [.int .i64 y.s.p, .int .i64 y.s.t.e, .int .i64 y.s.t.r]:=rfl;have aJp:((oZ js).map Sp.v).length=(oZ js).length:=Zm;have aAa:(oZ js).length≤1000000:=by have:=yx js;omega
  have aAw:∀q∈js++[y],q∈l:=fun q hq=>by
   rcases Kz.1 hq with hq|hq
   ·exact hjl q hq
   rw[Ky.1 hq];exact hy
  have hsn:=CG js y;have aBJ:Acc (hp.set nx (.mit m c ((js.map fun y=>(Ka y).b)++[(Ka y).b]) c)) (nx+1) o ((oZ js).map Sp.v):=by
   rcases aAU with h|⟨h1,id,h2,h3,h4⟩
   ·exact .inl h
   exact .inr ⟨h1,id,h2,h3,by simp only[Kb];rw[if_neg or];exact h4⟩
  have aBU:aI (hp.set nx (.mit m c ((js.map fun y=>(Ka y).b)++[(Ka y).b]) c)) nx1:=aI.aAh hdm or _;have aCd:Kd nx h' (hp.set nx (.mit m c ((js.map fun y=>(Ka y).b)++[(Ka y).b]) c)):=aW hsm (KB _) _;have aOg:(hp.set nx (.mit m c ((js.map fun y=>(Ka y).b)++[(Ka y).b]) c)) nx=some (.mit m c ((js++[y]).map fun y=>(Ka y).b) c):=by simp[Ke]
  generalize hp.set nx (.mit m c ((js.map fun y=>(Ka y).b)++[(Ka y).b]) c)=hp2 at aBJ aBU aCd aOg⊢;simp only[hyn,hyk,go_sem,reduceIte,jA,jB,jC,jD,reduceCtorEq,jE,jF];cases aA0:decide (y.n>0) with
  |true=>
   rw[aA0,if_pos rfl] at hsn;have aWI:decide (y.n>0)=true:=aA0;have aAU:=aBJ;have hdm:=aBU;refine aue (ee2 aA0 aJp) ?_;rw[←hQ];refine aD (js++[y], .tok (nx1+5)) (by simp only[Kg,jL,jM];omega) ⟨aCH,aAw,ZN,(by(try dsimp only);repeat (first|exact aI.up aBU or|refine aI.aAh ?_ or _|refine aI.del ?_|refine aI.aAb ?_ _)),(by(try dsimp only);repeat (first|exact aCd|refine aW ?_ or _|refine aX ?_ or|refine fE ?_ (fun id e=>by have:=(aBJ).ge id e;omega))),?_,?_⟩ ?_
   ·refine Eq.trans ((?_:Kd (nx+1) hp2 _) nx or) aOg;exact(by(try dsimp only);repeat (first|exact Hp.same.aBG|refine aW ?_ or _|refine aX ?_ or|refine fE ?_ (fun id e=>by have:=(aBJ).ge id e;omega)))
   ·dsimp only;rw[hsn,Kp];exact Acc.new _ Zm or
   simp only[WkL,aB,jH,jI,jJ,hsn,Kp,Sp.v,go_sem,reduceIte,jA,jB,jC,jD,reduceCtorEq,jE,jF]
  |false=>
   rw[aA0,if_neg Zm,Kw] at hsn;refine aue (ee2 aA0 aJp) ?_;rw[←hQ];refine aD (js++[y],o) (by simp only[Kg,jL,jM];omega) ⟨aCH,aAw,ZN,(by(try dsimp only);repeat (first|exact aI.up aBU or|refine aI.aAh ?_ or _|refine aI.del ?_|refine aI.aAb ?_ _)),(by(try dsimp only);repeat (first|exact aCd|refine aW ?_ or _|refine aX ?_ or|refine fE ?_ (fun id e=>by have:=(aBJ).ge id e;omega))),?_,?_⟩ ?_
   ·refine Eq.trans ((?_:Kd (nx+1) hp2 _) nx or) aOg;exact(by(try dsimp only);repeat (first|exact Hp.same.aBG|refine aW ?_ or _|refine aX ?_ or|refine fE ?_ (fun id e=>by have:=(aBJ).ge id e;omega)))
   ·dsimp only;rw[hsn];exact(by(try dsimp only);repeat' (first|exact aBJ|exact Acc.new _ Zm or|exact lS.new or|exact aI.aEU aBU or|exact gQ|exact kC (by assumption)|refine gN or ?_|refine gO ?_|refine Acc.set ?_ ?_ _|refine lS.set ?_ ?_ _))
   simp only[WkL,aB,jH,jI,jJ,hsn,go_sem,reduceIte,jA,jB,jC,jD,reduceCtorEq,jE,jF]
 intro aAt;have aBr:=ri (fun y=>(Ka y).b) hok.num hjn hjl (fun y hy=>aAt _ (Ku.2 ⟨y,hy,rfl⟩));refine Zn ?_;refine au ?_;rw[←hQ];refine au ?_;refine aG hp (Kc _) ⟨o,oZ js,?_,?_,?_,hsm⟩
 ·simp only[go_sem,reduceIte,jA,jB,jC,jD,reduceCtorEq,jE,jF]
 ·exact(aBr.filter _).map _
 rcases aAU with h|⟨h1,id,h2,h3,h4⟩
 ·exact .inl h
 exact .inr ⟨h1,id,or,h3,h4⟩
end Go.Proofs.YtecepaehmojpgaaGreat
namespace Go.Proofs.YtecepaehmojpgaaGreat
open Go.RowKit
attribute [local irreducible] Kq
def jU(t:Tm):List Pa→List Tm
 | []=>[]
 |p::l=>(if (p.of t).2=0 then [(p.of t).1] else [])++jU t l
theorem vt(t:Tm)(a b:List Pa):jU t (a++b)=jU t a++jU t b:=by
 induction a with
 |nil=>rfl
 |cons p a ih=>simp[jU,ih]
theorem vr(t:Tm)(a:List Pa):(jU t a).length≤a.length:=by
 induction a with
 |nil=>simp[jU]
 |cons p a ih=>simp only[jU,Kg,jL];split<;>simp<;>omega
theorem o7(t:Tm)(l:List Pa)(i:Nat)(h:i<l.length):jU t (l.take (i+1))=jU t (l.take i)++(if (l[i].of t).2=0 then [(l[i].of t).1] else []):=by
 rw[Kf h,vt];simp[jU]
def frT(T:Nat→Nat→List Pa)(b:Nat)(xs:List Sp):List Tm:=xs.flatMap fun s=>jU s.t (T s.p.toNat b)
theorem DH(T:Nat→Nat→List Pa)(b:Nat)(xs:List Sp)(i:Nat)(h:i<xs.length):frT T b (xs.take (i+1))=frT T b (xs.take i)++jU xs[i].t (T xs[i].p.toNat b):=by
 unfold frT;rw[Kf h,KE];simp
theorem rt(T:Nat→Nat→List Pa)(b K:Nat)(hT:∀a,(T a b).length≤K):∀xs:List Sp,(frT T b xs).length≤xs.length*K
 | []=>by simp[frT]
 |s::xs=>by
  have h1:=rt T b K hT xs;have h2:=vr s.t (T s.p.toNat b);have h3:=hT s.p.toNat
  unfold frT at h1⊢;rw[List.flatMap_cons,Kg,jL,Nat.add_mul];omega
theorem Cs{h H:Hp}{o:Own}{n0 n:Nat}{k:Sh}{es es':List V}(ha:Acc h n0 o es)(hn:h n=some (.arr k es')):(H.aAb o) n=H n:=by
 rcases ha with⟨_,rfl⟩|⟨_,id,_,rfl,ht⟩
 ·rfl
 show H.del id n=H n;unfold Hp.del;rw[if_neg];rintro rfl;rw[hn] at ht;cases ht
def CJ(T:Nat→Nat→List Pa)(n:Nat)(rows:List V):Prop:=rows.length=n∧
 ∀a b,a<n→b<n→∃o cells,rows.getD a (.tup [])= .sl .leaf o cells∧cells.length=n∧∃oc,cells.getD b (.tup [])= .sl (.agg 2) oc ((T a b).map Pa.v)
set_option maxRecDepth 100000 in
set_option maxHeartbeats 4000000 in
theorem AA{h:Hp}{cb m c:Nat}{P:Int}{wv:V}{ot:Own}{rows:List V}{l:List CE}(hc:dQ h cb m P wv (.sl .leaf ot rows) l c)(T:Nat→Nat→List Pa)(n:Nat)(hP:P=n)(hT:CJ T n rows)(hlen:∀a b,(T a b).length≤1000)
 (oa:Own) (xs:List Sp) (hxl:xs.length≤900) (hxs:∀s∈xs,0≤s.p∧s.p<n) (b:Nat) (hb:b<n):
 aY Tryz.prog 75 [.ptr cb (.agg 4) 0 0, .sl (.agg 3) oa (xs.map Sp.v), .int .i64 b] h (lst (.agg 2) ((ofT (frT T b xs)).map Tm.v)):=by
 refine aR (fun L=>cP (fun L=>bG (Tm.aAN L) _) L) fun h' nx hh=>aF L.aX4 fun hd=>?_;simp only[jL,jM,jA,jB,jN,jO,jP,jQ,V.undef];have hcb:=hh _ _ hc.cell rfl;have n1:cb<nx:=hd _ _ hcb;refine aue trivial ?_
 refine aO (fun q:Nat×Own=>aB 53 0 [(0, .ptr cb (.agg 4) 0 0),(2, .int .i64 b),(7,tms q.2 (frT T b (xs.take q.1))),(14, .sl (.agg 3) oa (xs.map Sp.v)),(15, .int .i64 xs.length),(16, .int .i64 q.1)])
  (fun q hp nx1=>q.1≤xs.length∧nx≤nx1∧aI hp nx1∧Kd nx h' hp∧Acc hp nx q.2 ((frT T b (xs.take q.1)).map Tm.v))
  (fun q=>xs.length-q.1) (0, .nil) ⟨KK _,KB _,hd,Hp.same.aBG,Acc.nil⟩ ?_ ?_
 ·simp only[WkL,aB,jH,jI,jJ,tms,frT,KC,List.flatMap_nil,Kx,go_sem,reduceIte,jA,jB,jC,jD,reduceCtorEq,jE,jF]
 rintro⟨i,o⟩ hp nx1 ⟨hi,hnx,hdm,hsm,aAU⟩;generalize hQ:bH _ _ _ _ _=Q0;dsimp only at hi aAU;simp only[aB,tms,go_sem,reduceIte,jA,jB,jC,jD,reduceCtorEq,jE,jF];rcases KI i xs.length with hlt|hge
 ·have hc1:decide ((i:Int)<(xs.length:Int))=true:=decide_eq_true or;have hg:(xs.map Sp.v).getD i (.tup [])= .agg [.int .i64 xs[i].p, .int .i64 xs[i].t.e, .int .i64 xs[i].t.r]:=bY Sp.v _ xs i hlt;have hw:IntKind.i64.wrap ((i:Int)+1)=((i+1:Nat):Int):=by rw[bB]<;>omega
  obtain⟨hp0,hpn⟩:=hxs xs[i] (List.getElem_mem _);obtain⟨a,ha⟩:∃a:Nat,xs[i].p=a:=⟨xs[i].p.toNat,or⟩;have han:a<n:=or;have hta:xs[i].p.toNat=a:=or;obtain⟨hrl,aH8⟩:=hT;obtain⟨aV3,cells,aBQ,hcl,oc,aAM⟩:=aH8 a b han hb;have hgt:((rows.length:Nat):Int)=n:=by rw[hrl]
  have aJy:hp cb=some (.arr (.agg 4) [.agg [.int .i64 P,wv, .sl .leaf ot rows, .map m]]):=by rw[hsm cb n1];exact hcb
  have aAg:cb<nx1:=or;have c3:a<rows.length:=or;have c4:b<cells.length:=or;rw[ha] at hg;refine aue (ee9 hc1 hg hlt aJy aAg aBQ aAM c3 c4) ?_;obtain⟨D,hD⟩:∃D,D=frT T b (xs.take i):=⟨_,rfl⟩;have hDl:D.length≤i*1000:=by
   rw[hD];have:=rt T b 1000 (fun a=>hlen a b) (xs.take i);rw[KL,Nat.min_eq_left or] at this;exact this
  obtain⟨ps,hps⟩:∃ps,ps=T a b:=⟨_,rfl⟩;have hpl:ps.length≤1000:=by rw[hps];exact hlen a b
  rw[←hD] at aAU⊢;rw[←hps]
  refine aO (fun q:Nat×Own=>aB 53 0 [(0, .ptr cb (.agg 4) 0 0),(2, .int .i64 b),(7,tms q.2 (D++jU xs[i].t (ps.take q.1))),(9, .ptr nx1 (.agg 3) 0 0),(14, .sl (.agg 3) oa (xs.map Sp.v)),(15, .int .i64 xs.length),(16, .int .i64 i),(30, .sl (.agg 2) oc (ps.map Pa.v)),(31, .int .i64 ps.length),(32, .int .i64 q.1)])
   (fun q hp2 nx2=>q.1≤ps.length∧nx1+1≤nx2∧aI hp2 nx2∧Kd nx h' hp2∧hp2 nx1=some (.arr (.agg 3) [.agg [.int .i64 a, .int .i64 xs[i].t.e, .int .i64 xs[i].t.r]])∧Acc hp2 nx q.2 ((D++jU xs[i].t (ps.take q.1)).map Tm.v))
   (fun q=>ps.length-q.1) (0,o) ⟨KK _,ZN,(by(try dsimp only);repeat (first|exact aI.up hdm or|refine aI.aAh ?_ or _|refine aI.del ?_|refine aI.aAb ?_ _)),(by(try dsimp only);repeat (first|exact hsm|refine aW ?_ or _|refine aX ?_ or)),by simp[Ke],?_⟩ ?_ ?_
  ·simp only[KC,jU,Kw];exact(by(try dsimp only);repeat' (first|exact aAU|exact Acc.new _ Zm or|exact lS.new or|exact aI.aEU hdm or|exact gQ|exact kC (by assumption)|refine gN or ?_|refine gO ?_|refine Acc.set ?_ ?_ _|refine lS.set ?_ ?_ _))
  ·simp only[WkL,aB,jH,jI,jJ,tms,jU,KC,Kw,go_sem,reduceIte,jA,jB,jC,jD,reduceCtorEq,jE,jF]
  rintro⟨k,o2⟩ hp2 nx2 ⟨hk,aBs,aBU,aCd,hbx,aBJ⟩;generalize hQ2:bH _ _ _ _ _=Q2;dsimp only at hk aBJ;simp only[aB,tms,go_sem,reduceIte,jA,jB,jC,jD,reduceCtorEq,jE,jF];have aEp:nx1<nx2:=or;have aAa:(D++jU xs[i].t (ps.take k)).length≤1000000:=by
   have h1:=vr xs[i].t (ps.take k);have h2:(ps.take k).length≤1000:=by rw[KL];omega
   rw[Kg];omega
  rcases KI k ps.length with aBt|aVf
  ·have hck:decide ((k:Int)<(ps.length:Int))=true:=decide_eq_true or;have hgk:(ps.map Pa.v).getD k (.tup [])=ps[k].v:=bY Pa.v _ ps k aBt;have hwk:IntKind.i64.wrap ((k:Int)+1)=((k+1:Nat):Int):=by rw[bB]<;>omega
   have hof:∀h,aY Tryz.prog 83 [ps[k].v, .agg [.int .i64 xs[i].t.e, .int .i64 xs[i].t.r]] h (.tup [(ps[k].of xs[i].t).1.v,fC (ps[k].of xs[i].t).2]):=fun h=>aw ps[k] xs[i].t h;have hpf:=ps[k].aAC
   (repeat' (first|(with_reducible first|refine stp ?_|refine bJ ZM ?_|refine iQ (fun _=>?_) (fun _=>?_))|((first|(with_reducible refine fV ?_;first|refine eJ rfl ?_ ?_|refine aQ (hof _) rfl (aT _) ?_|refine sI (n0:=nx) rfl (by(try dsimp only);repeat' (first|exact aBJ|exact Acc.new _ Zm or|exact lS.new or|exact aI.aEU aBU or|exact gQ|exact kC (by assumption)|refine gN or ?_|refine gO ?_|refine Acc.set ?_ ?_ _|refine lS.set ?_ ?_ _)) rfl Zm (by simp only[jK,hbx,aEp,hck,hgk,aBt,hwk,iL,Tm.aAC,hpf,jK,jG,go_sem,reduceIte,jA,jB,jC,jD,reduceCtorEq,jE,jF];try omega) ?_|refine Zx ?_)|(with_reducible refine fW ?_;first|refine cB rfl ?_ ?_|refine ZX ?_)|refine Zy ?_)<;>try simp only[hbx,aEp,hck,hgk,aBt,hwk,iL,Tm.aAC,hpf,jK,jG,go_sem,reduceIte,jA,jB,jC,jD,reduceCtorEq,jE,jF])|refine ZY ?_|omega))
   ·rename_i hx;have hn:jU xs[i].t (ps.take (k+1))=jU xs[i].t (ps.take k)++[(ps[k].of xs[i].t).1]:=by rw[o7 _ _ _ aBt,if_pos (of_decide_eq_true hx)]
    rw[←hQ2];refine aD (k+1, .tok (nx2+5)) Zw ⟨aBt,ZN,(by(try dsimp only);repeat (first|exact aI.up aBU or|refine aI.aAh ?_ or _|refine aI.del ?_|refine aI.aAb ?_ _)),(by(try dsimp only);repeat (first|exact aCd|refine aW ?_ or _|refine aX ?_ or|refine fE ?_ (fun id e=>by have:=(aBJ).ge id e;omega))),?_,?_⟩ ?_
    ·simp only[Kb];rw[if_neg or,Cs aBJ hbx];simp only[Kb];repeat rw[if_neg or]
     exact hbx
    ·dsimp only;rw[hn,←KJ,Kp];exact Acc.new _ Zm or
    simp only[WkL,aB,jH,jI,jJ,tms,hn,Kp,KD,Kx,KJ,go_sem,reduceIte,jA,jB,jC,jD,reduceCtorEq,jE,jF]
   rename_i hx;have hn:jU xs[i].t (ps.take (k+1))=jU xs[i].t (ps.take k):=by rw[o7 _ _ _ aBt,if_neg (of_decide_eq_false hx),Kw]
   rw[←hQ2];refine aD (k+1,o2) Zw ⟨aBt,ZN,(by(try dsimp only);repeat (first|exact aI.up aBU or|refine aI.aAh ?_ or _|refine aI.del ?_|refine aI.aAb ?_ _)),(by(try dsimp only);repeat (first|exact aCd|refine aW ?_ or _|refine aX ?_ or|refine fE ?_ (fun id e=>by have:=(aBJ).ge id e;omega))),?_,?_⟩ ?_
   ·simp only[Kb];repeat rw[if_neg or]
    exact hbx
   ·dsimp only;rw[hn];exact(by(try dsimp only);repeat' (first|exact aBJ|exact Acc.new _ Zm or|exact lS.new or|exact aI.aEU aBU or|exact gQ|exact kC (by assumption)|refine gN or ?_|refine gO ?_|refine Acc.set ?_ ?_ _|refine lS.set ?_ ?_ _))
   simp only[WkL,aB,jH,jI,jJ,tms,hn,go_sem,reduceIte,jA,jB,jC,jD,reduceCtorEq,jE,jF]
  have hck:decide ((k:Int)<(ps.length:Int))=false:=decide_eq_false or;have hil:ps.take k=ps:=Kv or;rw[hil] at aBJ⊢;have aBh:frT T b (xs.take (i+1))=D++jU xs[i].t ps:=by rw[DH T b xs i hlt,hta,←hD,←hps]
  refine aue (ee2 hck hw) ?_;rw[←hQ2];clear hQ2 Q2;refine aue hw ?_;rw[←hQ];refine aD (i+1,o2) Zw ⟨hlt,ZN,(by(try dsimp only);repeat (first|exact aI.up aBU or|refine aI.aAh ?_ or _|refine aI.del ?_|refine aI.aAb ?_ _)),aCd,by dsimp only;rw[aBh];exact aBJ⟩ ?_;simp only[WkL,aB,jH,jI,jJ,tms,aBh,go_sem,reduceIte,jA,jB,jC,jD,reduceCtorEq,jE,jF]
 have hc1:decide ((i:Int)<(xs.length:Int))=false:=decide_eq_false or;have hil:xs.take i=xs:=Kv or;have aAa:(frT T b xs).length≤1000000:=by
  have:=rt T b 1000 (fun a=>hlen a b) xs;omega
 rw[hil] at aAU⊢;refine aue hc1 ?_;rw[←hQ]
 (repeat' (first|(with_reducible first|refine stp ?_|refine bJ ZM ?_|refine iQ (fun _=>?_) (fun _=>?_))|((first|(with_reducible refine fV ?_;first|refine eJ rfl ?_ ?_|refine aQ (sh _ _ aAa _) rfl (aT _) ?_|refine Zx ?_)|(with_reducible refine fW ?_;first|refine cB rfl ?_ ?_|refine ZX ?_)|refine Zy ?_)<;>try simp only[ go_sem,reduceIte,jA,jB,jC,jD,reduceCtorEq,jE,jF])|refine ZY ?_|omega))
 refine aG h' (hsm.le hd (Kc _)) ⟨?_,rfl⟩;simp only[go_sem,reduceIte,jA,jB,jC,jD,reduceCtorEq,jE,jF]
end Go.Proofs.YtecepaehmojpgaaGreat
namespace Go.Proofs.YtecepaehmojpgaaGreat
open Go.RowKit
attribute [local irreducible] Kq
theorem Dm{T:Nat→Nat→List Pa}{b:Nat}{xs ys:List Sp}(h:xs.Perm ys):ofT (frT T b xs)=ofT (frT T b ys):=by
 refine BP fun x _=>?_;simp only[frT,List.mem_flatMap];exact⟨fun⟨s,h1,h2⟩=>⟨s,h.mem_iff.1 h1,h2⟩,fun⟨s,h1,h2⟩=>⟨s,h.mem_iff.2 h1,h2⟩⟩
theorem rn:aH Tryz.prog 64=some (LB.Clone (.agg 4) 32):=Zz
theorem ff(n:Nat)(l:List We):CJ (cQ l) n (eK n l n):=by
 refine⟨by simp[eK],fun a b ha hb=>?_⟩;have h1:(eK n l n).getD a (.tup [])=nK n l a:=by
  unfold eK;rw[bY _ _ _ a (by simpa using ha)];simp
 obtain⟨oc,hoc⟩:=nG (.agg 2) ((cQ l a b).map Pa.v);refine⟨.free,_,h1,by simp[lH],oc,?_⟩;rw[bY _ _ _ b (by simpa [lH] using hb)];simp[lH,hoc]
theorem xc(L:Nat→Prop)(n:Nat)(l:List We)(a:Nat):(nK n l a).names L:=by
 unfold nK;simp only[V.names,true_and,and_true];refine⟨fun n e=>(by cases e),?_⟩;exact bG (f:=fun m:List Pa=>lst (.agg 2) (m.map Pa.v)) (fun m=>cP (fun L=>bG (Pa.aAN L) m) L) _
theorem CH{P:Program}{f:FuncId}{args:List V}{h:Hp}{nx:Nat}{R:V→Hp→Nat→Prop}(hen:fG P f=true)(c:aI h nx→bD P f args h nx R):bD P f args h nx R:=
 ⟨hen,fun K aAK hl aAV hv=>(c (fun m b hm=>hl m (aAV.lt m b hm))).2 K aAK hl aAV hv⟩
theorem yr(o:Own){P:Int}{ws:List Wy}{n:Nat}{l:List We}(R:lC P ws n l)(hl:ws.length≤1000)(h:Hp):aY Tryz.prog 38 [mps o P ws] h (lst .leaf (eK n l n)):=by
 refine dB (fun L=>cP (fun L=>bG (fun a=>xc L n l a) _) L) fun h' nx hh=>CH (yq o R hl h' nx).1 fun hd=>((yq o R hl h' nx).mono ?_);rintro v h'' nx' hnx ⟨o2,rfl,aAU,hsm⟩;exact⟨by rw[aAU.loose];rfl,hsm.le hd (Kc _)⟩
theorem B0(o:Own)(ws:List Wy)(hn:o= .nil→ws=[]):(wys o ws).loose=lst (.agg 4) (ws.map Wy.v)∨∃o2,(wys o ws).loose=wys o2 ws:=by
 right;cases o with
 |nil=>exact⟨.nil,rfl⟩
 |full=>exact⟨.free,rfl⟩
 |free=>exact⟨.free,rfl⟩
 |tok n=>exact⟨.free,rfl⟩
set_option maxRecDepth 100000 in
theorem Do(o:Own){P:Int}{ws:List Wy}{n:Nat}{l:List We}(R:lC P ws n l)(hl:ws.length≤1000)(hn:o= .nil→ws=[])(h':Hp)(nx:Nat):
 bD Tryz.prog 35 [mps o P ws] h' nx fun v h'' _=>∃cb m o2 ot,v= .tup [.ptr cb (.agg 4) 0 0, .nilIface]∧nx≤cb∧nx≤m∧cb≠m∧h''=(h'.set m (.mp [] 0)).set cb (.arr (.agg 4) [kJ P (wys o2 ws) (.sl .leaf ot (eK n l n)) m]):=by
 have hr:gI P ws=true:=(lK P ws).2 ⟨n,l,R⟩;refine aF L.aVu fun hd=>?_;have hmf:(mps o P ws).fits (.agg 2)=true:=by simp[mps,V.fits,V.aAD,wys]
 simp only[Kj,Kk,Ks,Kt,Kh,Ki,Km,Ko,V.undef];obtain⟨o2,ho2⟩:∃o2,(wys o ws).loose=wys o2 ws:=by
  rcases B0 o ws hn with h|h
  ·obtain⟨ox,hx⟩:=nG (.agg 4) (ws.map Wy.v);exact⟨ox,h.trans hx⟩
  exact h
 have hcl:∀h,aY Tryz.prog 64 [wys o ws] h (wys o2 ws):=fun h=>by
  have:=jo rn or o (ws.map Wy.v) (by simp;omega) (fun e=>by rw[hn e];rfl) (fun L=>bG (Wy.aAN L) _) h;rw[show(V.sl (.agg 4) o (ws.map Wy.v)).loose=wys o2 ws from ho2] at this;exact this
 obtain⟨ot,hot⟩:=nG .leaf (eK n l n);have aAt:∀h,aY Tryz.prog 38 [mps o2 P ws] h (.sl .leaf ot (eK n l n)):=fun h=>by
  have:=yr o2 R hl h;rw[hot] at this;exact this
 have hlw:(wys o2 ws).aAD=true:=rfl;have aWU:∀o,mps o P ws= .agg [.int .i64 P,wys o ws]:=fun _=>rfl;simp only[aWU] at aAt hmf⊢;have C1:=fun h=>oM o P ws hl h;have D1:=fun h=>hcl h;have D2:=fun h=>aAt h;refine aue (ee3 hmf hr hlw) ?_;refine iO ((h'.set (nx+12) (.mp [] 0)).set (nx+14) (.arr (.agg 4) [kJ P (wys o2 ws) (.sl .leaf ot (eK n l n)) (nx+12)])) ?_ ⟨nx+14,nx+12,o2,ot,rfl,or,or,or,rfl⟩;intro q b hb;simp only[Kb] at hb⊢;split at hb
 ·rename_i e;rw[if_pos e];exact hb
 rename_i e;rw[if_neg e];split at hb
 ·rename_i e2;rw[if_pos e2];exact hb
 rename_i e2;have:=hd q b hb;rw[if_neg e2];repeat rw[if_neg or]
 exact hb
theorem EA(o:Own){P:Int}{ws:List Wy}(hr:gI P ws=false)(hl:ws.length≤1000)(h:Hp):
 aY Tryz.prog 35 [mps o P ws] h (.tup [.aAJ,fC 2]):=by
 have hmf:(mps o P ws).fits (.agg 2)=true:=by simp[mps,V.fits,V.aAD,wys]
 refine aR (fun L=>by simp[V.names,bU,fC]) fun h' nx hh=>aF L.aVu fun hd=>?_;simp only[Kj,Kk,Ks,Kt,Kh,Ki,Km,Ko,V.undef];have C1:=fun h=>oM o P ws hl h;refine aue (ee2 hmf hr) ?_;exact iO h' (by repeat (first|exact Kc _|refine aJ hd ?_ or _|refine aL hd ?_ or)) ⟨rfl,rfl⟩
end Go.Proofs.YtecepaehmojpgaaGreat
namespace Go.Proofs.YtecepaehmojpgaaGreat
open Go.RowKit Go.Sort
def kH:List We:=[⟨0,1,⟨false,0⟩⟩]
def sD:List Wy:=[⟨0,1,⟨false,0⟩⟩]
theorem oy:cC sD=sD:=by rw[nR];decide
theorem A9:cT 2 sD=((2,sD),0):=by
 have h1:¬((2:Int)<0∨(200:Int)<2∨∃w∈sD,w.fit 2=false):=ZM;have h2:¬(1048576:Int)<fD sD:=ZM;have h3:¬(mf (sD.map Wy.we)∨sW (sD.map Wy.we)):=by
  rintro(⟨y,hy⟩|⟨w,hw,hn,_⟩)
  ·have e1:∀a b,(a,b)∈zE (sD.map Wy.we)→a=0∧b=1:=by
    intro a b h;have h:(a,b)∈ [((0:Nat),(1:Nat))]:=h;simpa using h
   cases hy with
   |one h=>have:=e1 _ _ h;omega
   |cons h k=>
    have h1:=e1 _ _ h;have:=k.closed (S:=fun x=>x=1) (fun a b ha hb=>(e1 _ _ hb).2) h1.2;omega
  simp[sD,Wy.we] at hw;rcases hw with rfl;cases hn
 unfold cT;rw[if_neg h1,oy,if_neg h2,if_neg h3]
theorem zF:lC 2 sD 2 kH:=by
 have h:(cT 2 sD).2=0:=by rw[A9]
 obtain⟨n,l,R⟩:=vn h;rw[oy] at R;have hn:n=2:=by have:=R.pl;omega
 have hl:l=kH:=by
  have h2:=R.eq;have hlen:l.length=1:=by have:=congrArg List.length h2;simpa [sD] using this.symm
  obtain⟨b,rfl⟩:=List.length_eq_one_iff.1 hlen;obtain⟨f,t,p⟩:=b;simp only[sD,KD,Kx,We.wy,List.cons.injEq,Wy.mk.injEq,and_true] at h2;obtain⟨q1,q2,q3⟩:=h2;have e1:f=0:=or;have e2:t=1:=or;subst e1 e2;rw[←q3];rfl
 subst hn hl;exact R
theorem ou:cQ kH 0 1=[Pa.aAQ]:=
 pN ⟨by simp[Can],(fun p hp=>by simp at hp;subst hp;exact⟨kH,⟨by simp[kH],rfl,rfl⟩,rfl⟩),fun p ⟨l,h1,h2⟩=>⟨Pa.aAQ,Zm,zp l (fun w hw=>by
  have:=sx h1 w hw;simp[kH] at this;rcases this with rfl;rfl) h2⟩⟩
end Go.Proofs.YtecepaehmojpgaaGreat
namespace Go.Proofs.YtecepaehmojpgaaGreat
open Go.RowKit
attribute [local irreducible] Kq
theorem vX(l:List We)(a k:Nat):(cQ l a k).length≤2:=by
 unfold cQ;split
 ·rename_i h;exact rF (Classical.choose_spec h).can
 simp
end Go.Proofs.YtecepaehmojpgaaGreat
namespace Go.Proofs.YtecepaehmojpgaaGreat
def fO(t:Tm)(l:List Pa):List Tm:=l.flatMap fun p=>if (p.of t).2=0 then [(p.of t).1] else []
theorem yc(t:Tm)(l:List Pa)(k:Nat)(h:k<l.length):fO t (l.take (k+1))=fO t (l.take k)++(if (l[k].of t).2=0 then [(l[k].of t).1] else []):=by
 unfold fO;rw[Kf h,KE];simp
theorem bw(t:Tm)(p:Pa)(l:List Pa):fO t (p::l)=(if (p.of t).2=0 then [(p.of t).1] else [])++fO t l:=by simp[fO]
theorem jg(t:Tm)(l:List Pa):(fO t l).length≤l.length:=by
 induction l with
 |nil=>simp[fO]
 |cons p l ih=>
  rw[bw,Kg,Kj];split
  ·rw[List.length_singleton];omega
  rw[Kk];omega
end Go.Proofs.YtecepaehmojpgaaGreat
