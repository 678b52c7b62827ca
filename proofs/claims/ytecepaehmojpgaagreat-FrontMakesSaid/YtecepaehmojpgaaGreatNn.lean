/-
Texts of this proof,one behind the other. No conditions.
-/
import Derived.Test.YtecepaehmojpgaaGreatNd
import Derived.Test.YtecepaehmojpgaaGreatNm
import Derived.Test.YtecepaehmojpgaaGreatNe
import Derived.Test.YtecepaehmojpgaaGreatNg
import Derived.Test.YtecepaehmojpgaaGreatNf
import Derived.Test.YtecepaehmojpgaaGreatNl
import Derived.Test.YtecepaehmojpgaaGreatNh
open Go.Proofs.YtecepaehmojpgaaGreat.CE renaming me→Ka
open Go.Proofs.YtecepaehmojpgaaGreat.Hp renaming aAQ→Kb,le_refl→Kc,same→Kd,set→Ke
open List renaming take_succ_eq_append_getElem→Kf,length_append→Kg,length_cons→Kh,replicate_succ→Ki,replicate_zero→Kj,length_nil→Kk,map_append→Km,cons_append→Kp,nil_append→Kq,mem_map→Ks,take_of_length_le→Kt,append_nil→Kw,map_nil→Kx,mem_singleton→Ky,mem_append→Kz,take_zero→KC,map_cons→KD,flatMap_append→KE,append_assoc→KJ,length_take→KL
open Go.IntKind renaming wrap→Ko
open Nat renaming reduceAdd→Ku,reduceSub→Kv,le_refl→KB,lt_or_ge→KI,zero_le→KK
open Bool renaming false_eq_true→KF,true_or→KG,or_true→KH,not_false→KM,false_or→KN,not_true→KO
set_option linter.unusedSimpArgs false
set_option linter.unusedVariables false
set_option linter.unusedSectionVars false
set_option maxHeartbeats 8000000
open Nat renaming reduceAdd→jA,reduceSub→jB,reduceLT→jC,reduceLeDiff→jD,reduceEqDiff→jE
open Int renaming reduceToNat→jF,toNat_natCast→jG,natCast_add→jH,natCast_one→jI,natCast_zero→jJ
open List renaming length_map→jK,length_cons→jL,length_nil→jM,replicate_succ→jN,replicate_zero→jO,cons_append→jP,nil_append→jQ
namespace Go.Proofs.YtecepaehmojpgaaGreat
open Go.RowKit
attribute [local irreducible] Ko
def lM(P:Int)(wv lv:V)(m:Nat):V:= .agg [.int .i64 P,wv,lv, .map m]
structure eV(h:Hp)(cb m:Nat)(P:Int)(wv lv:V)(l:List CE)(c:Nat):Prop where
 cell:h cb=some (.arr (.agg 4) [lM P wv lv m])
 mp:h m=some (.mp (l.map Ka) c)
 wf:wv.aAD=true
 lf:lv.aAD=true
theorem AL{P:Int}{wv lv:V}{m:Nat}(hw:wv.aAD=true)(hl:lv.aAD=true):(lM P wv lv m).fits (.agg 4)=true:=by
 simp[lM,V.fits,hw,hl,sI,yD]
theorem zi(x:Cg)(h:Hp):aX Tryz.prog 67 [x.v] h (.bool (!(decide (-1000000≤x.d)&&decide (x.d≤1000000)))):=by
 refine aP (fun L=>trivial) fun h' nx hh=>aD L.aVm fun hd=>?_;simp only[Kh,Kk,Ku,Kv,Ki,Kj,Kp,Kq,V.undef];have C1:=fun h=>wW x.d h;refine aue Cg.v.eq_1 ?_;exact aG h' (by repeat (first|exact Kc _|refine aH hd ?_ or _|refine aL hd ?_ or)) ⟨rfl,rfl⟩
def fM(P:Int)(x:Cg):Bool:=decide (x.s.p<0)||decide (x.s.p≥P)|| !x.s.t.ok
theorem l7(x:Cg){h:Hp}{cb cp m c:Nat}{P:Int}{wv lv:V}{l:List CE}(hc:eV h cb m P wv lv l c)(hp:h cp=some (.arr .leaf [.ptr cb (.agg 4) 0 0])):
 aX Tryz.prog 65 [x.v, .ptr cp .leaf 0 0] h (.bool (fM P x)):=by
 refine aP (fun L=>trivial) fun h' nx hh=>aD L.aVo fun hd=>?_;simp only[Kh,Kk,Ku,Kv,Ki,Kj,Kp,Kq,V.undef];have c1:=hh _ _ hc.cell rfl;have c2:=hh _ _ hp rfl;have n1:cb<nx:=hd _ _ c1;have n2:cp<nx:=hd _ _ c2;have e1:(cb=nx)=False:=eq_false or;have e2:(cp=nx)=False:=eq_false or;have hrt:∀h,aX Tryz.prog 66 [.agg [.int .i64 x.s.t.e, .int .i64 x.s.t.r]] h (.bool x.s.t.ok):=fun h=>pC x.s.t h;unfold fM;cases h1:decide (x.s.p<0) with
 |true=>
  have D1:=fun h=>hrt h;refine aue (ei Cg.v.eq_1 lM.eq_1 c1 c2 n1 n2 e1 e2 h1 KG KH) ?_;exact aG h' (by repeat (first|exact Kc _|refine aH hd ?_ or _|refine aL hd ?_ or)) ⟨rfl,rfl⟩
 |false=>
  cases h2:decide (x.s.p≥P) with
  |true=>
   have D1:=fun h=>hrt h;refine aue (CO Cg.v.eq_1 lM.eq_1 c1 c2 n1 n2 e1 e2 h1 h2 KG KH KN) ?_;exact aG h' (by repeat (first|exact Kc _|refine aH hd ?_ or _|refine aL hd ?_ or)) ⟨rfl,rfl⟩
  |false=>
   have D1:=fun h=>hrt h;refine aue (CO Cg.v.eq_1 lM.eq_1 c1 c2 n1 n2 e1 e2 h1 h2 KG KH KN) ?_;exact aG h' (by repeat (first|exact Kc _|refine aH hd ?_ or _|refine aL hd ?_ or)) ⟨rfl,rfl⟩
theorem BL(s:Sp){h:Hp}{cb m c:Nat}{P:Int}{wv lv:V}{l:List CE}(hc:eV h cb m P wv lv l c):
 aX Tryz.prog 43 [.ptr cb (.agg 4) 0 0,s.v] h (.int .i64 (dT l s)):=by
 refine aP (fun L=>trivial) fun h' nx hh=>aD L.aV1 fun hd=>?_;simp only[Kh,Kk,Ku,Kv,Ki,Kj,Kp,Kq,V.undef];have c1:=hh _ _ hc.cell rfl;have c2:=hh _ _ hc.mp rfl;have n1:cb<nx:=hd _ _ c1;have n2:m<nx:=hd _ _ c2;have e1:(cb=nx)=False:=eq_false or;have e2:(m=nx)=False:=eq_false or;have hlp:bV (.agg 3) 0 s.v=s.v:=rfl;have hsf:=Sp.aAC s;have hmf:=lJ s l;have hmg:=wD l s;refine aue (ei lM.eq_1 c1 c2 n1 n2 e1 e2 hlp hsf hmf hmg) ?_;exact aG h' (by repeat (first|exact Kc _|refine aH hd ?_ or _|refine aL hd ?_ or)) ⟨rfl,rfl⟩
end Go.Proofs.YtecepaehmojpgaaGreat
namespace Go.Proofs.YtecepaehmojpgaaGreat
open Go.RowKit Go.Shelf
attribute [local irreducible] Ko
theorem lS:aJ Tryz.prog 69=some (LB.aAj (.agg 4) 105):=Zz
theorem oI:aJ Tryz.prog 105=some (LB.aAe (.agg 4)):=Zz
def eB(n:Int):Bool:= !(decide (-1000000≤n)&&decide (n≤1000000))
def bQ(P:Int)(l:List CE)(c:Nat)(r:List Cg):Int×List CE×Nat:=
 if r.any (fM P)=true then (2,l,c) else if r.any (fun x=>eB x.d)=true then (1,l,c) else
 if (eX l c r).1.any (fun y=>eB y.n)=true then (1,l,c) else (0,(eX l c r).1,(eX l c r).2)
set_option maxRecDepth 100000 in
set_option maxHeartbeats 4000000 in
theorem xv(o:Own)(r:List Cg)(hr:r.length≤100000)(l:List CE)(c:Nat)(hok:fK l c)(P:Int)(wv lv:V)(cb m:Nat)(h':Hp)(nx:Nat)(hc:eV h' cb m P wv lv l c):
 bD Tryz.prog 36 [.ptr cb (.agg 4) 0 0,cgs o r] h' nx fun v h'' _=>v=eF (bQ P l c r).1∧
  (((bQ P l c r).1≠0∧h''=h')∨((bQ P l c r).1=0∧∃m2,nx≤m2∧h''=(h'.set m2 (.mp ((bQ P l c r).2.1.map Ka) (bQ P l c r).2.2)).set cb (.arr (.agg 4) [lM P wv lv m2]))):=by
 refine aD L.aV7 fun hd=>?_;simp only[jL,jM,jA,jB,jN,jO,jP,jQ,V.undef];have hcb:=hc.cell;have hcm:=hc.mp;have n1:cb<nx:=hd _ _ hcb;have n2:m<nx:=hd _ _ hcm;have e1:(cb=nx)=False:=eq_false or;have aJf:eV (h'.set nx (.arr .leaf [.ptr cb (.agg 4) 0 0])) cb m P wv lv l c:=⟨by simp only[Ke];rw[if_neg or];exact hcb,by simp only[Ke];rw[if_neg or];exact hcm,hc.wf,hc.lf⟩;have hst:aX Tryz.prog 69 [.sl (.agg 4) o (r.map Cg.v), .fn (.func 65) [] [.ptr nx .leaf 0 0]] (h'.set nx (.arr .leaf [.ptr cb (.agg 4) 0 0])) (.bool (r.any (fM P))):=
  dR Cg.v Cg.aAC lS oI (fM P) o r _ [.ptr nx .leaf 0 0] _ (fun x _=>l7 x aJf (by simp[Ke])) or
 have hwd:aX Tryz.prog 69 [.sl (.agg 4) o (r.map Cg.v), .fn (.func 67) [] []] (h'.set nx (.arr .leaf [.ptr cb (.agg 4) 0 0])) (.bool (r.any fun x=>eB x.d)):=
  dR Cg.v Cg.aAC lS oI (fun x=>eB x.d) o r _ [] _ (fun x _=>zi x _) or
 unfold bQ;cases hs:r.any (fM P) with
 |true=>
  rw[hs] at hst;have C5:=hst;refine aue cgs.eq_1 ?_;exact aG h' (by repeat (first|exact Kc _|refine aH hd ?_ or _|refine aL hd ?_ or)) ⟨rfl, .inl ⟨Zm,rfl⟩⟩
 |false=>
  rw[hs] at hst;cases hw:r.any (fun x=>eB x.d) with
  |true=>
   rw[hw] at hwd;have C5:=hst;have C6:=hwd;refine aue cgs.eq_1 ?_;exact aG h' (by repeat (first|exact Kc _|refine aH hd ?_ or _|refine aL hd ?_ or)) ⟨rfl, .inl ⟨Zm,rfl⟩⟩
  |false=>
   rw[hw] at hwd;simp only[KF,if_false];have C5:=hst;have C6:=hwd;refine aue (ee5 cgs.eq_1 aJf.cell e1 hcb lM.eq_1) ?_;refine bX ((qY Df Zz m (l.map Ka) c _ _ ?_).mono ?_)
   ·simp only[Kb];rw[if_neg or];exact hcm
   rintro v h3 nx3 aGm ⟨rfl,rfl,rfl⟩;unfold eI;refine Zn ?_;refine aue trivial ?_;obtain⟨A,hA⟩:∃A:Nat→List CE×Nat,∀i,A i=eX l c (r.take i):=⟨_,fun _=>rfl⟩
   refine aT (fun i:Nat=>aB 58 0 [(2, .ptr nx .leaf 0 0),(7, .map (nx+1)),(31,cgs o r),(32, .int .i64 r.length),(33, .int .i64 i)])
    (fun i hp nx1=>i≤r.length∧nx+2≤nx1∧aK hp nx1∧Kd (nx+1) (h'.set nx (.arr .leaf [.ptr cb (.agg 4) 0 0])) hp∧hp (nx+1)=some (.mp ((A i).1.map Ka) (A i).2))
    (fun i=>r.length-i) 0 ⟨KK _,Zm,(by(try dsimp only);repeat (first|exact aK.up hd or|refine aK.aAh ?_ or _|refine aK.del ?_|refine aK.aAb ?_ _)),(by(try dsimp only);repeat (first|exact Hp.same.aBI|refine aV ?_ or _|refine aW ?_ or)),?_⟩ ?_ ?_
   ·rw[hA];simp[Ke,eX]
   ·simp only[WkL,aB,jH,jI,jJ,cgs,go_sem,reduceIte,jA,jB,jC,jD,reduceCtorEq,jE,jF]
   rintro i hp nx1 ⟨hi,hnx,hdm,hsm,hmp⟩;generalize hQ:bO _ _ _ _ _=Q0;simp only[aB,cgs,go_sem,reduceIte,jA,jB,jC,jD,reduceCtorEq,jE,jF];have aJQ:=(oW (r.take i) hok);rw[←hA] at aJQ;rcases KI i r.length with hlt|hge
   ·have hc1:decide ((i:Int)<(r.length:Int))=true:=decide_eq_true or;have hg:(r.map Cg.v).getD i (.tup [])= .agg [.int .i64 r[i].s.p, .int .i64 r[i].s.t.e, .int .i64 r[i].s.t.r, .int .i64 r[i].d]:=dQ Cg.v _ r i hlt;have hwp:IntKind.i64.wrap ((i:Int)+1)=((i+1:Nat):Int):=by rw[aY]<;>omega
    refine aue (ee4 hc1 hg hlt hwp) ?_;refine bX ((Cd (A i).1 (A i).2 aJQ.1 r[i].s r[i].d (nx+1) _ _ ?_).dom.mono ?_)
    ·simp only[Kb];rw[if_neg or,if_neg or];exact hmp
    rintro v h3 nx3 aGm ⟨rfl,aUI,_⟩;unfold eI;refine Zn ?_;refine aue hwp ?_;rw[←hQ];refine aF (i+1) or ⟨hlt,by dsimp only at aGm⊢;omega,aUI,?_,?_⟩ ?_
    ·refine fun m hm=>?_;simp only[Kb];rw[if_neg or,if_neg or,if_neg or];have:=hsm m hm;simp only[Kb] at this;exact this
    ·have e:A (i+1)=xE (A i).1 (A i).2 r[i].s r[i].d:=by
      rw[hA,hA,Kf hlt,zR]
     rw[e];simp only[Kb,if_true,reduceIte]
    simp only[WkL,aB,jH,jI,jJ,cgs,go_sem,reduceIte,jA,jB,jC,jD,reduceCtorEq,jE,jF]
   have hc1:decide ((i:Int)<(r.length:Int))=false:=decide_eq_false or;have hil:r.take i=r:=Kt or;rw[hil] at aJQ;have hAl:A i=eX l c r:=by rw[hA,hil]
   rw[hAl] at hmp aJQ;obtain⟨aJP,_,aUA⟩:=aJQ;refine aue hc1 ?_;rw[←hQ];clear hQ Q0;generalize (eX l c r).1=L2 at*;generalize (eX l c r).2=c2 at*;refine au ?_;refine rk rfl hmp ?_;refine Zn ?_;refine au ?_
   refine aT (fun _:List CE=>aB 58 0 [(2, .ptr nx .leaf 0 0),(7, .map (nx+1)),(45, .ptr nx1 .leaf 0 0)])
    (fun js hp2 nx2=>(js.map fun y=>(Ka y).b).Nodup∧(∀y∈js,y∈L2)∧(∀y∈js,eB y.n=false)∧nx1+1≤nx2∧aK hp2 nx2∧Kd (nx+1) (h'.set nx (.arr .leaf [.ptr cb (.agg 4) 0 0])) hp2∧hp2 (nx+1)=some (.mp (L2.map Ka) c2)∧hp2 nx1=some (.mit (nx+1) c2 (js.map fun y=>(Ka y).b) c2))
    (fun js=>L2.length-js.length) [] ⟨Zm,Zm,Zm,Zm,(by(try dsimp only);repeat (first|exact aK.up hdm or|refine aK.aAh ?_ or _|refine aK.del ?_|refine aK.aAb ?_ _)),(by(try dsimp only);repeat (first|exact hsm|refine aV ?_ or _|refine aW ?_ or)),?_,?_⟩ ?_ ?_
   ·simp only[Kb];rw[if_neg or];exact hmp
   ·simp[Ke]
   ·simp only[WkL,aB,jH,jI,jJ,go_sem,reduceIte,jA,jB,jC,jD,reduceCtorEq,jE,jF]
   rintro js hp2 nx2 ⟨hjn,hjl,hjw,hn2,aBN,aDq,aMw,hit⟩;generalize hQ:bO _ _ _ _ _=Q0;simp only[aB,go_sem,reduceIte,jA,jB,jC,jD,reduceCtorEq,jE,jF];repeat (first|with_reducible refine bH ?_|with_reducible refine dN ?_|with_reducible refine eG ?_|with_reducible refine aM ?_|with_reducible refine cC ?_|with_reducible refine bM ?_|with_reducible refine eN ?_)
   refine rm rfl hit aMw (fun x hx=>by obtain⟨y,hy,rfl⟩:=Ks.1 hx;exact aJP.lt y hy) (KB _) ?_ ?_
   ·intro x hx hxn;obtain⟨y,hy,rfl⟩:=Ks.1 hx;have aDB:=rh (fun y=>(Ka y).b) hjn hxn;have aJL:=jm (fun y=>(Ka y).b) hjn hjl hy hxn;have aHq:=y0 Ka aJP.num hy;refine Zn ?_;refine au ?_;refine ro (es:=L2.map Ka) (c:=c2) (m:=nx+1) (since:=c2) (seen:=(js.map fun y=>(Ka y).b)++[(Ka y).b]) rfl ?_ ?_ (b:=(Ka y).b) Zm aHq ?_
    ·simp only[Kb,reduceIte]
    ·simp only[Kb];rw[if_neg or];exact aMw
    have hyn:(Ka y).v= .int .i64 y.n:=rfl;simp only[hyn,go_sem,reduceIte,jA,jB,jC,jD,reduceCtorEq,jE,jF];have hwi:∀h,aX Tryz.prog 68 [.int .i64 y.n] h (.bool (!(eB y.n))):=fun h=>by
     have:=wW y.n h;unfold eB;rw[Bool.not_not];exact this
    cases hwy:eB y.n with
    |true=>
     rw[hwy] at hwi;have aBW:L2.any (fun y=>eB y.n)=true:=List.any_eq_true.2 ⟨y,hy,hwy⟩;have C1:=fun h=>hwi h;refine aue (ee2 KO KM) ?_;rw[←hQ];refine au ?_;simp only[aBW,if_true];refine aG h' ?_ ⟨rfl, .inl ⟨Zm,rfl⟩⟩;intro n b hb;have hn:=hd n b hb;simp only[Kb];rw[if_neg or,aDq n or];simp only[Kb];rw[if_neg or];exact hb
    |false=>
     rw[hwy] at hwi;have C1:=fun h=>hwi h;refine aue (ee2 KO KM) ?_;rw[←hQ];refine aF (js++[y]) (by simp only[Kg,jL,jM];omega) ⟨aDB,?_,?_,ZN,(by(try dsimp only);repeat (first|exact aK.up aBN or|refine aK.aAh ?_ or _|refine aK.del ?_|refine aK.aAb ?_ _)),(by(try dsimp only);repeat (first|exact aDq|refine aV ?_ or _|refine aW ?_ or)),?_,?_⟩ ?_
     ·intro q hq;rcases Kz.1 hq with hq|hq
      ·exact hjl q hq
      rw[Ky.1 hq];exact hy
     ·intro q hq;rcases Kz.1 hq with hq|hq
      ·exact hjw q hq
      rw[Ky.1 hq];exact hwy
     ·simp only[Kb];rw[if_neg or];exact aMw
     ·simp only[Kb,reduceIte,Km,KD,Kx]
     simp only[WkL,aB,jH,jI,jJ,go_sem,reduceIte,jA,jB,jC,jD,reduceCtorEq,jE,jF]
   intro aAu;have aBo:=ym (fun y=>(Ka y).b) aJP.num hjn hjl (fun y hy=>aAu _ (Ks.2 ⟨y,hy,rfl⟩));have aBW:L2.any (fun y=>eB y.n)=false:=by
    rw[List.any_eq_false];intro y hy;rw[hjw y (aBo.mem_iff.2 hy)];simp
   have d1:hp2 nx=some (.arr .leaf [.ptr cb (.agg 4) 0 0]):=by rw[aDq nx or];simp[Ke]
   have d2:hp2 cb=some (.arr (.agg 4) [.agg [.int .i64 P,wv,lv, .map m]]):=by rw[aDq cb or];simp only[Kb];rw[if_neg or];exact hcb
   have hwf:=hc.wf;have hlf:=hc.lf;refine Zn ?_;refine au ?_;rw[←hQ];refine aue (ee4 d1 d2 hwf hlf) ?_;simp only[aBW,KF,if_false];refine aG ((h'.set (nx+1) (.mp (L2.map Ka) c2)).set cb (.arr (.agg 4) [lM P wv lv (nx+1)])) ?_ ⟨rfl, .inr ⟨trivial,nx+1,or,rfl⟩⟩;intro n b hb;simp only[Kb] at hb⊢;split at hb
   ·rename_i e;rw[if_pos e];exact hb
   rename_i e;rw[if_neg e];split at hb
   ·rename_i e2;rw[e2,aMw];exact hb
   have hn:=hd n b hb;rw[aDq n or];simp only[Kb];rw[if_neg or];exact hb
end Go.Proofs.YtecepaehmojpgaaGreat
namespace Go.Proofs.YtecepaehmojpgaaGreat
open Go.RowKit
attribute [local irreducible] Ko
def nY(l:List CE):List Sp:=(l.filter fun y=>decide (y.n>0)).map (·.s)
theorem AS(l:List CE)(y:CE):nY (l++[y])=nY l++if decide (y.n>0)=true then [y.s] else []:=by
 unfold nY;rw[List.filter_append,Km];congr 1;by_cases h:y.n>0<;>simp[h]
theorem ui(l:List CE):(nY l).length≤l.length:=by
 unfold nY;rw[jK];exact List.length_filter_le _ _
set_option maxRecDepth 100000 in
set_option maxHeartbeats 4000000 in
theorem uh{h':Hp}{nx cb m c:Nat}{P:Int}{wv lv:V}{l:List CE}(hc:eV h' cb m P wv lv l c)(hok:fK l c)(hl:l.length≤1000000):
 bD Tryz.prog 74 [.ptr cb (.agg 4) 0 0] h' nx fun v h'' _=>∃(o:Own) (xs:List Sp),v= .sl (.agg 3) o (xs.map Sp.v)∧xs.Perm (nY l)∧Acc h'' nx o (xs.map Sp.v)∧Kd nx h' h'':=by
 refine aD L.aVi fun hd=>?_;simp only[jL,jM,jA,jB,jN,jO,jP,jQ,V.undef];have hcb:=hc.cell;have hcm:=hc.mp;have n1:cb<nx:=hd _ _ hcb;have n2:m<nx:=hd _ _ hcm;refine aue (ee2 hcb lM.eq_1) ?_;refine rk rfl hcm ?_;refine Zn ?_;refine au ?_
 refine aT (fun q:List CE×Own=>aB 23 0 [(3, .sl (.agg 3) q.2 ((nY q.1).map Sp.v)),(10, .ptr nx .leaf 0 0)])
  (fun q hp nx1=>(q.1.map fun y=>(Ka y).b).Nodup∧(∀y∈q.1,y∈l)∧nx+1≤nx1∧aK hp nx1∧Kd nx h' hp∧hp nx=some (.mit m c (q.1.map fun y=>(Ka y).b) c)∧Acc hp (nx+1) q.2 ((nY q.1).map Sp.v))
  (fun q=>l.length-q.1.length) ([], .nil) ⟨Zm,Zm,Zm,(by(try dsimp only);repeat (first|exact aK.up hd or|refine aK.aAh ?_ or _|refine aK.del ?_|refine aK.aAb ?_ _)),(by(try dsimp only);repeat (first|exact Hp.same.aBI|refine aV ?_ or _|refine aW ?_ or)),by simp[Ke],Acc.nil⟩ ?_ ?_
 ·simp only[WkL,aB,jH,jI,jJ,nY,List.filter_nil,Kx,go_sem,reduceIte,jA,jB,jC,jD,reduceCtorEq,jE,jF]
 rintro⟨js,o⟩ hp nx1 ⟨hjn,hjl,hn1,hdm,hsm,hit,aAl⟩;generalize hQ:bO _ _ _ _ _=Q0;dsimp only at hjn hjl hit aAl;have hmp:hp m=some (.mp (l.map Ka) c):=by rw[hsm m n2];exact hcm
 simp only[aB,go_sem,reduceIte,jA,jB,jC,jD,reduceCtorEq,jE,jF];repeat (first|with_reducible refine bH ?_|with_reducible refine dN ?_|with_reducible refine eG ?_|with_reducible refine aM ?_|with_reducible refine cC ?_|with_reducible refine bM ?_|with_reducible refine eN ?_)
 refine rm rfl hit hmp (fun x hx=>by obtain⟨y,hy,rfl⟩:=Ks.1 hx;exact hok.lt y hy) (KB _) ?_ ?_
 ·intro x hx hxn;obtain⟨y,hy,rfl⟩:=Ks.1 hx;have aDB:=rh (fun y=>(Ka y).b) hjn hxn;have aJL:=jm (fun y=>(Ka y).b) hjn hjl hy hxn;have aHq:=y0 Ka hok.num hy;refine Zn ?_;refine au ?_;refine ro (es:=l.map Ka) (c:=c) (m:=m) (since:=c) (seen:=(js.map fun y=>(Ka y).b)++[(Ka y).b]) rfl ?_ ?_ (b:=(Ka y).b) Zm aHq ?_
  ·simp only[Kb,reduceIte]
  ·simp only[Kb];rw[if_neg or];exact hmp
  have hyn:(Ka y).v= .int .i64 y.n:=rfl;have hyk:(Ka y).k= .agg [.int .i64 y.s.p, .int .i64 y.s.t.e, .int .i64 y.s.t.r]:=rfl;have aJV:((nY js).map Sp.v).length=(nY js).length:=Zm;have aAW:(nY js).length≤1000000:=by have:=ui js;omega
  have aAp:∀q∈js++[y],q∈l:=fun q hq=>by
   rcases Kz.1 hq with hq|hq
   ·exact hjl q hq
   rw[Ky.1 hq];exact hy
  have hsn:=AS js y;have aBF:Acc (hp.set nx (.mit m c ((js.map fun y=>(Ka y).b)++[(Ka y).b]) c)) (nx+1) o ((nY js).map Sp.v):=by
   rcases aAl with h|⟨h1,id,h2,h3,h4⟩
   ·exact .inl h
   exact .inr ⟨h1,id,h2,h3,by simp only[Kb];rw[if_neg or];exact h4⟩
  have aBN:aK (hp.set nx (.mit m c ((js.map fun y=>(Ka y).b)++[(Ka y).b]) c)) nx1:=aK.aAh hdm or _;have aDq:Kd nx h' (hp.set nx (.mit m c ((js.map fun y=>(Ka y).b)++[(Ka y).b]) c)):=aV hsm (KB _) _;have aNc:(hp.set nx (.mit m c ((js.map fun y=>(Ka y).b)++[(Ka y).b]) c)) nx=some (.mit m c ((js++[y]).map fun y=>(Ka y).b) c):=by simp[Ke]
  generalize hp.set nx (.mit m c ((js.map fun y=>(Ka y).b)++[(Ka y).b]) c)=hp2 at aBF aBN aDq aNc⊢;simp only[hyn,hyk,go_sem,reduceIte,jA,jB,jC,jD,reduceCtorEq,jE,jF];cases aBU:decide (y.n>0) with
  |true=>
   rw[aBU,if_pos rfl] at hsn;have aTt:decide (y.n>0)=true:=aBU;have aAl:=aBF;have hdm:=aBN;refine aue (ee2 aBU aJV) ?_;rw[←hQ];refine aF (js++[y], .tok (nx1+5)) (by simp only[Kg,jL,jM];omega) ⟨aDB,aAp,ZN,(by(try dsimp only);repeat (first|exact aK.up aBN or|refine aK.aAh ?_ or _|refine aK.del ?_|refine aK.aAb ?_ _)),(by(try dsimp only);repeat (first|exact aDq|refine aV ?_ or _|refine aW ?_ or|refine eY ?_ (fun id e=>by have:=(aBF).ge id e;omega))),?_,?_⟩ ?_
   ·refine Eq.trans ((?_:Kd (nx+1) hp2 _) nx or) aNc;exact(by(try dsimp only);repeat (first|exact Hp.same.aBI|refine aV ?_ or _|refine aW ?_ or|refine eY ?_ (fun id e=>by have:=(aBF).ge id e;omega)))
   ·dsimp only;rw[hsn,Km];exact Acc.new _ Zm or
   simp only[WkL,aB,jH,jI,jJ,hsn,Km,Sp.v,go_sem,reduceIte,jA,jB,jC,jD,reduceCtorEq,jE,jF]
  |false=>
   rw[aBU,if_neg Zm,Kw] at hsn;refine aue (ee2 aBU aJV) ?_;rw[←hQ];refine aF (js++[y],o) (by simp only[Kg,jL,jM];omega) ⟨aDB,aAp,ZN,(by(try dsimp only);repeat (first|exact aK.up aBN or|refine aK.aAh ?_ or _|refine aK.del ?_|refine aK.aAb ?_ _)),(by(try dsimp only);repeat (first|exact aDq|refine aV ?_ or _|refine aW ?_ or|refine eY ?_ (fun id e=>by have:=(aBF).ge id e;omega))),?_,?_⟩ ?_
   ·refine Eq.trans ((?_:Kd (nx+1) hp2 _) nx or) aNc;exact(by(try dsimp only);repeat (first|exact Hp.same.aBI|refine aV ?_ or _|refine aW ?_ or|refine eY ?_ (fun id e=>by have:=(aBF).ge id e;omega)))
   ·dsimp only;rw[hsn];exact(by(try dsimp only);repeat' (first|exact aBF|exact Acc.new _ Zm or|exact kE.new or|exact aK.aEJ aBN or|exact gJ|exact jU (by assumption)|refine gH or ?_|refine gI ?_|refine Acc.set ?_ ?_ _|refine kE.set ?_ ?_ _))
   simp only[WkL,aB,jH,jI,jJ,hsn,go_sem,reduceIte,jA,jB,jC,jD,reduceCtorEq,jE,jF]
 intro aAu;have aBo:=ym (fun y=>(Ka y).b) hok.num hjn hjl (fun y hy=>aAu _ (Ks.2 ⟨y,hy,rfl⟩));refine Zn ?_;refine au ?_;rw[←hQ];refine au ?_;refine aG hp (Kc _) ⟨o,nY js,?_,?_,?_,hsm⟩
 ·simp only[go_sem,reduceIte,jA,jB,jC,jD,reduceCtorEq,jE,jF]
 ·exact(aBo.filter _).map _
 rcases aAl with h|⟨h1,id,h2,h3,h4⟩
 ·exact .inl h
 exact .inr ⟨h1,id,or,h3,h4⟩
end Go.Proofs.YtecepaehmojpgaaGreat
namespace Go.Proofs.YtecepaehmojpgaaGreat
open Go.RowKit
attribute [local irreducible] Ko
def kA(t:Tm):List Pa→List Tm
 | []=>[]
 |p::l=>(if (p.of t).2=0 then [(p.of t).1] else [])++kA t l
theorem rf(t:Tm)(a b:List Pa):kA t (a++b)=kA t a++kA t b:=by
 induction a with
 |nil=>rfl
 |cons p a ih=>simp[kA,ih]
theorem re(t:Tm)(a:List Pa):(kA t a).length≤a.length:=by
 induction a with
 |nil=>simp[kA]
 |cons p a ih=>simp only[kA,Kg,jL];split<;>simp<;>omega
theorem jl(t:Tm)(l:List Pa)(i:Nat)(h:i<l.length):kA t (l.take (i+1))=kA t (l.take i)++(if (l[i].of t).2=0 then [(l[i].of t).1] else []):=by
 rw[Kf h,rf];simp[kA]
def frT(T:Nat→Nat→List Pa)(b:Nat)(xs:List Sp):List Tm:=xs.flatMap fun s=>kA s.t (T s.p.toNat b)
theorem BS(T:Nat→Nat→List Pa)(b:Nat)(xs:List Sp)(i:Nat)(h:i<xs.length):frT T b (xs.take (i+1))=frT T b (xs.take i)++kA xs[i].t (T xs[i].p.toNat b):=by
 unfold frT;rw[Kf h,KE];simp
theorem na(T:Nat→Nat→List Pa)(b K:Nat)(hT:∀a,(T a b).length≤K):∀xs:List Sp,(frT T b xs).length≤xs.length*K
 | []=>by simp[frT]
 |s::xs=>by
  have h1:=na T b K hT xs;have h2:=re s.t (T s.p.toNat b);have h3:=hT s.p.toNat
  unfold frT at h1⊢;rw[List.flatMap_cons,Kg,jL,Nat.add_mul];omega
theorem AJ{h H:Hp}{o:Own}{n0 n:Nat}{k:Sh}{es es':List V}(ha:Acc h n0 o es)(hn:h n=some (.arr k es')):(H.aAb o) n=H n:=by
 rcases ha with⟨_,rfl⟩|⟨_,id,_,rfl,ht⟩
 ·rfl
 show H.del id n=H n;unfold Hp.del;rw[if_neg];rintro rfl;rw[hn] at ht;cases ht
def AW(T:Nat→Nat→List Pa)(n:Nat)(rows:List V):Prop:=rows.length=n∧
 ∀a b,a<n→b<n→∃o cells,rows.getD a (.tup [])= .sl .leaf o cells∧cells.length=n∧∃oc,cells.getD b (.tup [])= .sl (.agg 2) oc ((T a b).map Pa.v)
set_option maxRecDepth 100000 in
set_option maxHeartbeats 4000000 in
theorem xb{h:Hp}{cb m c:Nat}{P:Int}{wv:V}{ot:Own}{rows:List V}{l:List CE}(hc:eV h cb m P wv (.sl .leaf ot rows) l c)(T:Nat→Nat→List Pa)(n:Nat)(hP:P=n)(hT:AW T n rows)(hlen:∀a b,(T a b).length≤1000)
 (oa:Own) (xs:List Sp) (hxl:xs.length≤900) (hxs:∀s∈xs,0≤s.p∧s.p<n) (b:Nat) (hb:b<n):
 aX Tryz.prog 75 [.ptr cb (.agg 4) 0 0, .sl (.agg 3) oa (xs.map Sp.v), .int .i64 b] h (lst (.agg 2) ((ofT (frT T b xs)).map Tm.v)):=by
 refine aP (fun L=>cP (fun L=>bE (Tm.aAM L) _) L) fun h' nx hh=>aD L.aVh fun hd=>?_;simp only[jL,jM,jA,jB,jN,jO,jP,jQ,V.undef];have hcb:=hh _ _ hc.cell rfl;have n1:cb<nx:=hd _ _ hcb;refine aue trivial ?_
 refine aT (fun q:Nat×Own=>aB 53 0 [(0, .ptr cb (.agg 4) 0 0),(2, .int .i64 b),(7,tms q.2 (frT T b (xs.take q.1))),(14, .sl (.agg 3) oa (xs.map Sp.v)),(15, .int .i64 xs.length),(16, .int .i64 q.1)])
  (fun q hp nx1=>q.1≤xs.length∧nx≤nx1∧aK hp nx1∧Kd nx h' hp∧Acc hp nx q.2 ((frT T b (xs.take q.1)).map Tm.v))
  (fun q=>xs.length-q.1) (0, .nil) ⟨KK _,KB _,hd,Hp.same.aBI,Acc.nil⟩ ?_ ?_
 ·simp only[WkL,aB,jH,jI,jJ,tms,frT,KC,List.flatMap_nil,Kx,go_sem,reduceIte,jA,jB,jC,jD,reduceCtorEq,jE,jF]
 rintro⟨i,o⟩ hp nx1 ⟨hi,hnx,hdm,hsm,aAl⟩;generalize hQ:bO _ _ _ _ _=Q0;dsimp only at hi aAl;simp only[aB,tms,go_sem,reduceIte,jA,jB,jC,jD,reduceCtorEq,jE,jF];rcases KI i xs.length with hlt|hge
 ·have hc1:decide ((i:Int)<(xs.length:Int))=true:=decide_eq_true or;have hg:(xs.map Sp.v).getD i (.tup [])= .agg [.int .i64 xs[i].p, .int .i64 xs[i].t.e, .int .i64 xs[i].t.r]:=dQ Sp.v _ xs i hlt;have hw:IntKind.i64.wrap ((i:Int)+1)=((i+1:Nat):Int):=by rw[aY]<;>omega
  obtain⟨hp0,hpn⟩:=hxs xs[i] (List.getElem_mem _);obtain⟨a,ha⟩:∃a:Nat,xs[i].p=a:=⟨xs[i].p.toNat,or⟩;have han:a<n:=or;have hta:xs[i].p.toNat=a:=or;obtain⟨hrl,aHa⟩:=hT;obtain⟨aTe,cells,aBK,hcl,oc,aAJ⟩:=aHa a b han hb;have hgt:((rows.length:Nat):Int)=n:=by rw[hrl]
  have aJd:hp cb=some (.arr (.agg 4) [.agg [.int .i64 P,wv, .sl .leaf ot rows, .map m]]):=by rw[hsm cb n1];exact hcb
  have aAa:cb<nx1:=or;have c3:a<rows.length:=or;have c4:b<cells.length:=or;rw[ha] at hg;refine aue (ee9 hc1 hg hlt aJd aAa aBK aAJ c3 c4) ?_;obtain⟨D,hD⟩:∃D,D=frT T b (xs.take i):=⟨_,rfl⟩;have hDl:D.length≤i*1000:=by
   rw[hD];have:=na T b 1000 (fun a=>hlen a b) (xs.take i);rw[KL,Nat.min_eq_left or] at this;exact this
  obtain⟨ps,hps⟩:∃ps,ps=T a b:=⟨_,rfl⟩;have hpl:ps.length≤1000:=by rw[hps];exact hlen a b
  rw[←hD] at aAl⊢;rw[←hps]
  refine aT (fun q:Nat×Own=>aB 53 0 [(0, .ptr cb (.agg 4) 0 0),(2, .int .i64 b),(7,tms q.2 (D++kA xs[i].t (ps.take q.1))),(9, .ptr nx1 (.agg 3) 0 0),(14, .sl (.agg 3) oa (xs.map Sp.v)),(15, .int .i64 xs.length),(16, .int .i64 i),(30, .sl (.agg 2) oc (ps.map Pa.v)),(31, .int .i64 ps.length),(32, .int .i64 q.1)])
   (fun q hp2 nx2=>q.1≤ps.length∧nx1+1≤nx2∧aK hp2 nx2∧Kd nx h' hp2∧hp2 nx1=some (.arr (.agg 3) [.agg [.int .i64 a, .int .i64 xs[i].t.e, .int .i64 xs[i].t.r]])∧Acc hp2 nx q.2 ((D++kA xs[i].t (ps.take q.1)).map Tm.v))
   (fun q=>ps.length-q.1) (0,o) ⟨KK _,ZN,(by(try dsimp only);repeat (first|exact aK.up hdm or|refine aK.aAh ?_ or _|refine aK.del ?_|refine aK.aAb ?_ _)),(by(try dsimp only);repeat (first|exact hsm|refine aV ?_ or _|refine aW ?_ or)),by simp[Ke],?_⟩ ?_ ?_
  ·simp only[KC,kA,Kw];exact(by(try dsimp only);repeat' (first|exact aAl|exact Acc.new _ Zm or|exact kE.new or|exact aK.aEJ hdm or|exact gJ|exact jU (by assumption)|refine gH or ?_|refine gI ?_|refine Acc.set ?_ ?_ _|refine kE.set ?_ ?_ _))
  ·simp only[WkL,aB,jH,jI,jJ,tms,kA,KC,Kw,go_sem,reduceIte,jA,jB,jC,jD,reduceCtorEq,jE,jF]
  rintro⟨k,o2⟩ hp2 nx2 ⟨hk,aBZ,aBN,aDq,hbx,aBF⟩;generalize hQ2:bO _ _ _ _ _=Q2;dsimp only at hk aBF;simp only[aB,tms,go_sem,reduceIte,jA,jB,jC,jD,reduceCtorEq,jE,jF];have aF4:nx1<nx2:=or;have aAW:(D++kA xs[i].t (ps.take k)).length≤1000000:=by
   have h1:=re xs[i].t (ps.take k);have h2:(ps.take k).length≤1000:=by rw[KL];omega
   rw[Kg];omega
  rcases KI k ps.length with aBp|aTH
  ·have hck:decide ((k:Int)<(ps.length:Int))=true:=decide_eq_true or;have hgk:(ps.map Pa.v).getD k (.tup [])=ps[k].v:=dQ Pa.v _ ps k aBp;have hwk:IntKind.i64.wrap ((k:Int)+1)=((k+1:Nat):Int):=by rw[aY]<;>omega
   have hof:∀h,aX Tryz.prog 83 [ps[k].v, .agg [.int .i64 xs[i].t.e, .int .i64 xs[i].t.r]] h (.tup [(ps[k].of xs[i].t).1.v,eF (ps[k].of xs[i].t).2]):=fun h=>yX ps[k] xs[i].t h;have hpf:=ps[k].aAC
   (repeat' (first|(with_reducible first|refine stp ?_|refine bG ZM ?_|refine iI (fun _=>?_) (fun _=>?_))|((first|(with_reducible refine fO ?_;first|refine eH rfl ?_ ?_|refine aQ (hof _) rfl (aU _) ?_|refine rD (n0:=nx) rfl (by(try dsimp only);repeat' (first|exact aBF|exact Acc.new _ Zm or|exact kE.new or|exact aK.aEJ aBN or|exact gJ|exact jU (by assumption)|refine gH or ?_|refine gI ?_|refine Acc.set ?_ ?_ _|refine kE.set ?_ ?_ _)) rfl Zm (by simp only[jK,hbx,aF4,hck,hgk,aBp,hwk,iE,Tm.aAC,hpf,jK,jG,go_sem,reduceIte,jA,jB,jC,jD,reduceCtorEq,jE,jF];try omega) ?_|refine Zx ?_)|(with_reducible refine fP ?_;first|refine bY rfl ?_ ?_|refine ZX ?_)|refine Zy ?_)<;>try simp only[hbx,aF4,hck,hgk,aBp,hwk,iE,Tm.aAC,hpf,jK,jG,go_sem,reduceIte,jA,jB,jC,jD,reduceCtorEq,jE,jF])|refine ZY ?_|omega))
   ·rename_i hx;have hn:kA xs[i].t (ps.take (k+1))=kA xs[i].t (ps.take k)++[(ps[k].of xs[i].t).1]:=by rw[jl _ _ _ aBp,if_pos (of_decide_eq_true hx)]
    rw[←hQ2];refine aF (k+1, .tok (nx2+5)) Zw ⟨aBp,ZN,(by(try dsimp only);repeat (first|exact aK.up aBN or|refine aK.aAh ?_ or _|refine aK.del ?_|refine aK.aAb ?_ _)),(by(try dsimp only);repeat (first|exact aDq|refine aV ?_ or _|refine aW ?_ or|refine eY ?_ (fun id e=>by have:=(aBF).ge id e;omega))),?_,?_⟩ ?_
    ·simp only[Kb];rw[if_neg or,AJ aBF hbx];simp only[Kb];repeat rw[if_neg or]
     exact hbx
    ·dsimp only;rw[hn,←KJ,Km];exact Acc.new _ Zm or
    simp only[WkL,aB,jH,jI,jJ,tms,hn,Km,KD,Kx,KJ,go_sem,reduceIte,jA,jB,jC,jD,reduceCtorEq,jE,jF]
   rename_i hx;have hn:kA xs[i].t (ps.take (k+1))=kA xs[i].t (ps.take k):=by rw[jl _ _ _ aBp,if_neg (of_decide_eq_false hx),Kw]
   rw[←hQ2];refine aF (k+1,o2) Zw ⟨aBp,ZN,(by(try dsimp only);repeat (first|exact aK.up aBN or|refine aK.aAh ?_ or _|refine aK.del ?_|refine aK.aAb ?_ _)),(by(try dsimp only);repeat (first|exact aDq|refine aV ?_ or _|refine aW ?_ or|refine eY ?_ (fun id e=>by have:=(aBF).ge id e;omega))),?_,?_⟩ ?_
   ·simp only[Kb];repeat rw[if_neg or]
    exact hbx
   ·dsimp only;rw[hn];exact(by(try dsimp only);repeat' (first|exact aBF|exact Acc.new _ Zm or|exact kE.new or|exact aK.aEJ aBN or|exact gJ|exact jU (by assumption)|refine gH or ?_|refine gI ?_|refine Acc.set ?_ ?_ _|refine kE.set ?_ ?_ _))
   simp only[WkL,aB,jH,jI,jJ,tms,hn,go_sem,reduceIte,jA,jB,jC,jD,reduceCtorEq,jE,jF]
  have hck:decide ((k:Int)<(ps.length:Int))=false:=decide_eq_false or;have hil:ps.take k=ps:=Kt or;rw[hil] at aBF⊢;have aC8:frT T b (xs.take (i+1))=D++kA xs[i].t ps:=by rw[BS T b xs i hlt,hta,←hD,←hps]
  refine aue (ee2 hck hw) ?_;rw[←hQ2];clear hQ2 Q2;refine aue hw ?_;rw[←hQ];refine aF (i+1,o2) Zw ⟨hlt,ZN,(by(try dsimp only);repeat (first|exact aK.up aBN or|refine aK.aAh ?_ or _|refine aK.del ?_|refine aK.aAb ?_ _)),aDq,by dsimp only;rw[aC8];exact aBF⟩ ?_;simp only[WkL,aB,jH,jI,jJ,tms,aC8,go_sem,reduceIte,jA,jB,jC,jD,reduceCtorEq,jE,jF]
 have hc1:decide ((i:Int)<(xs.length:Int))=false:=decide_eq_false or;have hil:xs.take i=xs:=Kt or;have aAW:(frT T b xs).length≤1000000:=by
  have:=na T b 1000 (fun a=>hlen a b) xs;omega
 rw[hil] at aAl⊢;refine aue hc1 ?_;rw[←hQ]
 (repeat' (first|(with_reducible first|refine stp ?_|refine bG ZM ?_|refine iI (fun _=>?_) (fun _=>?_))|((first|(with_reducible refine fO ?_;first|refine eH rfl ?_ ?_|refine aQ (ny _ _ aAW _) rfl (aU _) ?_|refine Zx ?_)|(with_reducible refine fP ?_;first|refine bY rfl ?_ ?_|refine ZX ?_)|refine Zy ?_)<;>try simp only[ go_sem,reduceIte,jA,jB,jC,jD,reduceCtorEq,jE,jF])|refine ZY ?_|omega))
 refine aG h' (hsm.le hd (Kc _)) ⟨?_,rfl⟩;simp only[go_sem,reduceIte,jA,jB,jC,jD,reduceCtorEq,jE,jF]
end Go.Proofs.YtecepaehmojpgaaGreat
namespace Go.Proofs.YtecepaehmojpgaaGreat
open Go.RowKit
attribute [local irreducible] Ko
theorem Bu{T:Nat→Nat→List Pa}{b:Nat}{xs ys:List Sp}(h:xs.Perm ys):ofT (frT T b xs)=ofT (frT T b ys):=by
 refine Aa fun x _=>?_;simp only[frT,List.mem_flatMap];exact⟨fun⟨s,h1,h2⟩=>⟨s,h.mem_iff.1 h1,h2⟩,fun⟨s,h1,h2⟩=>⟨s,h.mem_iff.2 h1,h2⟩⟩
theorem m7:aJ Tryz.prog 64=some (LB.Clone (.agg 4) 32):=Zz
theorem pi(n:Nat)(l:List We):AW (dB l) n (iR n l n):=by
 refine⟨by simp[iR],fun a b ha hb=>?_⟩;have h1:(iR n l n).getD a (.tup [])=lL n l a:=by
  unfold iR;rw[dQ _ _ _ a (by simpa using ha)];simp
 obtain⟨oc,hoc⟩:=mQ (.agg 2) ((dB l a b).map Pa.v);refine⟨.free,_,h1,by simp[iY],oc,?_⟩;rw[dQ _ _ _ b (by simpa [iY] using hb)];simp[iY,hoc]
theorem sm(L:Nat→Prop)(n:Nat)(l:List We)(a:Nat):(lL n l a).names L:=by
 unfold lL;simp only[V.names,true_and,and_true];refine⟨fun n e=>(by cases e),?_⟩;exact bE (f:=fun m:List Pa=>lst (.agg 2) (m.map Pa.v)) (fun m=>cP (fun L=>bE (Pa.aAM L) m) L) _
theorem AU{P:Program}{f:FuncId}{args:List V}{h:Hp}{nx:Nat}{R:V→Hp→Nat→Prop}(hen:gR P f=true)(c:aK h nx→bD P f args h nx R):bD P f args h nx R:=
 ⟨hen,fun K aAK hl aAS hv=>(c (fun m b hm=>hl m (aAS.lt m b hm))).2 K aAK hl aAS hv⟩
theorem uf(o:Own){P:Int}{ws:List Wy}{n:Nat}{l:List We}(R:nB P ws n l)(hl:ws.length≤1000)(h:Hp):aX Tryz.prog 38 [mps o P ws] h (lst .leaf (iR n l n)):=by
 refine dI (fun L=>cP (fun L=>bE (fun a=>sm L n l a) _) L) fun h' nx hh=>AU (ue o R hl h' nx).1 fun hd=>((ue o R hl h' nx).mono ?_);rintro v h'' nx' hnx ⟨o2,rfl,aAl,hsm⟩;exact⟨by rw[aAl.loose];rfl,hsm.le hd (Kc _)⟩
theorem An(o:Own)(ws:List Wy)(hn:o= .nil→ws=[]):(wys o ws).loose=lst (.agg 4) (ws.map Wy.v)∨∃o2,(wys o ws).loose=wys o2 ws:=by
 right;cases o with
 |nil=>exact⟨.nil,rfl⟩
 |full=>exact⟨.free,rfl⟩
 |free=>exact⟨.free,rfl⟩
 |tok n=>exact⟨.free,rfl⟩
set_option maxRecDepth 100000 in
theorem Bw(o:Own){P:Int}{ws:List Wy}{n:Nat}{l:List We}(R:nB P ws n l)(hl:ws.length≤1000)(hn:o= .nil→ws=[])(h':Hp)(nx:Nat):
 bD Tryz.prog 35 [mps o P ws] h' nx fun v h'' _=>∃cb m o2 ot,v= .tup [.ptr cb (.agg 4) 0 0, .nilIface]∧nx≤cb∧nx≤m∧cb≠m∧h''=(h'.set m (.mp [] 0)).set cb (.arr (.agg 4) [lM P (wys o2 ws) (.sl .leaf ot (iR n l n)) m]):=by
 have hr:eK P ws=true:=(jX P ws).2 ⟨n,l,R⟩;refine aD L.aTV fun hd=>?_;have hmf:(mps o P ws).fits (.agg 2)=true:=by simp[mps,V.fits,V.aAD,wys]
 simp only[Kh,Kk,Ku,Kv,Ki,Kj,Kp,Kq,V.undef];obtain⟨o2,ho2⟩:∃o2,(wys o ws).loose=wys o2 ws:=by
  rcases An o ws hn with h|h
  ·obtain⟨ox,hx⟩:=mQ (.agg 4) (ws.map Wy.v);exact⟨ox,h.trans hx⟩
  exact h
 have hcl:∀h,aX Tryz.prog 64 [wys o ws] h (wys o2 ws):=fun h=>by
  have:=fp m7 or o (ws.map Wy.v) (by simp;omega) (fun e=>by rw[hn e];rfl) (fun L=>bE (Wy.aAM L) _) h;rw[show(V.sl (.agg 4) o (ws.map Wy.v)).loose=wys o2 ws from ho2] at this;exact this
 obtain⟨ot,hot⟩:=mQ .leaf (iR n l n);have aAu:∀h,aX Tryz.prog 38 [mps o2 P ws] h (.sl .leaf ot (iR n l n)):=fun h=>by
  have:=uf o2 R hl h;rw[hot] at this;exact this
 have hlw:(wys o2 ws).aAD=true:=rfl;have aT4:∀o,mps o P ws= .agg [.int .i64 P,wys o ws]:=fun _=>rfl;simp only[aT4] at aAu hmf⊢;have C1:=fun h=>dS o P ws hl h;have D1:=fun h=>hcl h;have D2:=fun h=>aAu h;refine aue (ee3 hmf hr hlw) ?_;refine fS ((h'.set (nx+12) (.mp [] 0)).set (nx+14) (.arr (.agg 4) [lM P (wys o2 ws) (.sl .leaf ot (iR n l n)) (nx+12)])) ?_ ⟨nx+14,nx+12,o2,ot,rfl,or,or,or,rfl⟩;intro q b hb;simp only[Kb] at hb⊢;split at hb
 ·rename_i e;rw[if_pos e];exact hb
 rename_i e;rw[if_neg e];split at hb
 ·rename_i e2;rw[if_pos e2];exact hb
 rename_i e2;have:=hd q b hb;rw[if_neg e2];repeat rw[if_neg or]
 exact hb
theorem CF(o:Own){P:Int}{ws:List Wy}(hr:eK P ws=false)(hl:ws.length≤1000)(h:Hp):
 aX Tryz.prog 35 [mps o P ws] h (.tup [.aAI,eF 2]):=by
 have hmf:(mps o P ws).fits (.agg 2)=true:=by simp[mps,V.fits,V.aAD,wys]
 refine aP (fun L=>by simp[V.names,bP,eF]) fun h' nx hh=>aD L.aTV fun hd=>?_;simp only[Kh,Kk,Ku,Kv,Ki,Kj,Kp,Kq,V.undef];have C1:=fun h=>dS o P ws hl h;refine aue (ee2 hmf hr) ?_;exact fS h' (by repeat (first|exact Kc _|refine aH hd ?_ or _|refine aL hd ?_ or)) ⟨rfl,rfl⟩
end Go.Proofs.YtecepaehmojpgaaGreat
namespace Go.Proofs.YtecepaehmojpgaaGreat
open Go.RowKit Go.Sort
def jZ:List We:=[⟨0,1,⟨false,0⟩⟩]
def qX:List Wy:=[⟨0,1,⟨false,0⟩⟩]
theorem ji:bZ qX=qX:=by rw[mY];decide
theorem yi:cM 2 qX=((2,qX),0):=by
 have h1:¬((2:Int)<0∨(200:Int)<2∨∃w∈qX,w.fit 2=false):=ZM;have h2:¬(1048576:Int)<eW qX:=ZM;have h3:¬(ip (qX.map Wy.we)∨rQ (qX.map Wy.we)):=by
  rintro(⟨y,hy⟩|⟨w,hw,hn,_⟩)
  ·have e1:∀a b,(a,b)∈zE (qX.map Wy.we)→a=0∧b=1:=by
    intro a b h;have h:(a,b)∈ [((0:Nat),(1:Nat))]:=h;simpa using h
   cases hy with
   |one h=>have:=e1 _ _ h;omega
   |cons h k=>
    have h1:=e1 _ _ h;have:=k.closed (S:=fun x=>x=1) (fun a b ha hb=>(e1 _ _ hb).2) h1.2;omega
  simp[qX,Wy.we] at hw;rcases hw with rfl;cases hn
 unfold cM;rw[if_neg h1,ji,if_neg h2,if_neg h3]
theorem xW:nB 2 qX 2 jZ:=by
 have h:(cM 2 qX).2=0:=by rw[yi]
 obtain⟨n,l,R⟩:=rb h;rw[ji] at R;have hn:n=2:=by have:=R.pl;omega
 have hl:l=jZ:=by
  have h2:=R.eq;have hlen:l.length=1:=by have:=congrArg List.length h2;simpa [qX] using this.symm
  obtain⟨b,rfl⟩:=List.length_eq_one_iff.1 hlen;obtain⟨f,t,p⟩:=b;simp only[qX,KD,Kx,We.wy,List.cons.injEq,Wy.mk.injEq,and_true] at h2;obtain⟨q1,q2,q3⟩:=h2;have e1:f=0:=or;have e2:t=1:=or;subst e1 e2;rw[←q3];rfl
 subst hn hl;exact R
theorem jh:dB jZ 0 1=[Pa.aAO]:=
 oJ ⟨by simp[Can],(fun p hp=>by simp at hp;subst hp;exact⟨jZ,⟨by simp[jZ],rfl,rfl⟩,rfl⟩),fun p ⟨l,h1,h2⟩=>⟨Pa.aAO,Zm,u0 l (fun w hw=>by
  have:=oy h1 w hw;simp[jZ] at this;rcases this with rfl;rfl) h2⟩⟩
end Go.Proofs.YtecepaehmojpgaaGreat
namespace Go.Proofs.YtecepaehmojpgaaGreat
open Go.RowKit
attribute [local irreducible] Ko
theorem df(l:List We)(a k:Nat):(dB l a k).length≤2:=by
 unfold dB;split
 ·rename_i h;exact qC (Classical.choose_spec h).can
 simp
end Go.Proofs.YtecepaehmojpgaaGreat
namespace Go.Proofs.YtecepaehmojpgaaGreat
def fH(t:Tm)(l:List Pa):List Tm:=l.flatMap fun p=>if (p.of t).2=0 then [(p.of t).1] else []
theorem tr(t:Tm)(l:List Pa)(k:Nat)(h:k<l.length):fH t (l.take (k+1))=fH t (l.take k)++(if (l[k].of t).2=0 then [(l[k].of t).1] else []):=by
 unfold fH;rw[Kf h,KE];simp
theorem zP(t:Tm)(p:Pa)(l:List Pa):fH t (p::l)=(if (p.of t).2=0 then [(p.of t).1] else [])++fH t l:=by simp[fH]
theorem fh(t:Tm)(l:List Pa):(fH t l).length≤l.length:=by
 induction l with
 |nil=>simp[fH]
 |cons p l ih=>
  rw[zP,Kg,Kh];split
  ·rw[List.length_singleton];omega
  rw[Kk];omega
end Go.Proofs.YtecepaehmojpgaaGreat
