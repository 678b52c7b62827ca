/-
Texts of this proof,one behind the other. No conditions.
-/
import Derived.Test.YtlhedpgobaellaaGreatDoorKy
import Derived.Test.YtlhedpgobaellaaGreatDoorKev
import Derived.Test.YtlhedpgobaellaaGreatDoorKz
open List renaming mem_singleton→Ka,mem_cons→Kc,drop_eq_getElem_cons→Kd,drop_of_length_le→Ke
open Nat renaming zero_le→Kb,lt_or_ge→Kf
open Nat renaming reduceAdd→jA,reduceSub→jB,reduceLT→jC,reduceLeDiff→jD,reduceEqDiff→jE
open Int renaming reduceToNat→jF,toNat_natCast→jG,natCast_add→jH,natCast_one→jI,natCast_zero→jJ
open List renaming length_map→jK
set_option linter.all false
set_option maxHeartbeats 8000000
namespace Go.Proofs.YtlhedpgobaellaaGreatDoor
open Go.RowKit Go.Sort
attribute [local irreducible] IntKind.wrap
def o7(x:Li):Int→List Fc→Int
 |n,[]=>n
 |n,f::r=>o7 x (if x.k=1∧f.r=x.a.r then IntKind.i64.wrap (n*yW true 1 f.l.length) else n) r
def Ci(l:List Fc):Int→List Li→Bool
 |n,[]=>true
 |n,x::r=>if 4000<o7 x n l then false else Ci l (o7 x n l) r
def GK(r:Ru)(l:List Fc):Bool:=Ci l 1 r.b&&decide (0≤Av r)
theorem Cf(x:Li)(n:Int)(f:Fc)(r:List Fc):o7 x n (f::r)=o7 x (if x.k=1∧f.r=x.a.r then IntKind.i64.wrap (n*yW true 1 f.l.length) else n) r:=rfl
theorem Ch(l:List Fc)(n:Int)(x:Li)(r:List Li):Ci l n (x::r)=if 4000<o7 x n l then false else Ci l (o7 x n l) r:=rfl
theorem Fc.aAD(f:Fc):f.v.fits (.agg 3)=true:=rfl
theorem El(r:Ru)(hr:r.s47)(hb:r.b.length≤140737488355328)(o:Own)(l:List Fc)(hl:l.length≤140737488355328)(h:Hp):aL Tryz.prog 9 [r.v, .sl (.agg 3) o (l.map Fc.v)] h (.bool (GK r l)):=by
 refine aJ (fun L=>trivial) fun h' nx hh=>aB L.g3z fun hd=>?_;have C1:=ym r hr;have hf:r.v.fits (.agg 6)=true:=by cases r;rfl
 unfold GK;obtain⟨BV,hBV,hbv⟩:∃BV,r.v= .agg BV∧BV.getD 4 (.tup [])= .sl (.agg 17) r.o (r.b.map Li.v):=by cases r;exact⟨_,rfl,rfl⟩
 rw[hBV] at C1 hf⊢;obtain⟨B,hB⟩:∃B,r.b=B:=⟨_,rfl⟩;obtain⟨ro,hro⟩:∃ro,r.o=ro:=⟨_,rfl⟩;rw[hB] at hbv hb⊢;rw[hro] at hbv;have hbl:(B.map Li.v).length=B.length:=jK ..;have hml:(l.map Fc.v).length=l.length:=jK ..;generalize Av r=RC at*;obtain⟨RES,aA4⟩:∃R,Ci l 1 B=R:=⟨_,rfl⟩;rw[aA4];refine ZK ?_;refine aue (e3 hf hbv hbl) ?_
 refine aQ (fun q:Nat×Int=>aD 47 0 [(1, .sl (.agg 3) o (l.map Fc.v)),(2, .ptr nx (.agg 6) 0 0),(5, .int .i64 q.2),(11, .sl (.agg 17) ro (B.map Li.v)),(12, .int .i64 B.length),(13, .int .i64 q.1)])
  (fun q hp nx1=>q.1≤B.length∧nx<nx1∧aV hp nx1∧Hp.same nx h' hp∧hp nx=some (.arr (.agg 6) [.agg BV])∧Ci l q.2 (B.drop q.1)=RES)
  (fun q=>B.length-q.1) (0,1) ⟨Kb _,Zw,by exact dmo hd,by exact kep Hp.same.aAz,by simp only[go_sem,reduceIte,jA,jB,jC,jD,reduceCtorEq,jE,jF],aA4⟩ (by simp only[WkL,aD,jH,jI,jJ,hml,hbl,go_sem,reduceIte,jA,jB,jC,jD,reduceCtorEq,jE,jF]) ?_
 rintro⟨i,n⟩ hp nx1 ⟨hi,hnx,hdm,hsm,hb0,hmt⟩;generalize hQ:bB _ _ _ _ _=Q0;dsimp only at hi hmt;refine Zk ?_;have hle:=hsm.le hd (Hp.le_refl _);rcases Kf i B.length with hlt|hge
 ·have hc:decide ((i:Int)<(B.length:Int))=true:=dct;have hg:=aN Li.v B i hlt;have hw:IntKind.i64.wrap ((i:Int)+1)=((i+1:Nat):Int):=wrp;rw[Kd hlt,Ch] at hmt;generalize B[i]=x at*;have hfx:=Li.aAD x;obtain⟨T,hT,htk,htr⟩:∃T,x.v= .agg T∧T.getD 0 (.tup [])= .int .i64 x.k∧T.getD 1 (.tup [])= .str x.a.r:=⟨_,rfl,rfl,rfl⟩;rw[hT] at hg hfx;obtain⟨FN,hFN⟩:∃F,o7 x n l=F:=⟨_,rfl⟩;rw[hFN] at hmt;have hTc:T.length=17∧T.all V.aAE=true:=by simpa [V.fits] using hfx
  refine aue (e9 hc hg hlt hbl jG hfx hml hTc.1 hTc.2) ?_
  refine aQ (fun q:Nat×Int=>aD 47 0 [(1, .sl (.agg 3) o (l.map Fc.v)),(2, .ptr nx (.agg 6) 0 0),(5, .int .i64 q.2),(7, .ptr nx1 (.agg 17) 0 0),(11, .sl (.agg 17) ro (B.map Li.v)),(12, .int .i64 B.length),(13, .int .i64 i),(17, .sl (.agg 3) o (l.map Fc.v)),(18, .int .i64 l.length),(19, .int .i64 q.1)])
   (fun q hp nx2=>q.1≤l.length∧nx1<nx2∧aV hp nx2∧Hp.same nx h' hp∧hp nx=some (.arr (.agg 6) [.agg BV])∧hp nx1=some (.arr (.agg 17) [.agg T])∧o7 x q.2 (l.drop q.1)=FN)
   (fun q=>l.length-q.1) (0,n) ⟨Kb _,Zw,by exact dmo hdm,by exact kep hsm,by simp only[hb0,(fls:(nx=nx1)=False),go_sem,reduceIte,jA,jB,jC,jD,reduceCtorEq,jE,jF],by simp only[go_sem,reduceIte,jA,jB,jC,jD,reduceCtorEq,jE,jF],hFN⟩ (by simp only[WkL,aD,jH,jI,jJ,hml,hbl,go_sem,reduceIte,jA,jB,jC,jD,reduceCtorEq,jE,jF]) ?_
  clear hb0 hdm hsm;rintro⟨j,m⟩ hp2 nx2 ⟨hj,aGn,hdm,hsm,hb0,hb1,aDq⟩;generalize hQ2:bB _ _ _ _ _=Q2;dsimp only at hj aDq;refine Zk ?_;have aAS:=hsm.le hd (Hp.le_refl _);rcases Kf j l.length with hjl|hjg
  ·have hcj:decide ((j:Int)<(l.length:Int))=true:=dct;have hgj:=aN Fc.v l j hjl;have hwj:IntKind.i64.wrap ((j:Int)+1)=((j+1:Nat):Int):=wrp;rw[Kd hjl,Cf] at aDq;generalize l[j]=F at*;have hFf:=Fc.aAD F;have hFv:F.v= .agg [.str F.r, .int .i64 F.ar, .sl .leaf F.o (F.l.map TR.v)]:=rfl;have hFl:(F.l.map TR.v).length=F.l.length:=jK ..;rw[hFv] at hgj;by_cases k1:x.k=1
   ·have g1:(x.k==1)=true:=bqt;by_cases k2:F.r=x.a.r
    ·rw[if_pos ⟨k1,k2⟩] at aDq;have gs:(F.r.toList==x.a.r.toList)=true:=by rw[eA];exact decide_eq_true k2
     refine aue (e11 hcj hgj hjl hml jG hb1 aGn htk g1 hwj (e3 hFl htr gs)) ?_;rw[←hQ2];exact aF (j+1,_) Zw ⟨hjl,or,dmo hdm,kep hsm,by simp only[hb0,(fls:(nx=nx2)=False),go_sem,reduceIte,jA,jB,jC,jD,reduceCtorEq,jE,jF],by simp only[hb1,(fls:(nx1=nx2)=False),go_sem,reduceIte,jA,jB,jC,jD,reduceCtorEq,jE,jF],aDq⟩ (by simp only[WkL,aD,jH,jI,jJ,hwj,go_sem,reduceIte,jA,jB,jC,jD,reduceCtorEq,jE,jF])
    rw[if_neg (fun e=>k2 e.2)] at aDq;have gs:(F.r.toList==x.a.r.toList)=false:=by rw[eA];exact decide_eq_false k2
    refine aue (e11 hcj hgj hjl hml jG hb1 aGn htk g1 hwj (e3 hFl htr gs)) ?_;rw[←hQ2];exact aF (j+1,m) Zw ⟨hjl,or,dmo hdm,kep hsm,by simp only[hb0,(fls:(nx=nx2)=False),go_sem,reduceIte,jA,jB,jC,jD,reduceCtorEq,jE,jF],by simp only[hb1,(fls:(nx1=nx2)=False),go_sem,reduceIte,jA,jB,jC,jD,reduceCtorEq,jE,jF],aDq⟩ (by simp only[WkL,aD,jH,jI,jJ,hwj,go_sem,reduceIte,jA,jB,jC,jD,reduceCtorEq,jE,jF])
   have g1:(x.k==1)=false:=bqf;rw[if_neg (fun e=>k1 e.1)] at aDq;refine aue (e11 hcj hgj hjl hml jG hb1 aGn htk g1 hwj hFl) ?_;rw[←hQ2];exact aF (j+1,m) Zw ⟨hjl,or,dmo hdm,kep hsm,by simp only[hb0,(fls:(nx=nx2)=False),go_sem,reduceIte,jA,jB,jC,jD,reduceCtorEq,jE,jF],by simp only[hb1,(fls:(nx1=nx2)=False),go_sem,reduceIte,jA,jB,jC,jD,reduceCtorEq,jE,jF],aDq⟩ (by simp only[WkL,aD,jH,jI,jJ,hwj,go_sem,reduceIte,jA,jB,jC,jD,reduceCtorEq,jE,jF])
  have hcj:decide ((j:Int)<(l.length:Int))=false:=dcf;rw[Ke or] at aDq;have hmF:m=FN:=aDq;subst hmF;by_cases g4:4000<m
  ·have g5:decide (m>4000)=true:=decide_eq_true g4;rw[if_pos g4] at hmt;refine aue (e2 hcj g5) ?_;rw[←hQ2];refine aue g5 ?_;rw[←hQ];refine au ?_;refine aC h' (lef hd aAS) ⟨?_,rfl⟩;rw[←hmt];rfl
  have g5:decide (m>4000)=false:=decide_eq_false g4;rw[if_neg g4] at hmt;refine aue (e2 hcj g5) ?_;rw[←hQ2];refine aue (e2 g5 hw) ?_;rw[←hQ];exact aF (i+1,m) Zw ⟨hlt,or,hdm,hsm,hb0,hmt⟩ (by simp only[WkL,aD,jH,jI,jJ,hw,go_sem,reduceIte,jA,jB,jC,jD,reduceCtorEq,jE,jF])
 have hc:decide ((i:Int)<(B.length:Int))=false:=dcf;rw[Ke or] at hmt;have hRt:RES=true:=hmt.symm;have hg2:decide (RC≥0)=decide (0≤RC):=rfl;refine aue hc ?_;rw[←hQ];refine aue (e3 hb0 hnx hf) ?_;refine aC h' (lef hd hle) ⟨?_,rfl⟩;rw[hRt];rfl
set_option maxRecDepth 100000
def iR(a b:Int):List Vl:=[⟨1,a,⟨#[]⟩⟩,⟨1,b,⟨#[]⟩⟩]
theorem sN(a b:Int)(h:Hp):aL Tryz.prog 37 [.int .i64 a, .int .i64 b] h (vls .free (iR a b)):=by
 refine fO (fun L=>wN _ Zm L) fun h' nx hh=>aB L.aZO fun hd=>?_;refine ZK ?_;refine au ?_;exact aC _ (Hp.le_refl _) ⟨rfl,leo hd⟩
def EW:List Sr:=[⟨⟨#[101]⟩,2,[(.free,iR 1 2),(.free,iR 2 3)]⟩]
theorem GU(o:Own):yU 0 0 [] [⟨⟨#[101]⟩,2,o,[(.free,iR 1 2),(.free,iR 2 3)]⟩]=some EW:=Zz
theorem EV:cL (cO EW) CI=([iR 1 3],0):=Zz
theorem GX:∀s∈EW,eB s.ar s.zs:=fun s hs=>by
 have:s=⟨⟨#[101]⟩,2,(dJ 2 [(.free,iR 1 2),(.free,iR 2 3)]).1⟩:=by
  rw[Ka.1 hs];have e:dJ 2 [(.free,iR 1 2),(.free,iR 2 3)]=([(.free,iR 1 2),(.free,iR 2 3)],0):=Zz;rw[e]
 rw[this];exact nw fun p hp e=>by
  rcases Kc.1 hp with rfl|hp
  ·cases e
  rcases Kc.1 hp with rfl|hp
  ·cases e
  cases hp
theorem jc:aR Tryz.prog 7 [] Hp.none 0 fun v _ _=>v= .bool true:=by
 refine aB L.g1z fun hd=>?_;refine ZK ?_;obtain⟨X,hX,aX,CP⟩:=EU;have hrf:CI.v.fits (.agg 6)=true:=rfl;generalize hDC:aS.ops L.aKX=DC;refine aus ?_;rw[←hDC];refine bG (bR ?_);refine aU (CP.dom.mono ?_);rintro v h2 nx2 aAS ⟨⟨rfl,rfl,rfl⟩,hd2,_⟩;unfold bQ;refine Zn ?_;generalize hRV:CI.v=RV at*;generalize hDC:aS.ops L.aKW=DC;refine aue hrf ?_;rw[←hDC];refine bG (bR ?_);have T12:=sN 1 2;have T23:=sN 2 3;have T13:=sN 1 3;have f12:(vls .free (iR 1 2)).fits .leaf=true:=rfl;have f23:(vls .free (iR 2 3)).fits .leaf=true:=rfl;have hve:veq (.iface true) .nilIface .nilIface=some true:=rfl;generalize h12:vls .free (iR 1 2)=V12 at*;generalize h23:vls .free (iR 2 3)=V23 at*;generalize h13:vls .free (iR 1 3)=V13 at*;refine aue hrf ?_;refine cT rfl (T12 _) rfl (aH _) ?_;refine aue hrf ?_;refine cT rfl (T23 _) rfl (aH _) ?_;have l12:V12.aAE=true:=by rw[←h12];rfl
 have l23:V23.aAE=true:=by rw[←h23];rfl
 have l13:V13.aAE=true:=by rw[←h13];rfl
 have f13:V13.fits .leaf=true:=by rw[←h13];rfl
 refine aue (e4 f12 f23 l12 l23) ?_;have CS:=fun h nx=>tU (.tok (nx2+3)) [⟨⟨#[101]⟩,2, .tok (nx2+2),[(.free,iR 1 2),(.free,iR 2 3)]⟩] Zm (fun f hf=>by
  rw[Ka.1 hf];refine⟨Zm,fun p hp=>?_⟩;rcases Kc.1 hp with rfl|hp
  ·exact⟨fun e=>by(cases e),by intro v hv;rcases Kc.1 hv with rfl|hv;exact Kb _;rw[Ka.1 hv];exact Kb _⟩
  rw[Ka.1 hp];exact⟨fun e=>by(cases e),by intro v hv;rcases Kc.1 hv with rfl|hv;exact Kb _;rw[Ka.1 hv];exact Kb _⟩) h nx
 have hFv:([⟨⟨#[101]⟩,2, .tok (nx2+2),[(.free,iR 1 2),(.free,iR 2 3)]⟩]:List Fc).map Fc.v=[.agg [.str ⟨#[101]⟩, .int .i64 2, .sl .leaf (.tok (nx2+2)) [V12,V23]]]:=by rw[←h12,←h23];rfl
 rw[hFv,GU] at CS;refine aU ((CS _ _).dom.mono ?_);rintro v h3 nx3 aCb ⟨⟨⟨N,es,c,oS,rfl,hN0,hN,hst,_⟩,hk3⟩,hd3,_⟩;unfold bQ;refine Zn ?_;have hb3:h3 nx2=some (.arr (.agg 6) [RV]):=by
  rw[hk3 nx2 Zw];simp only[(fls:(nx2=nx2+2)=False),(fls:(nx2=nx2+3)=False),go_sem,reduceIte,jA,jB,jC,jD,reduceCtorEq,jE,jF]
 have n3:nx2<nx3:=hd3 _ _ hb3;have hN3:N<nx3:=hd3 _ _ hN;generalize EW.map nmD=NM;generalize hDC:aS.ops L.aKV=DC;refine aue hve ?_;rw[←hDC];refine bG (bR ?_);have CH:=oX CI EW GX;rw[EV,hRV] at CH;have aD0:V.tup [lst .leaf (([iR 1 3],(0:Int)).1.map fun t=>vls .free t),dO ([iR 1 3],(0:Int)).2]= .tup [.sl .leaf .free [V13], .nilIface]:=by rw[←h13];rfl
 rw[aD0] at CH;refine aue (e3 hb3 n3 hrf) ?_;refine aU ((CH _ _ N es c hN hst ZM).dom.mono ?_);rintro v h4 nx4 aCJ ⟨⟨rfl,_⟩,hd4,_⟩;unfold bQ;refine Zn ?_;refine aue hve ?_;refine cT rfl (T13 _) rfl (aH _) ?_;have TN:=fun o h=>bz .free o [(.free,iR 1 3)] [(.free,iR 1 3)] Zm (by simp[iR]) h;have hdt:decide (aP [((.free,iR 1 3):TR)]=aP [((.free,iR 1 3):TR)])=true:=decide_eq_true rfl;have aW3:∀o,tps o [(.free,iR 1 3)]= .sl .leaf o [V13]:=fun o=>by rw[←h13];rfl
 simp only[aW3,hdt] at TN;refine aue (e2 f13 l13) ?_;refine aI (TN _ _) rfl (aH _) ?_;refine au ?_;exact aC _ (Hp.le_refl _) rfl
theorem pt(h:Hp):aL Tryz.prog 7 [] h (.bool true):=(Bz jc).mono (bA h)
end Go.Proofs.YtlhedpgobaellaaGreatDoor
