/-
Texts of this proof,one behind the other. No conditions.
-/
import Derived.Test.YtlhedpgobaellaaGreatDoorKy
open List renaming drop_eq_getElem_cons→Ka,drop_of_length_le→Kb
open Nat renaming lt_or_ge→Kc,zero_le→Kd
open Nat renaming reduceAdd→jA,reduceSub→jB,reduceLT→jC,reduceLeDiff→jD,reduceEqDiff→jE
open Int renaming reduceToNat→jF,toNat_natCast→jG,natCast_add→jH,natCast_one→jI,natCast_zero→jJ
open List renaming length_map→jK
set_option linter.all false
set_option maxHeartbeats 8000000
namespace Go.Proofs.YtlhedpgobaellaaGreatDoor
open Go.RowKit Go.Sort
attribute [local irreducible] IntKind.wrap
def qq(x:Li):Int→List Fc→Int
 |n,[]=>n
 |n,f::r=>qq x (if x.k=1∧f.r=x.a.r then IntKind.i64.wrap (n*am true 1 f.l.length) else n) r
def Dm(l:List Fc):Int→List Li→Bool
 |n,[]=>true
 |n,x::r=>if 4000<qq x n l then false else Dm l (qq x n l) r
def Hz(r:Ru)(l:List Fc):Bool:=Dm l 1 r.b&&decide (0≤A1 r)
theorem Dk(x:Li)(n:Int)(f:Fc)(r:List Fc):qq x n (f::r)=qq x (if x.k=1∧f.r=x.a.r then IntKind.i64.wrap (n*am true 1 f.l.length) else n) r:=rfl
theorem Dl(l:List Fc)(n:Int)(x:Li)(r:List Li):Dm l n (x::r)=if 4000<qq x n l then false else Dm l (qq x n l) r:=rfl
theorem Fc.aAC(f:Fc):f.v.fits (.agg 3)=true:=rfl
theorem Fh(r:Ru)(hr:r.s47)(hb:r.b.length≤140737488355328)(o:Own)(l:List Fc)(hl:l.length≤140737488355328)(h:Hp):aM Tryz.prog 9 [r.v, .sl (.agg 3) o (l.map Fc.v)] h (.bool (Hz r l)):=by
 refine aJ (fun L=>trivial) fun h' nx hh=>aB L.g2z fun hd=>?_;have C1:=zq r hr;have hf:r.v.fits (.agg 6)=true:=by cases r;rfl
 unfold Hz;obtain⟨BV,hBV,hbv⟩:∃BV,r.v= .agg BV∧BV.getD 4 (.tup [])= .sl (.agg 17) r.o (r.b.map Li.v):=by cases r;exact⟨_,rfl,rfl⟩
 rw[hBV] at C1 hf⊢;obtain⟨B,hB⟩:∃B,r.b=B:=⟨_,rfl⟩;obtain⟨ro,hro⟩:∃ro,r.o=ro:=⟨_,rfl⟩;rw[hB] at hbv hb⊢;rw[hro] at hbv;have hbl:(B.map Li.v).length=B.length:=jK ..;have hml:(l.map Fc.v).length=l.length:=jK ..;generalize A1 r=RC at*;obtain⟨RES,aAi⟩:∃R,Dm l 1 B=R:=⟨_,rfl⟩;rw[aAi];refine ZK ?_;refine aue (e3 hf hbv hbl) ?_
 refine aP (fun q:Nat×Int=>aD 47 0 [(1, .sl (.agg 3) o (l.map Fc.v)),(2, .ptr nx (.agg 6) 0 0),(5, .int .i64 q.2),(11, .sl (.agg 17) ro (B.map Li.v)),(12, .int .i64 B.length),(13, .int .i64 q.1)])
  (fun q hp nx1=>q.1≤B.length∧nx<nx1∧aS hp nx1∧Hp.same nx h' hp∧hp nx=some (.arr (.agg 6) [.agg BV])∧Dm l q.2 (B.drop q.1)=RES)
  (fun q=>B.length-q.1) (0,1) ⟨Kd _,Zw,by exact dmo hd,by exact kep Hp.same.aAr,by simp only[go_sem,reduceIte,jA,jB,jC,jD,reduceCtorEq,jE,jF],aAi⟩ (by simp only[WkL,aD,jH,jI,jJ,hml,hbl,go_sem,reduceIte,jA,jB,jC,jD,reduceCtorEq,jE,jF]) ?_
 rintro⟨i,n⟩ hp nx1 ⟨hi,hnx,hdm,hsm,hb0,hmt⟩;generalize hQ:aZ _ _ _ _ _=Q0;dsimp only at hi hmt;refine Zk ?_;have hle:=hsm.le hd (Hp.le_refl _);rcases Kc i B.length with hlt|hge
 ·have hc:decide ((i:Int)<(B.length:Int))=true:=dct;have hg:=aL Li.v B i hlt;have hw:IntKind.i64.wrap ((i:Int)+1)=((i+1:Nat):Int):=wrp;rw[Ka hlt,Dl] at hmt;generalize B[i]=x at*;have hfx:=Li.aAC x;obtain⟨T,hT,htk,htr⟩:∃T,x.v= .agg T∧T.getD 0 (.tup [])= .int .i64 x.k∧T.getD 1 (.tup [])= .str x.a.r:=⟨_,rfl,rfl,rfl⟩;rw[hT] at hg hfx;obtain⟨FN,hFN⟩:∃F,qq x n l=F:=⟨_,rfl⟩;rw[hFN] at hmt;have hTc:T.length=17∧T.all V.aAE=true:=by simpa [V.fits] using hfx
  refine aue (e9 hc hg hlt hbl jG hfx hml hTc.1 hTc.2) ?_
  refine aP (fun q:Nat×Int=>aD 47 0 [(1, .sl (.agg 3) o (l.map Fc.v)),(2, .ptr nx (.agg 6) 0 0),(5, .int .i64 q.2),(7, .ptr nx1 (.agg 17) 0 0),(11, .sl (.agg 17) ro (B.map Li.v)),(12, .int .i64 B.length),(13, .int .i64 i),(17, .sl (.agg 3) o (l.map Fc.v)),(18, .int .i64 l.length),(19, .int .i64 q.1)])
   (fun q hp nx2=>q.1≤l.length∧nx1<nx2∧aS hp nx2∧Hp.same nx h' hp∧hp nx=some (.arr (.agg 6) [.agg BV])∧hp nx1=some (.arr (.agg 17) [.agg T])∧qq x q.2 (l.drop q.1)=FN)
   (fun q=>l.length-q.1) (0,n) ⟨Kd _,Zw,by exact dmo hdm,by exact kep hsm,by simp only[hb0,(fls:(nx=nx1)=False),go_sem,reduceIte,jA,jB,jC,jD,reduceCtorEq,jE,jF],by simp only[go_sem,reduceIte,jA,jB,jC,jD,reduceCtorEq,jE,jF],hFN⟩ (by simp only[WkL,aD,jH,jI,jJ,hml,hbl,go_sem,reduceIte,jA,jB,jC,jD,reduceCtorEq,jE,jF]) ?_
  clear hb0 hdm hsm;rintro⟨j,m⟩ hp2 nx2 ⟨hj,aGd,hdm,hsm,hb0,hb1,aDs⟩;generalize hQ2:aZ _ _ _ _ _=Q2;dsimp only at hj aDs;refine Zk ?_;have aAS:=hsm.le hd (Hp.le_refl _);rcases Kc j l.length with hjl|hjg
  ·have hcj:decide ((j:Int)<(l.length:Int))=true:=dct;have hgj:=aL Fc.v l j hjl;have hwj:IntKind.i64.wrap ((j:Int)+1)=((j+1:Nat):Int):=wrp;rw[Ka hjl,Dk] at aDs;generalize l[j]=F at*;have hFf:=Fc.aAC F;have hFv:F.v= .agg [.str F.r, .int .i64 F.ar, .sl .leaf F.o (F.l.map TR.v)]:=rfl;have hFl:(F.l.map TR.v).length=F.l.length:=jK ..;rw[hFv] at hgj;by_cases k1:x.k=1
   ·have g1:(x.k==1)=true:=bqt;by_cases k2:F.r=x.a.r
    ·rw[if_pos ⟨k1,k2⟩] at aDs;have gs:(F.r.toList==x.a.r.toList)=true:=by rw[dV];exact decide_eq_true k2
     refine aue (e11 hcj hgj hjl hml jG hb1 aGd htk g1 hwj (e3 hFl htr gs)) ?_;rw[←hQ2];exact aF (j+1,_) Zw ⟨hjl,or,dmo hdm,kep hsm,by simp only[hb0,(fls:(nx=nx2)=False),go_sem,reduceIte,jA,jB,jC,jD,reduceCtorEq,jE,jF],by simp only[hb1,(fls:(nx1=nx2)=False),go_sem,reduceIte,jA,jB,jC,jD,reduceCtorEq,jE,jF],aDs⟩ (by simp only[WkL,aD,jH,jI,jJ,hwj,go_sem,reduceIte,jA,jB,jC,jD,reduceCtorEq,jE,jF])
    rw[if_neg (fun e=>k2 e.2)] at aDs;have gs:(F.r.toList==x.a.r.toList)=false:=by rw[dV];exact decide_eq_false k2
    refine aue (e11 hcj hgj hjl hml jG hb1 aGd htk g1 hwj (e3 hFl htr gs)) ?_;rw[←hQ2];exact aF (j+1,m) Zw ⟨hjl,or,dmo hdm,kep hsm,by simp only[hb0,(fls:(nx=nx2)=False),go_sem,reduceIte,jA,jB,jC,jD,reduceCtorEq,jE,jF],by simp only[hb1,(fls:(nx1=nx2)=False),go_sem,reduceIte,jA,jB,jC,jD,reduceCtorEq,jE,jF],aDs⟩ (by simp only[WkL,aD,jH,jI,jJ,hwj,go_sem,reduceIte,jA,jB,jC,jD,reduceCtorEq,jE,jF])
   have g1:(x.k==1)=false:=bqf;rw[if_neg (fun e=>k1 e.1)] at aDs;refine aue (e11 hcj hgj hjl hml jG hb1 aGd htk g1 hwj hFl) ?_;rw[←hQ2];exact aF (j+1,m) Zw ⟨hjl,or,dmo hdm,kep hsm,by simp only[hb0,(fls:(nx=nx2)=False),go_sem,reduceIte,jA,jB,jC,jD,reduceCtorEq,jE,jF],by simp only[hb1,(fls:(nx1=nx2)=False),go_sem,reduceIte,jA,jB,jC,jD,reduceCtorEq,jE,jF],aDs⟩ (by simp only[WkL,aD,jH,jI,jJ,hwj,go_sem,reduceIte,jA,jB,jC,jD,reduceCtorEq,jE,jF])
  have hcj:decide ((j:Int)<(l.length:Int))=false:=dcf;rw[Kb or] at aDs;have hmF:m=FN:=aDs;subst hmF;by_cases g4:4000<m
  ·have g5:decide (m>4000)=true:=decide_eq_true g4;rw[if_pos g4] at hmt;refine aue (e2 hcj g5) ?_;rw[←hQ2];refine aue g5 ?_;rw[←hQ];refine au ?_;refine aC h' (lef hd aAS) ⟨?_,rfl⟩;rw[←hmt];rfl
  have g5:decide (m>4000)=false:=decide_eq_false g4;rw[if_neg g4] at hmt;refine aue (e2 hcj g5) ?_;rw[←hQ2];refine aue (e2 g5 hw) ?_;rw[←hQ];exact aF (i+1,m) Zw ⟨hlt,or,hdm,hsm,hb0,hmt⟩ (by simp only[WkL,aD,jH,jI,jJ,hw,go_sem,reduceIte,jA,jB,jC,jD,reduceCtorEq,jE,jF])
 have hc:decide ((i:Int)<(B.length:Int))=false:=dcf;rw[Kb or] at hmt;have hRt:RES=true:=hmt.symm;have hg2:decide (RC≥0)=decide (0≤RC):=rfl;refine aue hc ?_;rw[←hQ];refine aue (e3 hb0 hnx hf) ?_;refine aC h' (lef hd hle) ⟨?_,rfl⟩;rw[hRt];rfl
end Go.Proofs.YtlhedpgobaellaaGreatDoor
