/-
Texts of this proof,one behind the other. No conditions.
-/
import Derived.Test.YtlhedpgobaellaaGreatDoorKw
open List renaming getElem_mem→Ka
open Nat renaming lt_or_ge→Kb,zero_le→Kc
open Nat renaming reduceAdd→jA,reduceSub→jB,reduceLT→jC,reduceLeDiff→jD,reduceEqDiff→jE
open Int renaming reduceToNat→jF,toNat_natCast→jG,natCast_add→jH,natCast_one→jI,natCast_zero→jJ
open List renaming length_map→jK
set_option linter.all false
set_option maxHeartbeats 8000000
namespace Go.Proofs.YtlhedpgobaellaaGreatDoor
open Go.RowKit Go.Sort
attribute [local irreducible] IntKind.wrap
set_option maxRecDepth 100000
theorem xy:∀(l:List Fc) (i n:Nat) (S S':List Sr),(∀f∈l,f.ok)→(∀s∈S,fB s.ar s.zs)→ez i n S l=some S'→∀s∈S',fB s.ar s.zs
 | [],i,n,S,S',_,hS,h=>by
  injection h with h;exact h▸hS
 |f::r,i,n,S,S',hl,hS,h=>by
  rw[g8] at h;split at h
  ·cases h
  refine xy r _ _ _ _ (fun g hg=>hl g (List.mem_cons_of_mem _ hg)) (fun s hs=>?_) h;rcases List.mem_append.1 hs with q|q
  ·exact hS s q
  rw[List.mem_singleton.1 q];exact kz fun p hp=>((hl f List.mem_cons_self).2 p hp).1
theorem fg(r:Ru)(hr:r.s47)(hb:r.b.length≤140737488355328)(o:Own)(l:List Fc)(hl:l.length≤140737488355328)(hok:∀f∈l,f.ok)(h:Hp):aL Tryz.prog 3 [r.v, .sl (.agg 3) o (l.map Fc.v)] h (.bool true):=by
 refine aI (fun L=>trivial) fun h' nx hh=>aB L.g0z fun hd=>?_;have hd:aV h' nx:=hd;have C1:=m7;have C2:=CI r hr or o l hl;have hml:(l.map Fc.v).length=l.length:=jK ..;have hf:r.v.fits (.agg 6)=true:=by cases r;rfl
 have CS:=sY o l hl hok;have aU9:=fun S=>xy l 0 0 [] S hok (fun s hs=>by cases hs);have CF:=fun(S:List Sr) hS h nx N es c hN hst=>xI r S hS h nx N es c hN hst hb;have aGx:=fun(S:List Sr) (hS:∀s∈S,fB s.ar s.zs)=>Fp (r:=r) (n8 hS);have aGs:=fun S=>Et (G:=dJ S) (r:=r);have hlen:=fun S=>su (dJ S) r;obtain⟨BV,hBV,hbv⟩:∃BV,r.v= .agg BV∧BV.getD 4 (.tup [])= .sl (.agg 17) r.o (r.b.map Li.v):=by cases r;exact⟨_,rfl,rfl⟩
 have hbl:(r.b.map Li.v).length=r.b.length:=jK ..;have hbR:∀S,(oJ (dJ S) r).2=0→∀x∈r.b,bW x=true:=fun S e x hx=>by
  have hm:ag r=0:=Decidable.byContradiction fun q=>by unfold oJ at e;rw[if_pos q] at e;exact q e
  exact(dG (B4 hm).1).2.2 x hx
 rw[hBV] at C2 hf CF⊢;generalize r.b=B at*;generalize r.o=ro at*;generalize l.map Fc.v=LV at*;refine ZK ?_;refine aue hf ?_;refine aU ((CS _ _).dom.mono ?_);rintro v h2 nx2 aAV ⟨⟨hR,hk2⟩,hd2,_⟩;unfold bT;cases hst:ez 0 0 [] l with
 |none=>
  rw[hst] at hR;have hR:v= .tup [.aAH, .sl (.agg 3) .nil [], .bool false]:=hR;subst hR;refine Zn ?_;refine au ?_;refine aC h' ?_ ⟨rfl,rfl⟩;intro m b e;dsimp only;rw[hk2 m (by have:=hd _ _ e;dsimp only;omega)];simp only[Hp.set];rw[if_neg (by have:=hd _ _ e;omega)];exact e
 |some S=>
  rw[hst] at hR;obtain⟨N,es,c,oS,rfl,hN0,hN,aUr,_⟩:=hR;have hS:=aU9 S hst;have hb2:h2 nx=some (.arr (.agg 6) [.agg BV]):=by rw[hk2 nx Zw];simp only[go_sem,reduceIte,jA,jB,jC,jD,reduceCtorEq,jE,jF]
  have hs2:Hp.same nx h' h2:=fun m hm=>(hk2 m Zw).trans (by simp only[Hp.set];rw[if_neg or]);have aOv:=hs2.le hd (Hp.le_refl _);have n2:nx<nx2:=hd2 _ _ hb2;have hN2:N<nx2:=hd2 _ _ hN;refine Zn ?_;clear CS aU9 hk2;cases hfw:Fh r l with
  |false=>
   rw[hfw] at C2;refine aue (e3 hb2 n2 hf) ?_;exact aC h' aOv ⟨rfl,rfl⟩
  |true=>
  rw[hfw] at C2;refine aue (e3 hb2 n2 hf) ?_;refine aU ((CF S hS h2 nx2 N es c hN aUr).dom.mono ?_);rintro v h3 nx3 aCq ⟨⟨o3,m3,rfl,q1,q2⟩,hd3,_⟩;unfold bT;refine Zn ?_;have aGx:=aGx S hS;have aGs:=aGs S;have hlen:=hlen S;have hbR:=hbR S;have aE8:=q1.len;have hs3:Hp.same nx h' h3:=fun m hm=>(q2 m or).trans (hs2 m hm);have hb3:h3 nx=some (.arr (.agg 6) [.agg BV]):=(q2 nx n2).trans hb2;have hN3:h3 N=some (.mp es c):=(q2 N hN2).trans hN;clear q2 C1 C2 CF;obtain⟨P,hP⟩:∃P,oJ (dJ S) r=P:=⟨_,rfl⟩;rw[hP] at q1 aGx aGs hlen hbR aE8⊢;obtain⟨ls,Pn⟩:=P;dsimp only at q1 aGx aGs hlen hbR aE8⊢;have hve:=eO Pn;have n3:nx<nx3:=hd3 _ _ hb3;by_cases hz:Pn=0
  ·rw[decide_eq_true hz] at hve;refine aue (e3 hve aE8 n3) ?_;have aV3:=aGx hz;have hrB:=hbR hz
   refine aP (fun i:Nat=>aD 97 0 [(2, .ptr nx (.agg 6) 0 0),(4, .bool false),(5, .map N),(45, .sl .leaf o3 m3),(46, .int .i64 ls.length),(47, .int .i64 i)])
    (fun i hp nx1=>i≤ls.length∧nx3≤nx1∧aV hp nx1∧Hp.same nx3 h3 hp)
    (fun i=>ls.length-i) 0 ⟨Kc _,Nat.le_refl _,hd3,Hp.same.aA0⟩ (by simp only[WkL,aD,jH,jI,jJ,aE8,go_sem,reduceIte,jA,jB,jC,jD,reduceCtorEq,jE,jF]) ?_
   rintro i hp nx1 ⟨hi,hnx,hdm,hsm⟩;generalize hQ:bB _ _ _ _ _=Q0;refine Zk ?_;rcases Kb i ls.length with hlt|hge
   ·have hc:decide ((i:Int)<(ls.length:Int))=true:=dct;obtain⟨n,es2,c2,hm1,hm2,hm3⟩:=q1.get i hlt;have hm1:m3.getD i (.tup [])= .map n:=hm1;have hw:IntKind.i64.wrap ((i:Int)+1)=((i+1:Nat):Int):=wrp;have aCp:i<m3.length:=or;have hnn:n<nx3:=hd3 _ _ hm2;have aV1:=(aV3 ls[i] (Ka hlt)).2;generalize ls[i]=E1 at*;have hb4:hp nx=some (.arr (.agg 6) [.agg BV]):=(hsm nx n3).trans hb3;have n4:nx<nx1:=or;refine aue (e9 hc hm1 aCp aE8 jG hb4 n4 hbv hbl) ?_
    refine aP (fun j:Nat=>aD 97 0 [(2, .ptr nx (.agg 6) 0 0),(4, .bool false),(5, .map N),(11, .map n),(45, .sl .leaf o3 m3),(46, .int .i64 ls.length),(47, .int .i64 i),(52, .sl (.agg 17) ro (B.map Li.v)),(53, .int .i64 B.length),(54, .int .i64 j)])
     (fun j hp nx1=>j≤B.length∧nx3≤nx1∧aV hp nx1∧Hp.same nx3 h3 hp)
     (fun j=>B.length-j) 0 ⟨Kc _,Zw,by exact dmo hdm,by exact hsm⟩ (by simp only[WkL,aD,jH,jI,jJ,aE8,hbl,go_sem,reduceIte,jA,jB,jC,jD,reduceCtorEq,jE,jF]) ?_
    clear hdm hsm hnx hb4 n4 hp nx1;rintro j hp nx1 ⟨hj,hnx,hdm,hsm⟩;generalize hQ2:bB _ _ _ _ _=Q2;refine Zk ?_;rcases Kb j B.length with hjl|hjg
    ·have hcj:decide ((j:Int)<(B.length:Int))=true:=dct;have hgj:=aO Li.v B j hjl;have hwj:IntKind.i64.wrap ((j:Int)+1)=((j+1:Nat):Int):=wrp;have hox:=aV1 B[j] (Ka hjl);have hrx:=hrB B[j] (Ka hjl);generalize B[j]=x at*;have hfx:=Li.aAD x;have hAf:x.a.v.fits (.agg 2)=true:=rfl;obtain⟨T,hT,hta,htk,htr⟩:∃T,x.v= .agg T∧(.agg ((T.drop 1).take 2))=x.a.v∧T.getD 0 (.tup [])= .int .i64 x.k∧T.getD 1 (.tup [])= .str x.a.r:=⟨_,rfl,rfl,rfl,rfl⟩;have hla:bE (.agg 2) 1 (.agg T)=x.a.v:=hta;have AT:=fun h3 G hm=>dx E1 x hrx h3 n es2 c2 G hm hm3.at
     have AM:=fun G hm=>sL x.a E1 n es2 c2 G hm hm3.at
     rw[hT] at hgj hfx AT;have hTc:T.length=17∧T.all V.aAE=true:=by simpa [V.fits] using hfx
     unfold L.aOC;generalize aWP:aS.ops L.aEs=R15;refine aue (e7 hcj hgj hjl jG hfx hTc.1 hTc.2) ?_;rw[←aWP];generalize hG:Hp.set _ nx1 (.arr (.agg 17) [.agg T])=G;have n4:n≠nx1:=or;have n5:N≠nx1:=by have:=hd3 _ _ hN3;omega
     have hG1:G nx1=some (.arr (.agg 17) [.agg T]):=by rw[←hG];simp only[Hp.set,if_true]
     have hGs:Hp.same nx3 h3 G:=by rw[←hG];exact kep hsm
     have hdG:aV G (nx1+2):=by rw[←hG];exact dmo hdm
     clear hG;have hGn:G n=some (.mp es2 c2):=(hGs n hnn).trans hm2;have hGN:G N=some (.mp es c):=(hGs N (hd3 _ _ hN3)).trans hN3;have n6:nx1<nx1+2:=or;have n7:N<nx1+2:=by have:=hd3 _ _ hN3;omega
     have hv0:=eO 0;rw[decide_eq_true rfl] at hv0;by_cases k3:x.k=3
     ·have g3:(x.k==3)=true:=bqt;have hox:lD E1 x=(true,0):=by unfold okB at hox;rw[if_pos k3] at hox;exact hox
      have C5:=AT k3 G hGn;rw[hox] at C5;refine aue (e7 hG1 n6 htk g3 hfx hv0 hwj) ?_;rw[←hQ2];exact aG (j+1) or ⟨hjl,or,hdG,hGs⟩ (by simp only[WkL,aD,jH,jI,jJ,hwj,go_sem,reduceIte,jA,jB,jC,jD,reduceCtorEq,jE,jF])
     have g3:(x.k==3)=false:=bqf;obtain⟨hx1,hx2⟩:(cY x.a E1).2=0∧rB (dJ S x.a.r) (cY x.a E1).1=decide (x.k=1):=by unfold okB at hox;rw[if_neg k3] at hox;exact hox
     have C5:=AM G hGn;obtain⟨vs,er,hMA⟩:∃vs er,cY x.a E1=(vs,er):=⟨_,_,rfl⟩;rw[hMA] at C5 hx1 hx2;dsimp only at C5 hx1 hx2;subst hx1;have C1:=rb S x.a.r hS (okO 0 .free,vs);rw[show TR.v (okO 0 .free,vs)=V.sl (.agg 3) (okO 0 .free) (vs.map Vl.v) from rfl] at C1;dsimp only at C1;rw[hx2] at C1;obtain⟨rr,hr1,hr2⟩:=aUr.get x.a.r;have hk1:(x.k==1)=decide (x.k=1):=rfl;have hbb:veq (.plain .leaf [.bool]) (.bool (decide (x.k=1))) (.bool (decide (x.k=1)))=some true:=by cases decide (x.k=1)<;>rfl
     generalize V.sl (.agg 3) (okO 0 .free) (vs.map Vl.v)=VV at*;generalize tL S x.a.r=PV at*;generalize decide (x.k=1)=B1 at*;generalize x.a.v=AV at*;refine aue (e12 hG1 n6 htk g3 hfx hv0 hla hAf hGN n7 hr1 (e5 hr2 htr hk1 hbb n6)) ?_;refine bC (C1 _) rfl (aH _) ?_;refine aue (e12 hG1 n6 htk g3 hfx hv0 hla hAf hGN n7 hr1 (e5 hr2 htr hk1 hbb hwj)) ?_;rw[←hQ2];exact aG (j+1) or ⟨hjl,or,hdG.up or,hGs⟩ (by simp only[WkL,aD,jH,jI,jJ,hwj,go_sem,reduceIte,jA,jB,jC,jD,reduceCtorEq,jE,jF])
    have hcj:decide ((j:Int)<(B.length:Int))=false:=dcf;refine aue (e2 hcj hbl) ?_;rw[←hQ2];refine aue hw ?_;rw[←hQ];exact aG (i+1) or ⟨hlt,hnx,hdm,hsm⟩ (by simp only[WkL,aD,jH,jI,jJ,hw,go_sem,reduceIte,jA,jB,jC,jD,reduceCtorEq,jE,jF])
   have hc:decide ((i:Int)<(ls.length:Int))=false:=dcf;refine aue hc ?_;rw[←hQ];refine au ?_;exact aC h' ((show Hp.same nx h' hp from fun m hm=>(hsm m or).trans (hs3 m hm)).le hd (Hp.le_refl _)) ⟨rfl,rfl⟩
  rw[decide_eq_false hz] at hve;have hz0:ls=[]:=aGs hz;have hm0:m3.length=0:=by rw[aE8,hz0];rfl
  refine aue (e2 hve hm0) ?_;exact aC h' (hs3.le hd (Hp.le_refl _)) ⟨rfl,rfl⟩
end Go.Proofs.YtlhedpgobaellaaGreatDoor
