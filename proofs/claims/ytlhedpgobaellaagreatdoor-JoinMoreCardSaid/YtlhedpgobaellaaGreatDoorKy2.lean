/-
Texts of this proof,one behind the other. No conditions.
-/
import Derived.Test.YtlhedpgobaellaaGreatDoorKu
open List renaming mem_singleton→Ka
open Nat renaming reduceAdd→jA,reduceSub→jB,reduceLT→jC,reduceLeDiff→jD,reduceEqDiff→jE
open Int renaming reduceToNat→jF,toNat_natCast→jG,natCast_add→jH,natCast_one→jI,natCast_zero→jJ
open List renaming length_map→jK
set_option linter.all false
set_option maxHeartbeats 8000000
namespace Go.Proofs.YtlhedpgobaellaaGreatDoor
open Go.RowKit Go.Sort
attribute [local irreducible] IntKind.wrap
set_option maxRecDepth 100000
theorem ov(r:Ru)(hr:r.s47)(hb:r.b.length≤140737488355328)(o:Own)(l:List Fc)(hl:l.length≤140737488355328)(hok:∀f∈l,f.ok)(p:TR)(hpN:p.1= .nil→p.2=[])(h:Hp):aL Tryz.prog 5 [r.v, .sl (.agg 3) o (l.map Fc.v),p.v] h (.bool true):=by
 refine aJ (fun L=>trivial) fun h' nx hh=>aB L.g0z fun hd=>?_;have hd:aV h' nx:=hd;have C1:=pt;have C2:=El r hr or o l hl;have hml:(l.map Fc.v).length=l.length:=jK ..;have hf:r.v.fits (.agg 6)=true:=by cases r;rfl
 have CS:=tU o l hl hok;have aVx:=fun S=>As l 0 0 [] S hok (fun s hs=>by cases hs);have CH:=fun(S:List Sr) hS h nx N es c hN hst=>oX r S hS h nx N es c hN hst hb;have C3:=fun o h=>lf o [p] Zm h;have hpv:∀o,tps o [p]= .sl .leaf o [p.v]:=fun o=>rfl;simp only[hpv] at C3;obtain⟨BV,hBV,hbv⟩:∃BV,r.v= .agg BV∧BV.getD 4 (.tup [])= .sl (.agg 17) r.o (r.b.map Li.v):=by cases r;exact⟨_,rfl,rfl⟩
 have hbl:(r.b.map Li.v).length=r.b.length:=jK ..;have hpf:p.v.aAE=true:=rfl;rw[hBV] at C2 hf CH⊢;generalize hB:r.b=B at*;generalize r.o=ro at*;generalize hPV:p.v=PV at*;generalize hLV:l.map Fc.v=LV at*;refine ZK ?_;refine aue hf ?_;refine aU ((CS _ _).dom.mono ?_);rintro v h2 nx2 aAS ⟨⟨hR,hk2⟩,hd2,_⟩;unfold bQ;cases hst:yU 0 0 [] l with
 |none=>
  rw[hst] at hR;have hR:v= .tup [.aAH, .sl (.agg 3) .nil [], .bool false]:=hR;subst hR;refine Zn ?_;refine aue hml ?_;refine aC h' ?_ ⟨rfl,rfl⟩;intro m b e;dsimp only;rw[hk2 m (by have:=hd _ _ e;dsimp only;omega)];simp only[Hp.set];rw[if_neg (by have:=hd _ _ e;omega)];exact e
 |some S=>
  rw[hst] at hR;obtain⟨N,es,c,oS,rfl,hN0,hN,aPD,aG4⟩:=hR;have hS:=aVx S hst;have hb2:h2 nx=some (.arr (.agg 6) [.agg BV]):=by rw[hk2 nx Zw];simp only[go_sem,reduceIte,jA,jB,jC,jD,reduceCtorEq,jE,jF]
  have hs2:Hp.same nx h' h2:=fun m hm=>(hk2 m Zw).trans (by simp only[Hp.set];rw[if_neg or]);have aFW:=hs2.le hd (Hp.le_refl _);have n2:nx<nx2:=hd2 _ _ hb2;have hN2:N<nx2:=hd2 _ _ hN;refine Zn ?_;clear CS aVx hk2;cases hfw:GK r l with
  |false=>
   rw[hfw] at C2;refine aue (e4 hb2 n2 hf hml) ?_;exact aC h' aFW ⟨rfl,rfl⟩
  |true=>
  rw[hfw] at C2;cases l with
  |nil=>
   have hl0:((LV.length:Int)==0)=true:=bqt (by rw[hml];rfl);refine aue (e5 hb2 n2 hf hl0 hpf) ?_;exact aC h' aFW ⟨rfl,rfl⟩
  |cons f0 lr=>
  have hl0:((LV.length:Int)==0)=false:=bqf (by rw[hml];simp;omega);cases hlg:qI 0 (aP [p]) with
  |true=>
   rw[hlg] at C3;refine aue (e5 hb2 n2 hf hl0 hpf) ?_;refine aI (C3 _ _) rfl (aH _) ?_;refine au ?_;exact aC h' (eO aFW (aV.none hd or) _) ⟨rfl,rfl⟩
  |false=>
  rw[hlg] at C3;have hpl:p.2.length≤50:=xE _ _ hlg _ (List.mem_map.2 ⟨p,Ka.2 rfl,rfl⟩);refine aue (e5 hb2 n2 hf hl0 hpf) ?_;refine aI (C3 _ _) rfl (aH _) ?_;refine aue (e5 hb2 n2 hbv hbl hf) ?_;clear C1 C2 C3 hN0 hfw hlg aAS;obtain⟨s0,hs0⟩:∃s0,lkS f0.r S=some s0:=w9 hst
  refine aQ (fun j:Nat=>aD 128 0 [(1, .sl (.agg 3) o LV),(2,PV),(3, .ptr nx (.agg 6) 0 0),(6, .bool false),(7, .map N),(48, .sl (.agg 17) ro (B.map Li.v)),(49, .int .i64 B.length),(50, .int .i64 j)])
   (fun j hp nx1=>j≤B.length∧nx2≤nx1∧aV hp nx1∧Hp.same nx2 h2 hp∧∀x∈B.take j,x.k≠2)
   (fun j=>B.length-j) 0 ⟨Nat.zero_le _,Zw,by exact dmo hd2,by exact kep Hp.same.aAz,Zm⟩ (by simp only[WkL,aD,jH,jI,jJ,hbl,go_sem,reduceIte,jA,jB,jC,jD,reduceCtorEq,jE,jF]) ?_
  rintro j hp nx3 ⟨hj,hnx,hd3,hsm,aA9⟩;generalize hQ:bB _ _ _ _ _=Q0;refine Zk ?_;have hb3:hp nx=some (.arr (.agg 6) [.agg BV]):=(hsm nx n2).trans hb2;have n3:nx<nx3:=or;have hs3:Hp.same nx h' hp:=fun m hm=>(hsm m or).trans (hs2 m hm);have aCb:=hs3.le hd (Hp.le_refl _);rcases Nat.lt_or_ge j B.length with hjl|hjg
  ·have hcj:decide ((j:Int)<(B.length:Int))=true:=dct;have hgj:=aN Li.v B j hjl;have hwj:IntKind.i64.wrap ((j:Int)+1)=((j+1:Nat):Int):=wrp;have htk:=List.take_succ_eq_append_getElem hjl;generalize B[j]=x at*;have hfx:=Li.aAD x;obtain⟨T,hT,ht0⟩:∃T,x.v= .agg T∧T.getD 0 (.tup [])= .int .i64 x.k:=⟨_,rfl,rfl⟩;rw[hT] at hgj hfx;have hTc:T.length=17∧T.all V.aAE=true:=by simpa [V.fits] using hfx
   by_cases k2:x.k=2
   ·have g2:(x.k==2)=true:=bqt;refine aue (e9 hcj hgj hjl jG hfx hTc.1 hTc.2 ht0 g2) ?_;rw[←hQ];refine au ?_;exact aC h' (eO (eO aCb (aV.none hd or) _) (aV.none hd or) _) ⟨rfl,rfl⟩
   have g2:(x.k==2)=false:=bqf;refine aue (e9 hcj hgj hjl jG hfx hTc.1 hTc.2 ht0 g2) ?_;refine aue hwj ?_;rw[←hQ];refine aF (j+1) or ⟨hjl,or,dmo hd3,kep hsm,fun y hy=>?_⟩ (by simp only[WkL,aD,jH,jI,jJ,hwj,go_sem,reduceIte,jA,jB,jC,jD,reduceCtorEq,jE,jF]);rw[htk] at hy;rcases List.mem_append.1 hy with q|q
   ·exact aA9 y q
   rw[Ka.1 q];exact k2
  have hcj:decide ((j:Int)<(B.length:Int))=false:=dcf;rw[List.take_of_length_le or] at aA9;have hN3:hp N=some (.mp es c):=(hsm N hN2).trans hN;have n3N:N<nx3:=or;refine aue (e3 hcj hbl hb3) ?_;rw[←hQ];generalize hTQ:kQ (lwp Tryz.prog (.seq (.ops L.aFC) _)) _=TQ;refine au ?_;rw[←hTQ];refine aW (bG ?_);generalize aXI:kQ _ _=TQ2;refine aue (e3 hb3 n3 hf) ?_;refine aU ((CH S hS hp nx3 N es c hN3 aPD).dom.mono ?_);rintro v h4 nx4 aCJ ⟨⟨rfl,hk4⟩,hd4,_⟩;unfold bQ;refine Zn ?_;refine au ?_;rw[←aXI];have hsN:Hp.same nx h' h4:=fun m hm=>(hk4 m or).trans (hs3 m hm);cases LV with
  |nil=>simp at hml
  |cons v0 LR=>
  rw[List.map_cons] at hLV;injection hLV with hv0 _;subst hv0 hPV;subst hB;refine nm ⟨aD 128 0 [(1, .sl (.agg 3) o (f0.v::LR)),(2,p.v),(3, .ptr nx (.agg 6) 0 0),(6, .bool false),(7, .map N),(12,lst .leaf ((cL (cO S) r).1.map fun t=>vls .free t)),(13,dO (cL (cO S) r).2)],h4,nx4⟩ ⟨?_,Hp.le_refl _,Nat.le_refl _⟩ (BG r hb BV hBV o f0 LR p hpN hpl S hS N es c aPD aG4 s0 hs0 aA9 h' nx hd h4 nx4 hd4 hsN ((hk4 N or).trans hN3) ((hk4 nx n3).trans hb3));simp only[WkL,aD,jH,jI,jJ,go_sem,reduceIte,jA,jB,jC,jD,reduceCtorEq,jE,jF]
end Go.Proofs.YtlhedpgobaellaaGreatDoor
