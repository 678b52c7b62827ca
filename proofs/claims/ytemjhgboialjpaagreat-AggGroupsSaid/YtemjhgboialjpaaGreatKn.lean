/-
Texts of this proof,one behind the other. No conditions.
-/
import Derived.Test.YtemjhgboialjpaaGreatKd
import Derived.Test.YtemjhgboialjpaaGreatKm
import Derived.Test.YtemjhgboialjpaaGreatKk
open Nat renaming reduceAdd→jA,reduceSub→jB,reduceLT→jC,reduceLeDiff→jD,reduceEqDiff→jE
open Int renaming reduceToNat→jF,toNat_natCast→jG,natCast_add→jH,natCast_one→jI,natCast_zero→jJ
open List renaming length_map→jK,length_cons→jL,length_nil→jM,replicate_succ→jN,replicate_zero→jO,cons_append→jP,nil_append→jQ
set_option linter.unusedSimpArgs false
set_option linter.unusedVariables false
set_option linter.unusedSectionVars false
namespace Go.Proofs.YtemjhgboialjpaaGreat
open Go.RowKit Go.Sort
attribute [local irreducible] IntKind.wrap
def fB(c:Nat)(k:List Vl)(l:List TR):List TR:=l.filter fun p=> !decide (aU c p.2=k)
theorem qP(c:Nat)(k:List Vl)(l:List TR):aK (fB c k l)=nN c k (aK l):=by
 simp only[aK,fB,nN,List.filter_map,Function.comp_def]
theorem Acc.lt{h:Hp}{n0 nx:Nat}{o:Own}{es:List V}(a:Acc h n0 o es)(hd:aX h nx)(id:Nat)(e:o= .tok id):id<nx:=by
 rcases a with⟨_,h1⟩|⟨_,id',_,h4,h5⟩
 ·rw[h1] at e;cases e
 rw[h4] at e;injection e with e;subst e;exact hd _ _ h5
theorem Acc.app{h:Hp}{n0 nx:Nat}{o o':Own}{es:List V}(a:Acc h n0 o es)(hd:aX h nx)(hne:∀id,o'= .tok id→o≠ .tok id):Acc (((h.set nx .tip).delO o').set (nx+1) .tip) n0 o es:=
 Acc.set (Acc.delO (Acc.set a (hd.ntip (Nat.le_refl _)) _) hne) (aX.ntip (aX.delO (aX.set hd (Nat.lt_succ_self _) (Nat.le_succ _) _) o') (Nat.le_refl _)) _
set_option maxHeartbeats 2000000 in
theorem aBe(o:Own)(l:List TR)(hl:l.length≤1000000)(c:Nat)(hrow:∀p∈l,p.1≠ .nil∧c<p.2.length∧p.2.length≤1000000)(k:List Vl)(v2:V)(h:Hp)(hv:Rd h v2 k)(hn:∀p∈l,p.ok):
 bH Tryz.prog 58 [tps o l, .int .i64 c,v2] h (.tup [lst (.agg 3) ((fA c k (aK l)).map Vl.v),lst .leaf ((fB c k l).map TR.v)]):=by
 have hnm:∀L,bQ L ((fB c k l).map TR.v):=fun L=>by
  have:∀p∈fB c k l,p.ok:=fun p hp=>hn p (List.mem_filter.1 hp).1
  revert this
  generalize fB c k l=l2
  induction l2 with
  |nil=>exact fun _=>trivial
  |cons x xs ih=>exact fun q=>⟨TR.names (q x (by simp)) L,ih fun y hy=>q y (by simp[hy])⟩
 refine qL (fun L=>⟨iM (fun L=>gG (fun x=>Vl.names_v L x) _) L,iM hnm L,trivial⟩) fun h' nx hh=>aF L.agg_part_low fun hd=>?_
 simp only[jL,jM,jA,jB,jN,jO,jP,jQ,V.undef]
 have hml:(l.map TR.v).length=l.length:=jK ..
 refine aue hml ?_
 refine aY (fun q:Nat×Own×Own=>aC 36 0 [(0,tps o l),(1, .int .i64 c),(2,v2),(6,vls q.2.1 (fA c k (aK (l.take q.1)))),(7,tps q.2.2 (fB c k (l.take q.1))),(10,tps o l),(11, .int .i64 l.length),(12, .int .i64 q.1)])
  (fun q hp nx1=>q.1≤l.length∧nx≤nx1∧aX hp nx1∧Hp.same nx h' hp∧Acc hp nx q.2.1 ((fA c k (aK (l.take q.1))).map Vl.v)∧Acc hp nx q.2.2 ((fB c k (l.take q.1)).map TR.v)∧∀id,q.2.1= .tok id→q.2.2≠ .tok id)
  (fun q=>l.length-q.1) (0, .nil, .nil) ⟨Nat.zero_le _,Nat.le_refl _,hd,Hp.same.rfl',Acc.nil,Acc.nil,fun id e=>by cases e⟩ (by simp only[WkL,aC,jH,jI,jJ,vls,tps,aK,List.take_zero,fB,fA,List.filter_nil,List.map_nil,go_sem,reduceIte,jA,jB,jC,jD,reduceCtorEq,jE,jF]) ?_
 rintro⟨i,o1,o2⟩ hp nx1 ⟨hi,hnx,hdm,hsm,ha1,ha2,hne⟩
 generalize hQ:bU _ _ _ _ _=Q0
 dsimp only at hi ha1 ha2 hne
 simp only[aC,go_sem,reduceIte,jA,jB,jC,jD,reduceCtorEq,jE,jF]
 rcases Nat.lt_or_ge i l.length with hlt|hge
 ·have hc:decide ((i:Int)<(l.length:Int))=true:=dct
  obtain⟨p,hpq⟩:∃p,l[i]=p:=⟨_,rfl⟩
  have hpm:p∈l:=hpq▸List.getElem_mem _
  obtain⟨r1,r2,r3⟩:=hrow p hpm
  have hg:(l.map TR.v).getD i (.tup [])=vls p.1 p.2:=by rw[aO TR.v l i hlt,hpq];rfl
  have hw:IntKind.i64.wrap ((i:Int)+1)=((i+1:Nat):Int):=wrp
  have C1:=fun h=>vD p.1 p.2 r3 r1 c r2 h
  have hhp:Hp.has h hp:=fun m b e q=>by rw[hsm m (hd _ _ (hh _ _ e q))];exact hh m b e q
  have C5:=(oQ .free (aU c p.2) k (by simp only[aU,List.length_eraseIdx];split<;>omega) v2 h hv).mono hhp
  have hto:fA c k (aK (l.take (i+1)))=fA c k (aK (l.take i))++if aU c p.2=k then [p.2.getD c dF] else []:=by
   rw[List.take_succ_eq_append_getElem hlt,hpq]
   simp only[aK,fA,List.map_append,List.filter_append,List.map_cons,List.map_nil]
   congr 1
   by_cases e:aU c p.2=k<;>simp[e]
  have htm:fB c k (l.take (i+1))=fB c k (l.take i)++if aU c p.2=k then [] else [p]:=by
   rw[List.take_succ_eq_append_getElem hlt,hpq]
   simp only[fB,List.filter_append]
   congr 1
   by_cases e:aU c p.2=k<;>simp[e]
  by_cases hk:aU c p.2=k
  ·have h0:bS (aU c p.2) k=0:=(c3T.eq _ _).2 hk
   rw[h0] at C5
   have hz:((0:Int)==0)=true:=rfl
   have hg2:(p.2.map Vl.v).getD c (.tup [])=(p.2.getD c dF).v:=by
    rw[aO Vl.v p.2 c r2,List.getD_eq_getElem?_getD,List.getElem?_eq_getElem r2];rfl
   rw[if_pos hk] at hto htm
   rw[List.append_nil] at htm
   have hacc:=ha1
   have hcap:(fA c k (aK (l.take i))).length≤1000000:=by
    have:(fA c k (aK (l.take i))).length≤(l.take i).length:=by
     simp only[fA,aK,jK]
     exact Nat.le_trans (List.length_filter_le _ _) (by simp)
    rw[List.length_take] at this;omega
   refine aue (e10 hc hml hg hlt hz hg2 r2 (@jK Vl V) jG Vl.fits_v) ?_
   rw[←hQ]
   refine aM (i+1, .tok (nx1+1),o2) (by dsimp only;omega) ⟨hlt,by omega,dmo hdm,aDm hsm ha1,?_,?_,?_⟩ (by simp only[WkL,aC,jH,jI,jJ,vls,tps,hw,hto,htm,List.map_append,List.map_cons,List.map_nil,go_sem,reduceIte,jA,jB,jC,jD,reduceCtorEq,jE,jF])
   ·dsimp only;rw[hto,List.map_append];exact Acc.new _ (by simp) (by omega)
   ·dsimp only;rw[htm];exact ha2.app hdm hne
   rintro id e e2
   injection e with e
   have:=ha2.lt hdm id e2
   omega
  have h0:bS (aU c p.2) k≠0:=fun e=>hk ((c3T.eq _ _).1 e)
  have hz:(bS (aU c p.2) k==0)=false:=by simpa using h0
  rw[if_neg hk] at hto htm
  rw[List.append_nil] at hto
  have hacc:=ha2
  have hcap:(fB c k (l.take i)).length≤1000000:=by
   have:(fB c k (l.take i)).length≤(l.take i).length:=List.length_filter_le _ _
   rw[List.length_take] at this;omega
  have hfl:V.fits .leaf (vls p.1 p.2)=true:=rfl
  refine aue (e8 hc hml hg hlt hz hfl (@jK TR V) jG) ?_
  rw[←hQ]
  refine aM (i+1,o1, .tok (nx1+1)) (by dsimp only;omega) ⟨hlt,by omega,dmo hdm,aDm hsm ha2,?_,?_,?_⟩ (by simp only[WkL,aC,jH,jI,jJ,vls,tps,hw,hto,htm,List.map_append,List.map_cons,List.map_nil,TR.v,go_sem,reduceIte,jA,jB,jC,jD,reduceCtorEq,jE,jF])
  ·dsimp only;rw[hto];exact ha1.app hdm fun id e e2=>hne id e2 e
  ·dsimp only;rw[htm,List.map_append];exact Acc.new _ (by simp) (by omega)
  rintro id e e2
  injection e2 with e2
  have:=ha1.lt hdm id e
  omega
 have hc:decide ((i:Int)<(l.length:Int))=false:=dcf
 have hil:l.take i=l:=List.take_of_length_le (by omega)
 rw[hil] at ha1 ha2
 rw[hil]
 refine aue hc ?_
 rw[←hQ]
 refine au ?_
 refine bJ hp (Hp.le_refl _) ⟨?_,hsm.le hd (Hp.le_refl _)⟩
 simp only[go_sem,reduceIte,jA,jB,jC,jD,reduceCtorEq,jE,jF]
 show V.tup [(V.sl (.agg 3) o1 _).loose,(V.sl .leaf o2 _).loose]=_
 rw[ha1.loose,ha2.loose]
 rfl
theorem aDl(c:Nat)(t:List Vl)(hc:c<t.length)(v:Vl):(aU c t).take c++[v]++(aU c t).drop c=t.set c v:=by
 have hl:(t.take c).length=c:=by simp;omega
 rw[aU,List.eraseIdx_eq_take_drop_succ,List.take_left' hl,List.drop_left' hl,List.set_eq_take_append_cons_drop,if_pos hc,List.append_assoc];rfl
theorem aBA(n m:Nat)(c:Nat)(t:List Vl)(hc:c<t.length)(hl:t.length≤1000000)(x:Vl)(h:Hp)(nx:Nat)(hn:h n=some (.arr (.agg 3) ((aU c t).map Vl.v++[zvl])))(hm:h m=some (.arr (.agg 3) [x.v]))(hnm:m≠n):
 aP Tryz.prog 60 [.rs n (.agg 3) 0 (aU c t).length, .int .i64 c, .rs m (.agg 3) 0 1] h nx fun v h' _=>v=vls .free (t.set c x)∧h'=h.del n:=by
 have hkl:(aU c t).length=t.length-1:=by simp[aU,List.length_eraseIdx,hc]
 have hel:((aU c t).map Vl.v++[zvl]).length=t.length:=by simp;omega
 have c1:=wA n m ((aU c t).map Vl.v++[zvl]) x.v c h nx hn hm hnm (by omega) (by omega)
 rw[hel,←hkl] at c1
 refine(oG (n:=n) (k:= .agg 3) (G:=fun es=>es=(t.set c x).map Vl.v) (c1.mono ?_)).mono ?_
 ·rintro v h' nx' _ ⟨rfl,rfl⟩
  have hlen:((aU c t).map Vl.v).length=t.length-1:=by simp[hkl]
  have he:((aU c t).map Vl.v++[zvl]).take c++[x.v]++(((aU c t).map Vl.v++[zvl]).drop c).take (t.length-1-c)=(t.set c x).map Vl.v:=by
   rw[←aDl c t hc x,List.map_append,List.map_append,List.map_take,List.map_drop,List.map_cons,List.map_nil,List.take_append_of_le_length (by omega),List.drop_append_of_le_length (by omega)]
   congr 1
   rw[List.take_append_of_le_length (by simp;omega),List.take_of_length_le (by simp;omega)]
  rw[hkl]
  refine⟨0,t.length,_,rfl,?_,rfl,?_⟩
  ·rw[he];simp
  rw[he,List.drop_zero];exact List.take_of_length_le (by simp)
 rintro v h' nx' _ ⟨es,rfl,rfl,rfl⟩
 exact⟨rfl,rfl⟩
def aCW(g col:Int)(rows:List (List Vl))(h:Hp)(v:V)(h':Hp):Prop:=∃zs:List TR,v= .tup [lst .leaf (zs.map TR.v),pU (bE g col rows).2]∧aK zs=(bE g col rows).1∧(∀z∈zs,z.ok)∧h'=h
theorem eU{g col:Int}{rows:List (List Vl)}{h:Hp}{n:Int}(hg:bE g col rows=([],n)):aCW g col rows h (.tup [.sl .leaf .nil [],pU n]) h:=⟨[],by rw[hg];rfl,by rw[hg];rfl,by simp,rfl⟩
theorem aCT{h:Hp}{n:Nat}{b:Blk}(e:h n=some b):h.set n b=h:=by
 funext x
 unfold Hp.set
 split
 ·rename_i q;rw[q,e]
 rfl
theorem vR(l:List TR)(h:l≠ []):lst .leaf (l.map TR.v)= .sl .leaf .free (l.map TR.v):=by
 cases l with
 |nil=>exact absurd rfl h
 |cons a b=>rfl
set_option maxRecDepth 100000 in
set_option maxHeartbeats 4000000 in
theorem pN(g col:Int)(o:Own)(l:List TR)(hl:l.length≤100000)(hrow:∀p∈l,p.2.length≤1000∧p.ok)(h':Hp)(nx:Nat):aP Tryz.prog 11 [.int .i64 g, .int .i64 col,tps o l] h' nx fun v h'' _=>aCW g col (aK l) h' v h'':=by
 refine aF L.agg_Group_low fun hd=>?_
 simp only[jL,jM,jA,jB,jN,jO,jP,jQ,V.undef]
 by_cases h1:g<0
 ·have c1:decide (g<0)=true:=dct
  refine aue c1 ?_
  refine bJ h' (leo hd) ?_
  simp only[go_sem,reduceIte,jA,jB,jC,jD,reduceCtorEq,jE,jF]
  exact eU (by unfold bE;rw[if_pos (.inl h1)])
 have c1:decide (g<0)=false:=dcf
 by_cases h2:4<g
 ·have c2:decide (4<g)=true:=dct
  refine aue (e2 c1 c2) ?_
  refine bJ h' (leo hd) ?_
  simp only[go_sem,reduceIte,jA,jB,jC,jD,reduceCtorEq,jE,jF]
  exact eU (by unfold bE;rw[if_pos (.inr h2)])
 have c2:decide (4<g)=false:=dcf
 refine aue (e2 c1 c2) ?_
 refine bD ((mM o l (by omega) (fun p hp=>⟨by have:=(hrow p hp).1;omega,(hrow p hp).2⟩) _ _).dom.mono ?_)
 rintro v h2 nx2 hnx2 ⟨⟨zs,hzr,hzl,hv⟩,hd2,_⟩
 unfold dK
 simp only[go_sem,reduceIte,jA,jB,jC,jD,reduceCtorEq,jE,jF]
 have hz0:zs=[]→l=[]:=fun e=>by
  subst e
  have:=(nG c3T _).1 hzr.symm
  simpa using this
 have hzlen:zs.length≤l.length:=by
  have:=dV (c:=bS) (aK l)
  rw[←hzr] at this
  simpa using this
 have hbig:¬(g<0∨4<g):=by omega
 rcases hv with⟨rfl,rfl,rfl⟩|⟨hzn,id,es,hid,rfl,hze,rfl,htk⟩
 ·--nothing
  dsimp only at hd2 hnx2⊢
  have hln:=hz0 rfl
  subst hln
  have hgv:bE g col (aK [])=([],0):=by
   unfold bE
   rw[if_neg hbig,if_neg (fun k=>k.2 (by simp))]
   split<;>rfl
  have cz:decide ((0:Int)<0)=false:=by decide
  refine aue (e2 cz jJ) ?_
  refine aY (fun _:Unit=>aC 90 0 [(0, .int .i64 g),(1, .int .i64 col),(8, .sl .leaf .nil []),(26, .sl .leaf .nil []),(27, .int .i64 0),(28, .int .i64 0)]) (fun _ hp _=>hp=h2) (fun _=>0) () rfl (by simp only[WkL,aC,jH,jI,jJ,go_sem,reduceIte,jA,jB,jC,jD,reduceCtorEq,jE,jF]) ?_
  rintro _ hp nx1 rfl
  generalize hQ:bU _ _ _ _ _=Q0
  simp only[aC,go_sem,reduceIte,jA,jB,jC,jD,reduceCtorEq,jE,jF]
  refine aue cz ?_
  rw[←hQ]
  cases c0:(g==0) with
  |true=>
   refine aue c0 ?_
   refine bJ hp (Hp.le_refl _) ?_
   simp only[go_sem,reduceIte,jA,jB,jC,jD,reduceCtorEq,jE,jF]
   exact eU hgv
  |false=>
   refine aue c0 ?_
   refine aY (fun _:Unit=>aC 90 0 [(8, .sl .leaf .nil []),(11, .sl .leaf .nil [])]) (fun _ hp2 _=>hp2=hp) (fun _=>0) () rfl (by simp only[WkL,aC,jH,jI,jJ,go_sem,reduceIte,jA,jB,jC,jD,reduceCtorEq,jE,jF]) ?_
   rintro _ hp2 nx1 rfl
   generalize hQ2:bU _ _ _ _ _=Q2
   simp only[aC,go_sem,reduceIte,jA,jB,jC,jD,reduceCtorEq,jE,jF]
   refine aue (e2 cz jJ) ?_
   rw[←hQ2]
   refine au ?_
   refine bD ((mM .nil [] (by simp) (by simp) _ _).mono ?_)
   rintro v h3 nx3 _ ⟨zs,hzr,hzl,hv⟩
   have hzn:zs=[]:=by
    cases zs with
    |nil=>rfl
    |cons z _=>exact absurd (hzl z (by simp)) (by simp)
   subst hzn
   rcases hv with⟨_,rfl,rfl⟩|⟨k,_⟩
   ·unfold dK
    simp only[go_sem,reduceIte,jA,jB,jC,jD,reduceCtorEq,jE,jF]
    refine au ?_
    refine bJ h3 (Hp.le_refl _) ?_
    simp only[go_sem,reduceIte,jA,jB,jC,jD,reduceCtorEq,jE,jF]
    exact eU hgv
   exact absurd rfl k
 --rows
 dsimp only at hid hd2 hnx2⊢
 have hidn:id<nx2:=hd2 id (.arr .leaf es) (by simp[Hp.set])
 have hrz:∀p∈zs,p.2.length≤1000∧p.ok:=fun p hp=>hrow p (hzl p hp)
 have hesg:∀i,(hi:i<zs.length)→es.getD i (.tup [])=vls zs[i].1 zs[i].2:=fun i hi=>by
  have e1:es.getD i (.tup [])=(es.take zs.length).getD i (.tup []):=by rw[List.getD_eq_getElem?_getD,List.getD_eq_getElem?_getD,List.getElem?_take_of_lt hi]
  rw[e1,htk,aO TR.v zs i hi];rfl
 refine au ?_
 refine aY (fun i:Nat=>aC 90 0 [(0, .int .i64 g),(1, .int .i64 col),(8, .rs id .leaf 0 zs.length),(26, .rs id .leaf 0 zs.length),(27, .int .i64 zs.length),(28, .int .i64 i)])
  (fun i hp nx1=>i≤zs.length∧nx2≤nx1∧hp=h'.set id (.arr .leaf es)∧(0<g→∀p∈zs.take i,0≤col∧col<p.2.length)) (fun i=>zs.length-i) 0 ⟨Nat.zero_le _,Nat.le_refl _,rfl,by simp⟩ (by simp only[WkL,aC,jH,jI,jJ,go_sem,reduceIte,jA,jB,jC,jD,reduceCtorEq,jE,jF]) ?_
 rintro i hp nx1 ⟨hi,hnx,rfl,hall⟩
 generalize hQ:bU _ _ _ _ _=Q0
 simp only[aC,go_sem,reduceIte,jA,jB,jC,jD,reduceCtorEq,jE,jF]
 obtain⟨H,hH⟩:∃H,H=h'.set id (.arr .leaf es):=⟨_,rfl⟩
 have hHi:H id=some (.arr .leaf es):=by rw[hH];simp[Hp.set]
 have hHle:h'.le H:=by rw[hH];exact fT (Hp.le_refl _) (aX.none hd hid) _
 rw[←hH]
 have hni:id<nx1:=by omega
 rcases Nat.lt_or_ge i zs.length with hlt|hge
 ·have hc:decide ((i:Int)<(zs.length:Int))=true:=dct
  have hw:IntKind.i64.wrap ((i:Int)+1)=((i+1:Nat):Int):=wrp
  obtain⟨p,hpq⟩:∃p,zs[i]=p:=⟨_,rfl⟩
  have hpm:p∈zs:=hpq▸List.getElem_mem _
  have hg:=hesg i hlt
  rw[hpq] at hg
  have hie:i<es.length:=by omega
  have hpl:(p.2.map Vl.v).length=p.2.length:=jK ..
  have C1:=fun h=>aBK p (by have:=(hrz p hpm).1;omega) (hrz p hpm).2 h
  have hpv:TR.v p= .sl (.agg 3) p.1 (p.2.map Vl.v):=rfl
  have hbadg:0<g→¬(0≤col∧col<p.2.length)→bE g col (aK l)=([],1):=fun hg0 hb=>by
   unfold bE
   rw[if_neg hbig,if_pos ⟨hg0,fun k=>hb (k p.2 (List.mem_map.2 ⟨p,hzl p hpm,rfl⟩))⟩]
  have hset:H.set id (.arr .leaf (es.set i (TR.v p)))=H:=by
   have:es.set i (TR.v p)=es:=by
    apply List.ext_getElem
    ·simp
    intro j a b
    rw[List.getElem_set]
    split
    ·rename_i e;subst e
     have:=hg
     rw[List.getD_eq_getElem?_getD,List.getElem?_eq_getElem hie] at this
     exact this.symm
    rfl
   rw[this];exact aCT hHi
  have hlf:(TR.v p).leafy=true:=rfl
  have hsp:bF .leaf 0 (vls p.1 p.2) (TR.v p)=TR.v p:=rfl
  have hnext:(0<g→0≤col∧col<p.2.length)→0<g→∀q∈zs.take (i+1),0≤col∧col<q.2.length:=fun k hg0 q hq=>by
   rw[List.take_succ_eq_append_getElem hlt,hpq] at hq
   rcases List.mem_append.1 hq with hq|hq
   ·exact hall hg0 q hq
   rw[List.mem_singleton.1 hq];exact k hg0
  cases cg:decide (0<g) with
  |true=>
   have hg0:0<g:=of_decide_eq_true cg
   by_cases k1:col<0
   ·have ck:decide (col<0)=true:=dct
    refine aue (e7 hc hg cg ck hHi hni hie) ?_
    rw[←hQ]
    refine au ?_
    refine bJ h' hHle ?_
    simp only[go_sem,reduceIte,jA,jB,jC,jD,reduceCtorEq,jE,jF]
    exact eU (hbadg hg0 (by omega))
   have ck:decide (col<0)=false:=dcf
   by_cases k2:(p.2.length:Int)≤col
   ·have ck2:decide ((p.2.length:Int)≤col)=true:=dct
    refine aue (e10 hc hg cg ck hHi hni hie ck2 hpl jG) ?_
    rw[←hQ]
    refine au ?_
    refine bJ h' hHle ?_
    simp only[go_sem,reduceIte,jA,jB,jC,jD,reduceCtorEq,jE,jF]
    exact eU (hbadg hg0 (by omega))
   have ck2:decide ((p.2.length:Int)≤col)=false:=dcf
   refine aue (e14 hc hg cg ck hHi hni hie ck2 hpl jG hw hlt hlf (e2 hsp hset)) ?_
   rw[←hQ]
   exact aM (i+1) (by omega) ⟨hlt,by omega,hH,hnext fun _=>by omega⟩ (by simp only[WkL,aC,jH,jI,jJ,go_sem,reduceIte,jA,jB,jC,jD,reduceCtorEq,jE,jF])
  |false=>
   have hg0:¬0<g:=of_decide_eq_false cg
   refine aue (e12 hc hg cg hHi hni hie hpl jG hw hlt hlf (e2 hsp hset)) ?_
   rw[←hQ]
   exact aM (i+1) (by omega) ⟨hlt,by omega,hH,hnext fun k=>absurd k hg0⟩ (by simp only[WkL,aC,jH,jI,jJ,go_sem,reduceIte,jA,jB,jC,jD,reduceCtorEq,jE,jF])
 have hc:decide ((i:Int)<(zs.length:Int))=false:=dcf
 have hil:zs.take i=zs:=List.take_of_length_le (by omega)
 rw[hil] at hall
 have hHd:h'.le (H.del id):=kP hHle (aX.none hd hid)
 have hfz:(es.drop 0).take zs.length=zs.map TR.v:=by rw[List.drop_zero];exact htk
 cases c0:(g==0) with
 |true=>
  have hg0:g=0:=by simpa using c0
  have hgv:bE g col (aK l)=(aK zs,0):=by
   unfold bE
   rw[if_neg hbig,if_neg (fun k=>by omega),if_pos hg0,hzr]
  refine aue hc ?_
  rw[←hQ]
  refine au ?_
  rw[c0]
  refine wK ?_
  refine dR (dS ?_)
  refine eI 3 rfl (by simp only[go_sem,reduceIte,jA,jB,jC,jD,reduceCtorEq,jE,jF]) ?_
  simp only[go_sem,reduceIte,jA,jB,jC,jD,reduceCtorEq,jE,jF]
  refine lC (gU (t:=6) (n:=id) (k:= .leaf) (off:=0) (len:=zs.length) (es:=es) rfl hHi (by omega)) ?_
  rw[hfz]
  refine au ?_
  refine bJ h' hHd ?_
  simp only[go_sem,reduceIte,jA,jB,jC,jD,reduceCtorEq,jE,jF]
  exact⟨zs,by rw[hgv,vR zs hzn];rfl,by rw[hgv],fun z hz=>(hrz z hz).2,rfl⟩
 |false=>
 have hg0:0<g:=by have:g≠0:=by simpa using c0
                  omega
 have hcol:0≤col:=by
  cases zs with
  |nil=>exact absurd rfl hzn
  |cons z _=>exact(hall hg0 z (by simp)).1
 obtain⟨c,rfl⟩:∃c:Nat,col=c:=⟨col.toNat,by omega⟩
 have hgv:bE g c (aK l)=gX g c [] (aK zs):=by
  unfold bE
  rw[if_neg hbig,if_neg,if_neg (by omega),hzr]
  ·rfl
  rintro⟨_,k⟩
  refine k fun t ht=>?_
  have h1:t∈aK zs:=by rw[hzr];exact((bO c3T _).2 t).2 ht
  obtain⟨p,hp,rfl⟩:=List.mem_map.1 h1
  exact hall hg0 p hp
 have hzok:∀p∈zs,p.1≠ .nil∧c<p.2.length∧p.2.length≤1000∧p.ok:=fun p hp=>by
  have h1:=(hall hg0 p hp).2
  have h2:=hrz p hp
  refine⟨fun e=>?_,by omega,h2.1,h2.2⟩
  rcases h2.2 with⟨_,h3⟩|h3
  ·rw[h3] at h1;simp at h1;omega
  rw[h3] at e;cases e
 refine aue hc ?_
 rw[←hQ]
 refine aue c0 ?_
 refine oW (gU (t:=8) (n:=id) (k:= .leaf) (off:=0) (len:=zs.length) (es:=es) rfl hHi (by omega)) ?_
 rw[hfz]
 have hdn:aX (H.del id) (nx1+1):=aX.up (aX.del (by rw[hH];exact hd2)) (by omega)
 have hsn:Hp.same nx h' (H.del id):=fun m hm=>by
  rw[hH];simp only[Hp.set_app,Hp.del_app]
  rw[if_neg (by omega),if_neg (by omega)]
 clear hQ Q0 hH hHi hHle hHd hfz hesg htk hze
 generalize H.del id=H1 at hdn hsn
 refine aY (fun q:List TR×Own×Own×List TR=>aC 90 0 [(0, .int .i64 g),(1, .int .i64 c),(8,tps q.2.1 q.1),(11,tps q.2.2.1 q.2.2.2)])
  (fun q hp nx1=>nx≤nx1∧aX hp nx1∧Hp.same nx h' hp∧Acc hp nx q.2.2.1 (q.2.2.2.map TR.v)∧gX g c [] (aK zs)=gX g c (aK q.2.2.2) (aK q.1)∧q.2.2.2.length+q.1.length≤zs.length∧
    (∀p∈q.1,p.1≠ .nil∧c<p.2.length∧p.2.length≤1000∧p.ok)∧∀p∈q.2.2.2,p.2.length≤1000∧p.ok)
  (fun q=>q.1.length) (zs, .free, .nil,[]) ⟨by dsimp only;omega,hdn,hsn,Acc.nil,rfl,by simp,hzok,by simp⟩ (by simp only[WkL,aC,jH,jI,jJ,tps,List.map_nil,go_sem,reduceIte,jA,jB,jC,jD,reduceCtorEq,jE,jF]) ?_
 clear hdn hsn H1 hc hil hge hi hnx hni i nx1
 rintro⟨L,oL,oo,out⟩ hp nx1 ⟨hnx,hdm,hsm,hacc,hre,hlen,hLok,hook⟩
 generalize hQ:bU _ _ _ _ _=Q0
 dsimp only at hnx hacc hre hlen hLok hook
 simp only[aC,go_sem,reduceIte,jA,jB,jC,jD,reduceCtorEq,jE,jF]
 cases L with
 |nil=>
  have cz:decide ((0:Int)<0)=false:=by decide
  refine aue (e3 cz jJ tps.eq_1) ?_
  rw[←hQ]
  refine au ?_
  refine bD ((mM oo out (by simp at hlen;omega) (fun q hq=>⟨by have:=(hook q hq).1;omega,(hook q hq).2⟩) _ _).mono ?_)
  rintro v h3 nx3 _ ⟨ws,hwr,hwl,hv⟩
  unfold dK
  simp only[go_sem,reduceIte,jA,jB,jC,jD,reduceCtorEq,jE,jF]
  have hend:bE g c (aK l)=(aK ws,0):=by
   rw[hgv,hre,hwr];exact tK _ _ _
  have hle:=hsm.le hd (Hp.le_refl _)
  rcases hv with⟨rfl,rfl,rfl⟩|⟨hwn,wid,wes,hwid,rfl,hwe,rfl,hwt⟩
  ·refine au ?_
   refine bJ h' hle ?_
   simp only[go_sem,reduceIte,jA,jB,jC,jD,reduceCtorEq,jE,jF]
   exact⟨[],by rw[hend];rfl,by rw[hend],by simp,rfl⟩
  dsimp only at hwid
  refine eI 2 rfl (by simp only[go_sem,reduceIte,jA,jB,jC,jD,reduceCtorEq,jE,jF]) ?_
  simp only[go_sem,reduceIte,jA,jB,jC,jD,reduceCtorEq,jE,jF]
  refine lC (gU (t:=6) (n:=wid) (k:= .leaf) (off:=0) (len:=ws.length) (es:=wes) rfl (by simp[Hp.set]) (by omega)) ?_
  rw[List.drop_zero,hwt]
  refine au ?_
  refine bJ h' (kP (fT hle (aX.none hd (by omega)) _) (aX.none hd (by omega))) ?_
  simp only[go_sem,reduceIte,jA,jB,jC,jD,reduceCtorEq,jE,jF]
  exact⟨ws,by rw[hend,vR ws hwn];rfl,by rw[hend],fun z hz=>(hook z (hwl z hz)).2,rfl⟩
 |cons p L=>
  obtain⟨M,hM⟩:∃M,M=p::L:=⟨_,rfl⟩
  rw[←hM] at hre hlen hLok⊢
  have hpm:p∈M:=by rw[hM];simp
  obtain⟨q1,q2,q3,q4⟩:=hLok p hpm
  have hml:(M.map TR.v).length=M.length:=jK ..
  have hmp:0<M.length:=by rw[hM];simp
  have hc:decide (0<(M.length:Int))=true:=dct
  have hg0:(M.map TR.v).getD 0 (.tup [])=vls p.1 p.2:=by rw[hM];rfl
  refine aue (e4 hc hml hg0 hmp) ?_
  refine bD ((lV p.1 p.2 (by omega) q1 c q2 _ _).dom.mono ?_)
  rintro v h2 nx3 hnx3 ⟨⟨kid,hkid,rfl,rfl⟩,hd3,_⟩
  dsimp only at hkid hd3 hnx3
  unfold dK
  simp only[go_sem,reduceIte,jA,jB,jC,jD,reduceCtorEq,jE,jF]
  obtain⟨H2,hH2⟩:∃H2,H2=hp.set kid (.arr (.agg 3) ((aU c p.2).map Vl.v++[zvl])):=⟨_,rfl⟩
  rw[←hH2] at hd3⊢
  have hk2:H2 kid=some (.arr (.agg 3) ((aU c p.2).map Vl.v++[zvl])):=by rw[hH2];simp[Hp.set]
  have hs2:Hp.same nx h' H2:=by rw[hH2];exact dG hsm (by omega) _
  have ha2:Acc H2 nx oo (out.map TR.v):=by rw[hH2];exact Acc.set hacc (hdm.ntip hkid) _
  have hkn:kid<nx3:=hd3 _ _ hk2
  clear hH2
  have hrl:(aK M).length=M.length:=jK ..
  have C5:=aBe oL M (by omega) c (fun q hq=>⟨(hLok q hq).1,(hLok q hq).2.1,by have:=(hLok q hq).2.2.1;omega⟩) (aU c p.2) _ H2 (.inr ⟨kid,[zvl],rfl,hk2⟩) fun q hq=>(hLok q hq).2.2.2
  obtain⟨ow,how⟩:∃ow,fA c (aU c p.2) (aK M)=ow:=⟨_,rfl⟩
  have howl:ow.length≤M.length:=by
   rw[←how,fA,jK]
   exact Nat.le_trans (List.length_filter_le _ _) (by rw[hrl];exact Nat.le_refl _)
  obtain⟨oO,hoO⟩:=iV (.agg 3) (ow.map Vl.v)
  obtain⟨oM,hoM⟩:=iV .leaf ((fB c (aU c p.2) M).map TR.v)
  rw[how,hoO,hoM] at C5
  have C1:=fun h=>aBF g oO ow (by omega) h
  obtain⟨x,n,hx⟩:∃x n,cH g ow=(x,n):=⟨_,_,rfl⟩
  rw[hx] at C1
  have hrM:aK M=p.2::aK L:=by rw[hM];rfl
  refine aue (e2 aDc Vl.fits_v) ?_
  cases he:decide (n=0) with
  |false=>
   have hn0:n≠0:=of_decide_eq_false he
   have hend:bE g c (aK l)=([],n):=by
    rw[hgv,hre,hrM,tL]
    ·rw[←hrM,how,hx]
    rw[←hrM,how,hx];exact hn0
   refine wK ?_
   rw[←hQ]
   refine au ?_
   refine bJ h' (lef hd (hs2.le hd (Hp.le_refl _))) ?_
   simp only[go_sem,reduceIte,jA,jB,jC,jD,reduceCtorEq,jE,jF]
   exact eU hend
  |true=>
   have hn0:n=0:=of_decide_eq_true he
   refine aAJ ?_
   repeat (first|with_reducible refine dR ?_|with_reducible refine cU ?_|with_reducible refine fC ?_|with_reducible refine bM ?_|with_reducible refine bI ?_|with_reducible refine dS ?_|with_reducible refine dN ?_)
   have hxf:=x.fits_v
   have e1:(kid=nx3)=False:=eq_false (by omega)
   refine eI 4 rfl (by simp only[hxf,aL hxf,go_sem,reduceIte,jA,jB,jC,jD,reduceCtorEq,jE,jF]) ?_
   simp only[hxf,aL hxf,go_sem,reduceIte,jA,jB,jC,jD,reduceCtorEq,jE,jF]
   refine fS (by simp[aG.ev,hxf]) ?_
   simp only[go_sem,reduceIte,jA,jB,jC,jD,reduceCtorEq,jE,jF]
   refine bD ((aBA kid (nx3+2) c p.2 q2 (by omega) x _ _ ?_ ?_ (by omega)).dom.mono ?_)
   ·simp only[Hp.set_app]
    repeat rw[if_neg (by omega)]
    exact hk2
   ·simp[Hp.set]
   rintro v h4 nx4 hnx4 ⟨⟨rfl,rfl⟩,hd4,_⟩
   dsimp only at hd4 hnx4
   unfold dK
   simp only[go_sem,reduceIte,jA,jB,jC,jD,reduceCtorEq,jE,jF]
   obtain⟨z0,hz0'⟩:∃z0,z0=(.arr (.agg 3) [.agg [.int .i64 0, .int .i64 0, .str ⟨#[]⟩]]:Blk):=⟨_,rfl⟩
   rw[←hz0'] at hd4⊢
   have hnt:∀H:Hp,aX H nx3→H (nx3+2)≠some .tip:=fun H hH=>hH.ntip (by omega)
   have hs4:Hp.same nx h' ((((H2.set nx3 z0).set nx3 (.arr (.agg 3) [x.v])).set (nx3+2) (.arr (.agg 3) [x.v])).del kid):=
    nH (dG (dG (dG hs2 (by omega) _) (by omega) _) (by omega) _) (by omega)
   have ha4:Acc ((((H2.set nx3 z0).set nx3 (.arr (.agg 3) [x.v])).set (nx3+2) (.arr (.agg 3) [x.v])).del kid) nx oo (out.map TR.v):=by
    refine Acc.del (Acc.set (Acc.set (Acc.set ha2 (hd3.ntip (Nat.le_refl _)) _) ?_ _) ?_ _) fun e=>?_
    ·rw[hz0'];exact xI
    ·refine qN (by omega) (qN (by omega) (hd3.ntip (by omega)))
    have:=ha2.lt hd3 kid e
    rcases ha2 with⟨_,k⟩|⟨_,id',_,k,k2⟩
    ·rw[k] at e;cases e
    rw[k] at e;injection e with e;subst e;rw[hk2] at k2;cases k2
   generalize (((H2.set nx3 z0).set nx3 (.arr (.agg 3) [x.v])).set (nx3+2) (.arr (.agg 3) [x.v])).del kid=H4 at hd4 hs4 ha4⊢
   have hacc:=ha4
   have hdm:=hd4
   have hcap:out.length≤1000000:=by omega
   have hfl:V.fits .leaf (vls .free (p.2.set c x))=true:=rfl
   refine aue (e3 hfl (@jK TR V) jG) ?_
   rw[←hQ]
   have hml2:(fB c (aU c p.2) M).length≤L.length:=by
    have h1:=lG c p.2 (aK L)
    rw[←hrM,←qP] at h1
    simpa using h1
   have hMl:M.length=L.length+1:=by rw[hM];rfl
   refine aM (fB c (aU c p.2) M,oM, .tok (nx4+1),out++[(.free,p.2.set c x)]) (by first|(show(fB c (aU c p.2) M).length<(p::L).length;rw[jL];omega)|(show(fB c (aU c p.2) M).length<M.length;omega)) ⟨by omega,dmo hdm,aDm hs4 ha4,?_,?_,?_,?_,?_⟩ (by simp only[WkL,aC,jH,jI,jJ,vls,tps,List.map_append,List.map_cons,List.map_nil,TR.v,go_sem,reduceIte,jA,jB,jC,jD,reduceCtorEq,jE,jF])
   ·dsimp only;rw[List.map_append];exact Acc.new _ (by simp) (by omega)
   ·dsimp only
    rw[hre,qP,hrM,qJ]
    ·rw[←hrM,how,hx]
     congr 1
     simp[aK]
    rw[←hrM,how,hx];exact hn0
   ·dsimp only;rw[List.length_append];simp only[jL,jM];omega
   ·exact fun q hq=>hLok q (List.mem_filter.1 hq).1
   intro q hq
   rcases List.mem_append.1 hq with hq|hq
   ·exact hook q hq
   rw[List.mem_singleton.1 hq]
   exact⟨by dsimp only;rw[List.length_set];exact q3, .inr rfl⟩
theorem vF(a b:Vl):veq (.plain (.agg 3) [.int, .int, .str]) a.v b.v=some (decide (a=b)):=by
 have e:(decide (a=b))=(decide (a.k=b.k)&&(decide (a.n=b.n)&&decide (a.s=b.s))):=by
  rw[Bool.eq_iff_iff]
  cases a;cases b
  simp
 rw[e]
 have e1:(a.k==b.k)=decide (a.k=b.k):=rfl
 have e2:(a.n==b.n)=decide (a.n=b.n):=rfl
 simp[Vl.v,aBZ,V.fits,V.leafy,eQ,fF,oD,e1,e2]
theorem aDb(a b:Vl):veq (.plain (.agg 3) [.int, .int, .str]) (.agg [.int .i64 a.k, .int .i64 a.n, .str a.s]) (.agg [.int .i64 b.k, .int .i64 b.n, .str b.s])=some (decide (a=b)):=vF a b
theorem sN(o1 o2:Own)(a b:List Vl)(ha:a.length≤1000000000)(h:Hp):bH Tryz.prog 64 [vls o1 a,vls o2 b] h (.bool (decide (a=b))):=by
 refine aT (fun L=>trivial) fun h' nx hh=>aF L.corollarynum_Tuple_low fun hd=>?_
 simp only[jL,jM,jA,jB,jN,jO,jP,jQ,V.undef]
 by_cases hl:a.length=b.length
 ·have cl:((a.length:Int) != (b.length:Int))=false:=bnf
  refine aue (e2 cl (@jK Vl V)) ?_
  refine aY (fun i:Nat=>aC 26 0 [(0,vls o1 a),(1,vls o2 b),(12, .int .i64 a.length),(13, .int .i64 i)]) (fun i hp nx1=>i≤a.length∧nx≤nx1∧aX hp nx1∧Hp.same nx h' hp∧a.take i=b.take i) (fun i=>a.length-i) 0 ⟨Nat.zero_le _,Nat.le_refl _,hd,Hp.same.rfl',rfl⟩ (by simp only[WkL,aC,jH,jI,jJ,go_sem,reduceIte,jA,jB,jC,jD,reduceCtorEq,jE,jF]) ?_
  rintro i hp nx1 ⟨hi,hnx,hdm,hsm,htk⟩
  generalize hQ:bU _ _ _ _ _=Q0
  simp only[aC,go_sem,reduceIte,jA,jB,jC,jD,reduceCtorEq,jE,jF]
  rcases Nat.lt_or_ge i a.length with hlt|hge
  ·have hc:decide ((i:Int)<(a.length:Int))=true:=dct
   have hw:IntKind.i64.wrap ((i:Int)+1)=((i+1:Nat):Int):=wrp
   have hlb:i<b.length:=by omega
   have hg:=aO Vl.v a i hlt
   have hg2:=aO Vl.v b i hlb
   have hv:=vF a[i] b[i]
   have E:=e9 hc hw hg hg2 hv hlt hlb (@jK Vl V) (e2 jG Vl.fits_v)
   cases he:decide (a[i]=b[i]) with
   |true=>
    have he':a[i]=b[i]:=of_decide_eq_true he
    refine aue (e4 E he Bool.not_true Bool.not_false) ?_
    rw[←hQ]
    exact aM (i+1) (by omega) ⟨hlt,by omega,dmo hdm,kep hsm,by rw[List.take_succ_eq_append_getElem hlt,List.take_succ_eq_append_getElem hlb,htk,he']⟩ (by simp only[WkL,aC,jH,jI,jJ,hw,go_sem,reduceIte,jA,jB,jC,jD,reduceCtorEq,jE,jF])
   |false=>
    have he':a[i]≠b[i]:=of_decide_eq_false he
    refine aue (e4 E he Bool.not_true Bool.not_false) ?_
    rw[←hQ]
    refine au ?_
    refine aD h' (lef hd (hsm.le hd (Hp.le_refl _))) ⟨?_,rfl⟩
    have:a≠b:=fun e=>he' (by subst e;rfl)
    simp only[go_sem,reduceIte,jA,jB,jC,jD,reduceCtorEq,jE,jF];rw[decide_eq_false this]
  have hc:decide ((i:Int)<(a.length:Int))=false:=dcf
  refine aue hc ?_
  rw[←hQ]
  refine au ?_
  refine aD h' (lef hd (hsm.le hd (Hp.le_refl _))) ⟨?_,rfl⟩
  have:a=b:=by rw[List.take_of_length_le (by omega),List.take_of_length_le (by omega)] at htk;exact htk
  simp only[go_sem,reduceIte,jA,jB,jC,jD,reduceCtorEq,jE,jF];rw[decide_eq_true this]
 have cl:((a.length:Int) != (b.length:Int))=true:=bnt
 refine aue (e2 cl (@jK Vl V)) ?_
 refine aD h' (leo hd) ⟨?_,rfl⟩
 have:a≠b:=fun e=>hl (by rw[e])
 simp only[go_sem,reduceIte,jA,jB,jC,jD,reduceCtorEq,jE,jF];rw[decide_eq_false this]
theorem kJ(o1 o2:Own)(a b:List TR)(ha:a.length≤1000000000)(hr:∀p∈a,p.2.length≤1000000000)(h:Hp):bH Tryz.prog 14 [tps o1 a,tps o2 b] h (.bool (decide (aK a=aK b))):=by
 refine aT (fun L=>trivial) fun h' nx hh=>aF L.corollarynum_Tuples_low fun hd=>?_
 simp only[jL,jM,jA,jB,jN,jO,jP,jQ,V.undef]
 by_cases hl:a.length=b.length
 ·have cl:((a.length:Int) != (b.length:Int))=false:=bnf
  refine aue (e2 cl (@jK TR V)) ?_
  refine aY (fun i:Nat=>aC 27 0 [(0,tps o1 a),(1,tps o2 b),(12, .int .i64 a.length),(13, .int .i64 i)]) (fun i hp nx1=>i≤a.length∧nx≤nx1∧aX hp nx1∧Hp.same nx h' hp∧aK (a.take i)=aK (b.take i)) (fun i=>a.length-i) 0 ⟨Nat.zero_le _,Nat.le_refl _,hd,Hp.same.rfl',rfl⟩ (by simp only[WkL,aC,jH,jI,jJ,go_sem,reduceIte,jA,jB,jC,jD,reduceCtorEq,jE,jF]) ?_
  rintro i hp nx1 ⟨hi,hnx,hdm,hsm,htk⟩
  generalize hQ:bU _ _ _ _ _=Q0
  simp only[aC,go_sem,reduceIte,jA,jB,jC,jD,reduceCtorEq,jE,jF]
  rcases Nat.lt_or_ge i a.length with hlt|hge
  ·have hc:decide ((i:Int)<(a.length:Int))=true:=dct
   have hw:IntKind.i64.wrap ((i:Int)+1)=((i+1:Nat):Int):=wrp
   have hlb:i<b.length:=by omega
   have hg:(a.map TR.v).getD i (.tup [])=vls a[i].1 a[i].2:=aO TR.v a i hlt
   have hg2:(b.map TR.v).getD i (.tup [])=vls b[i].1 b[i].2:=aO TR.v b i hlb
   have D1:=fun h=>sN a[i].1 b[i].1 a[i].2 b[i].2 (hr _ (List.getElem_mem _)) h
   have E:=e8 hc hw hg hg2 hlt hlb (@jK TR V) jG
   cases he:decide (a[i].2=b[i].2) with
   |true=>
    rw[he] at D1
    have he':a[i].2=b[i].2:=of_decide_eq_true he
    refine aue (e3 E Bool.not_true Bool.not_false) ?_
    rw[←hQ]
    exact aM (i+1) (by omega) ⟨hlt,by omega,dmo hdm,kep hsm,by
     rw[List.take_succ_eq_append_getElem hlt,List.take_succ_eq_append_getElem hlb]
     simp only[aK,List.map_append,List.map_cons,List.map_nil,he'] at htk⊢
     rw[htk]⟩ (by simp only[WkL,aC,jH,jI,jJ,hw,go_sem,reduceIte,jA,jB,jC,jD,reduceCtorEq,jE,jF])
   |false=>
    rw[he] at D1
    have he':a[i].2≠b[i].2:=of_decide_eq_false he
    refine aue (e3 E Bool.not_true Bool.not_false) ?_
    rw[←hQ]
    refine au ?_
    refine aD h' (lef hd (hsm.le hd (Hp.le_refl _))) ⟨?_,rfl⟩
    have:aK a≠aK b:=fun e=>he' (by
     have h1:(aK a)[i]'(by simpa using hlt)=a[i].2:=by simp
     have h2:(aK b)[i]'(by simpa using hlb)=b[i].2:=by simp
     rw[←h1,←h2];congr 1)
    simp only[go_sem,reduceIte,jA,jB,jC,jD,reduceCtorEq,jE,jF];rw[decide_eq_false this]
  have hc:decide ((i:Int)<(a.length:Int))=false:=dcf
  refine aue hc ?_
  rw[←hQ]
  refine au ?_
  refine aD h' (lef hd (hsm.le hd (Hp.le_refl _))) ⟨?_,rfl⟩
  have:aK a=aK b:=by rw[List.take_of_length_le (by omega),List.take_of_length_le (by omega)] at htk;exact htk
  simp only[go_sem,reduceIte,jA,jB,jC,jD,reduceCtorEq,jE,jF];rw[decide_eq_true this]
 have cl:((a.length:Int) != (b.length:Int))=true:=bnt
 refine aue (e2 cl (@jK TR V)) ?_
 refine aD h' (leo hd) ⟨?_,rfl⟩
 have:aK a≠aK b:=fun e=>hl (by have:=congrArg List.length e;simpa using this)
 simp only[go_sem,reduceIte,jA,jB,jC,jD,reduceCtorEq,jE,jF];rw[decide_eq_false this]
def tU(n:Int):List Vl→Option Int
 | []=>some n
 |x::l=>if 2000<IntKind.i64.wrap (n+(x.s.size:Int)) then none else tU (IntKind.i64.wrap (n+(x.s.size:Int))) l
def pM(n:Int):List (List Vl)→Bool
 | []=>false
 |t::l=>if 50<t.length then true else match tU n t with
  |none=>true
  |some m=>pM m l
theorem tT:∀(l:List (List Vl)) (n:Int),pM n l=false→∀t∈l,t.length≤50
 | [],_,_=>by simp
 |t::l,n,h=>by
  unfold pM at h
  split at h
  ·cases h
  rename_i h1
  split at h
  ·cases h
  rename_i m _
  intro q hq
  rcases List.mem_cons.1 hq with rfl|hq
  ·omega
  exact tT l m h q hq
set_option maxHeartbeats 2000000 in
theorem aBr(o:Own)(l:List TR)(hl:l.length≤1000000000)(h:Hp):bH Tryz.prog 53 [tps o l] h (.bool (pM 0 (aK l))):=by
 refine aT (fun L=>trivial) fun h' nx hh=>aF L.corollarylaw02_Long_low fun hd=>?_
 simp only[jL,jM,jA,jB,jN,jO,jP,jQ,V.undef]
 refine aue (@jK TR V) ?_
 refine aY (fun q:Nat×Int=>aC 32 0 [(3, .int .i64 q.2),(8,tps o l),(9, .int .i64 l.length),(10, .int .i64 q.1)]) (fun q hp nx1=>q.1≤l.length∧nx≤nx1∧aX hp nx1∧Hp.same nx h' hp∧pM 0 (aK l)=pM q.2 (aK (l.drop q.1))) (fun q=>l.length-q.1) (0,0) ⟨Nat.zero_le _,Nat.le_refl _,hd,Hp.same.rfl',rfl⟩ (by simp only[WkL,aC,jH,jI,jJ,go_sem,reduceIte,jA,jB,jC,jD,reduceCtorEq,jE,jF]) ?_
 rintro⟨i,n⟩ hp nx1 ⟨hi,hnx,hdm,hsm,hto⟩
 generalize hQ:bU _ _ _ _ _=Q0
 dsimp only at hi hto
 simp only[aC,go_sem,reduceIte,jA,jB,jC,jD,reduceCtorEq,jE,jF]
 have hle:=hsm.le hd (Hp.le_refl _)
 rcases Nat.lt_or_ge i l.length with hlt|hge
 ·have hc:decide ((i:Int)<(l.length:Int))=true:=dct
  have hw:IntKind.i64.wrap ((i:Int)+1)=((i+1:Nat):Int):=wrp
  obtain⟨p,hpq⟩:∃p,l[i]=p:=⟨_,rfl⟩
  have hg:(l.map TR.v).getD i (.tup [])=vls p.1 p.2:=by rw[aO TR.v l i hlt,hpq];rfl
  have hdr:aK (l.drop i)=p.2::aK (l.drop (i+1)):=by rw[List.drop_eq_getElem_cons hlt,hpq];rfl
  rw[hdr,pM] at hto
  by_cases hlong:50<p.2.length
  ·have cl:decide ((50:Int)<(p.2.length:Int))=true:=dct
   rw[if_pos hlong] at hto
   refine aue (e8 hc hw hg hlt (@jK TR V) (@jK Vl V) jG cl) ?_
   rw[←hQ]
   refine au ?_
   refine aD h' (lef hd hle) ⟨?_,rfl⟩
   simp only[hto,go_sem,reduceIte,jA,jB,jC,jD,reduceCtorEq,jE,jF]
  have cl:decide ((50:Int)<(p.2.length:Int))=false:=dcf
  rw[if_neg hlong] at hto
  refine aue (e8 hc hw hg hlt (@jK TR V) (@jK Vl V) jG cl) ?_
  refine aY (fun q:Nat×Int=>aC 32 0 [(3, .int .i64 q.2),(8,tps o l),(9, .int .i64 l.length),(10, .int .i64 i),(17,vls p.1 p.2),(18, .int .i64 p.2.length),(19, .int .i64 q.1)]) (fun q hp nx2=>q.1≤p.2.length∧nx≤nx2∧aX hp nx2∧Hp.same nx h' hp∧tU n p.2=tU q.2 (p.2.drop q.1)) (fun q=>p.2.length-q.1) (0,n) ⟨Nat.zero_le _,hnx,hdm,hsm,rfl⟩ (by simp only[WkL,aC,jH,jI,jJ,go_sem,reduceIte,jA,jB,jC,jD,reduceCtorEq,jE,jF]) ?_
  rintro⟨j,m⟩ hp2 nx2 ⟨hj,hnx2,hdm2,hsm2,hto2⟩
  generalize hQ2:bU _ _ _ _ _=Q2
  dsimp only at hj hto2
  simp only[aC,go_sem,reduceIte,jA,jB,jC,jD,reduceCtorEq,jE,jF]
  have hle2:=hsm2.le hd (Hp.le_refl _)
  rcases Nat.lt_or_ge j p.2.length with hlj|hgj
  ·have hcj:decide ((j:Int)<(p.2.length:Int))=true:=dct
   have hwj:IntKind.i64.wrap ((j:Int)+1)=((j+1:Nat):Int):=wrp
   have hgj:(p.2.map Vl.v).getD j (.tup [])= .agg [.int .i64 p.2[j].k, .int .i64 p.2[j].n, .str p.2[j].s]:=aO Vl.v p.2 j hlj
   rw[List.drop_eq_getElem_cons hlj,tU] at hto2
   cases cb:decide (2000<IntKind.i64.wrap (m+(p.2[j].s.size:Int))) with
   |true=>
    rw[if_pos (of_decide_eq_true cb)] at hto2
    rw[hto2] at hto
    refine aue (e7 hcj hwj hgj hlj (@jK Vl V) jG cb) ?_
    rw[←hQ2,←hQ]
    refine au ?_
    refine aD h' (lef hd hle2) ⟨?_,rfl⟩
    simp only[hto,go_sem,reduceIte,jA,jB,jC,jD,reduceCtorEq,jE,jF]
   |false=>
    rw[if_neg (of_decide_eq_false cb)] at hto2
    refine aue (e7 hcj hwj hgj hlj (@jK Vl V) jG cb) ?_
    rw[←hQ2]
    exact aM (j+1,_) (by dsimp only;omega) ⟨hlj,by omega,dmo hdm2,kep hsm2,hto2⟩ (by simp only[WkL,aC,jH,jI,jJ,hwj,go_sem,reduceIte,jA,jB,jC,jD,reduceCtorEq,jE,jF])
  have hcj:decide ((j:Int)<(p.2.length:Int))=false:=dcf
  rw[List.drop_of_length_le hgj,tU] at hto2
  rw[hto2] at hto
  dsimp only at hto
  refine aue hcj ?_
  rw[←hQ2]
  clear hQ2 Q2
  refine aue hw ?_
  rw[←hQ]
  exact aM (i+1,m) (by dsimp only;omega) ⟨hlt,by omega,hdm2,hsm2,hto⟩ (by simp only[WkL,aC,jH,jI,jJ,hw,go_sem,reduceIte,jA,jB,jC,jD,reduceCtorEq,jE,jF])
 have hc:decide ((i:Int)<(l.length:Int))=false:=dcf
 rw[List.drop_of_length_le hge] at hto
 refine aue hc ?_
 rw[←hQ]
 refine au ?_
 refine aD h' (lef hd hle) ⟨?_,rfl⟩
 rw[hto];rfl
def vY(l:List (List Vl)):Bool:=decide (60<l.length)||pM 0 l
theorem xU(o:Own)(l:List TR)(h:Hp):bH Tryz.prog 10 [tps o l] h (.bool (vY (aK l))):=by
 refine aT (fun L=>trivial) fun h' nx hh=>aF L.corollarylaw03_Large_low fun hd=>?_
 simp only[jL,jM,jA,jB,jN,jO,jP,jQ,V.undef]
 have hrl:(aK l).length=l.length:=jK ..
 unfold vY
 rw[hrl]
 by_cases h1:60<l.length
 ·have c1:decide ((60:Int)<(l.length:Int))=true:=dct
  refine aue (e2 c1 (@jK TR V)) ?_
  refine aD h' (leo hd) ⟨?_,rfl⟩
  simp only[h1,decide_true,Bool.true_or,go_sem,reduceIte,jA,jB,jC,jD,reduceCtorEq,jE,jF]
 have c1:decide ((60:Int)<(l.length:Int))=false:=dcf
 have C1:=fun h=>aBr o l (by omega) h
 refine aue (e2 c1 (@jK TR V)) ?_
 refine aD h' (leo hd) ⟨?_,rfl⟩
 simp only[h1,decide_false,Bool.false_or,go_sem,reduceIte,jA,jB,jC,jD,reduceCtorEq,jE,jF]
def dH(n:Int):Vl:=⟨1,n,⟨#[]⟩⟩
theorem fR(a b:Int)(h:Hp):bH Tryz.prog 52 [.int .i64 a, .int .i64 b] h (vls .free [dH a,dH b]):=by
 refine iC (fun L=>kZ _ (by simp) L) fun h' nx hh=>aF L.corollarylaw16_alive_1_low fun hd=>?_
 simp only[jL,jM,jA,jB,jN,jO,jP,jQ,V.undef]
 refine au ?_
 refine aD _ (Hp.le_refl _) ⟨?_,leo hd⟩
 simp only[go_sem,reduceIte,jA,jB,jC,jD,reduceCtorEq,jE,jF]
 rfl
theorem aDO:bE 1 1 [[dH 1,dH 5],[dH 1,dH 6],[dH 2,dH 5]]=([[dH 1,dH 2],[dH 2,dH 1]],0):=by kernel_rfl
theorem wN(h:Hp):bH Tryz.prog 9 [] h (.bool true):=by
 refine aT (fun L=>trivial) fun h' nx hh=>aF L.corollarylaw16_alive_low fun hd=>?_
 simp only[jL,jM,jA,jB,jN,jO,jP,jQ,V.undef]
 refine au ?_
 refine dB rfl (fR 1 5 _) rfl (aV _) ?_
 simp only[go_sem,reduceIte,jA,jB,jC,jD,reduceCtorEq,jE,jF]
 refine au ?_
 refine dB rfl (fR 1 6 _) rfl (aV _) ?_
 simp only[go_sem,reduceIte,jA,jB,jC,jD,reduceCtorEq,jE,jF]
 refine au ?_
 refine dB rfl (fR 2 5 _) rfl (aV _) ?_
 simp only[go_sem,reduceIte,jA,jB,jC,jD,reduceCtorEq,jE,jF]
 have f1:∀a b,V.fits .leaf (vls .free [dH a,dH b])=true:=fun a b=>rfl
 refine aue f1 ?_
 refine bD ((pN 1 1 _ [(.free,[dH 1,dH 5]),(.free,[dH 1,dH 6]),(.free,[dH 2,dH 5])] (by simp) (by simp[TR.ok]) _ _).mono ?_)
 rintro v h2 nx2 hnx2 ⟨zs,rfl,hz,hok,rfl⟩
 have hG:bE 1 1 (aK [((.free,[dH 1,dH 5]):TR),(.free,[dH 1,dH 6]),(.free,[dH 2,dH 5])])=([[dH 1,dH 2],[dH 2,dH 1]],0):=aDO
 rw[hG] at hz⊢
 dsimp only at hz hnx2⊢
 have hzn:zs≠ []:=fun e=>by rw[e] at hz;cases hz
 rw[vR zs hzn,aCI]
 unfold dK
 simp only[go_sem,reduceIte,jA,jB,jC,jD,reduceCtorEq,jE,jF]
 refine au ?_
 refine dB rfl (fR 1 2 _) rfl (aV _) ?_
 simp only[go_sem,reduceIte,jA,jB,jC,jD,reduceCtorEq,jE,jF]
 refine au ?_
 refine dB rfl (fR 2 1 _) rfl (aV _) ?_
 simp only[go_sem,reduceIte,jA,jB,jC,jD,reduceCtorEq,jE,jF]
 have hzl:∀p∈zs,p.2.length≤1000000000:=fun p hp=>by
  have:p.2∈aK zs:=List.mem_map.2 ⟨p,hp,rfl⟩
  rw[hz] at this
  simp only[List.mem_cons,List.not_mem_nil,or_false] at this
  rcases this with e|e<;>rw[e]<;>simp
 have hzc:zs.length≤1000000000:=by
  have:=congrArg List.length hz
  simp at this;omega
 have C1:=fun h=>kJ .free (.tok nx2) zs [((.free,[dH 1,dH 2]):TR),(.free,[dH 2,dH 1])] hzc hzl h
 have hd2:decide (aK zs=aK [((.free,[dH 1,dH 2]):TR),(.free,[dH 2,dH 1])])=true:=decide_eq_true hz
 rw[hd2] at C1
 refine aue f1 ?_
 exact aD h' (leo hd) ⟨rfl,rfl⟩
theorem wD{a b:List Vl}:∀(i:Nat),a.take i=b.take i→i≤a.length→i≤b.length→bS a b=bS (a.drop i) (b.drop i):=fun i h h1 h2=>by
 conv=>lhs;rw[←List.take_append_drop i a,←List.take_append_drop i b,←h]
 clear h h1 h2
 induction a.take i with
 |nil=>rfl
 |cons x l ih=>
  simp only[jP,bS,cN,orC,c3V.self,if_true]
  exact ih
theorem mJ(o1 o2:Own)(a b:List Vl)(ha:a.length≤1000000000)(h:Hp):bH Tryz.prog 121 [vls o1 a,vls o2 b] h (.bool (jU a b)):=by
 refine aT (fun L=>trivial) fun h' nx hh=>aF L.corollaryref02_Less_low fun hd=>?_
 simp only[jL,jM,jA,jB,jN,jO,jP,jQ,V.undef]
 refine au ?_
 refine aY (fun i:Nat=>aC 41 0 [(0,vls o1 a),(1,vls o2 b),(5, .int .i64 i)]) (fun i hp nx1=>i≤a.length∧i≤b.length∧nx≤nx1∧aX hp nx1∧Hp.same nx h' hp∧a.take i=b.take i) (fun i=>a.length-i) 0 ⟨Nat.zero_le _,Nat.zero_le _,Nat.le_refl _,hd,Hp.same.rfl',rfl⟩ (by simp only[WkL,aC,jH,jI,jJ,go_sem,reduceIte,jA,jB,jC,jD,reduceCtorEq,jE,jF]) ?_
 rintro i hp nx1 ⟨hi,hib,hnx,hdm,hsm,htk⟩
 generalize hQ:bU _ _ _ _ _=Q0
 simp only[aC,go_sem,reduceIte,jA,jB,jC,jD,reduceCtorEq,jE,jF]
 have hle:=hsm.le hd (Hp.le_refl _)
 have hcm:=wD i htk hi hib
 rcases Nat.lt_or_ge i a.length with hlt|hge
 ·have hc:decide ((i:Int)<(a.length:Int))=true:=dct
  have hw:IntKind.i64.wrap ((i:Int)+1)=((i+1:Nat):Int):=wrp
  rcases Nat.lt_or_ge i b.length with hlb|hgb
  ·have hc2:decide ((i:Int)<(b.length:Int))=true:=dct
   have hg:=aO Vl.v a i hlt
   have hg2:=aO Vl.v b i hlb
   have hv:=vF a[i] b[i]
   have E:=e11 hc hc2 hw hg hg2 hv hlt hlb (@jK Vl V) jG Vl.fits_v
   cases he:decide (a[i]=b[i]) with
   |true=>
    have he':a[i]=b[i]:=of_decide_eq_true he
    refine aue (e4 E he Bool.not_true Bool.not_false) ?_
    rw[←hQ]
    exact aM (i+1) (by omega) ⟨hlt,hlb,by omega,dmo hdm,kep hsm,by rw[List.take_succ_eq_append_getElem hlt,List.take_succ_eq_append_getElem hlb,htk,he']⟩ (by simp only[WkL,aC,jH,jI,jJ,hw,go_sem,reduceIte,jA,jB,jC,jD,reduceCtorEq,jE,jF])
   |false=>
    have he':a[i]≠b[i]:=of_decide_eq_false he
    have D1:=fun h=>kC a[i] b[i] h
    refine aue (e4 E he Bool.not_true Bool.not_false) ?_
    rw[←hQ]
    refine au ?_
    refine aD h' (lef hd hle) ⟨?_,rfl⟩
    have:jU a b=rF a[i] b[i]:=by
     unfold jU rF
     rw[hcm,List.drop_eq_getElem_cons hlt,List.drop_eq_getElem_cons hlb]
     simp only[bS,cN,orC,if_neg (fun e=>he' ((c3V.eq _ _).1 e))]
    simp only[this,go_sem,reduceIte,jA,jB,jC,jD,reduceCtorEq,jE,jF]
  have hc2:decide ((i:Int)<(b.length:Int))=false:=dcf
  have hl2:decide ((a.length:Int)<(b.length:Int))=false:=dcf
  refine aue (e4 hc hc2 (@jK Vl V) hl2) ?_
  rw[←hQ]
  refine aue (e2 (@jK Vl V) hl2) ?_
  refine aD h' (lef hd hle) ⟨?_,rfl⟩
  have:jU a b=false:=by
   unfold jU
   rw[hcm,List.drop_eq_getElem_cons hlt,List.drop_of_length_le hgb]
   rfl
  simp only[this,go_sem,reduceIte,jA,jB,jC,jD,reduceCtorEq,jE,jF]
 have hc:decide ((i:Int)<(a.length:Int))=false:=dcf
 have hia:i=a.length:=by omega
 have:jU a b=decide ((a.length:Int)<(b.length:Int)):=by
  unfold jU
  rw[hcm,hia,List.drop_length]
  rcases Nat.lt_or_ge a.length b.length with k|k
  ·rw[List.drop_eq_getElem_cons k,decide_eq_true (by omega:(a.length:Int)<b.length)];rfl
  rw[List.drop_of_length_le k,decide_eq_false (by omega:¬(a.length:Int)<b.length)];rfl
 refine aue hc ?_
 rw[←hQ]
 refine aue (@jK Vl V) ?_
 refine aD h' (lef hd hle) ⟨?_,rfl⟩
 simp only[this,go_sem,reduceIte,jA,jB,jC,jD,reduceCtorEq,jE,jF]
end Go.Proofs.YtemjhgboialjpaaGreat
