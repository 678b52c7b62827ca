/-
Texts of this proof,one behind the other. No conditions.
-/
import Derived.Test.YtjfdoohogiojcaaGreatDoorKd
import Derived.Test.YtjfdoohogiojcaaGreatDoorKm
open List renaming map_append→Ka,getD_eq_getElem?_getD→Kb,take_succ_eq_append_getElem→Kc,take_of_length_le→Kd,map_nil→Ke,map_cons→Kg,length_filter_le→Kh,take_append_of_le_length→Ki,getElem?_eq_getElem→Kj,drop_zero→Kk,length_eraseIdx→Km,filter_append→Ko,mem_singleton→Kp,getElem_mem→Kq,length_take→Ks,mem_filter→Kt,append_nil→Ku,mem_append→Kv,mem_map→Ky
open Nat renaming le_refl→Kf,lt_or_ge→Kw,le_trans→Kx,zero_le→Kz
open Nat renaming reduceAdd→jA,reduceSub→jB,reduceLT→jC,reduceLeDiff→jD,reduceEqDiff→jE
open Int renaming reduceToNat→jF,toNat_natCast→jG,natCast_add→jH,natCast_one→jI,natCast_zero→jJ
open List renaming length_map→jK,length_cons→jL,length_nil→jM,replicate_succ→jN,replicate_zero→jO,cons_append→jP,nil_append→jQ
set_option linter.unusedSimpArgs false
set_option linter.unusedVariables false
set_option linter.unusedSectionVars false
set_option maxHeartbeats 8000000
namespace Go.Proofs.YtjfdoohogiojcaaGreatDoor
open Go.RowKit Go.Sort
attribute [local irreducible] IntKind.wrap
def iB(c:Nat)(k:List Vl)(l:List TR):List TR:=l.filter fun p=> !decide (bC c p.2=k)
theorem xI(c:Nat)(k:List Vl)(l:List TR):aS (iB c k l)=sC c k (aS l):=by
 simp only[aS,iB,sC,List.filter_map,Function.comp_def]
theorem Acc.lt{h:Hp}{n0 nx:Nat}{o:Own}{es:List V}(a:Acc h n0 o es)(hd:aW h nx)(id:Nat)(e:o= .tok id):id<nx:=by
 rcases a with⟨_,h1⟩|⟨_,id',_,h4,h5⟩
 ·rw[h1] at e;cases e
 rw[h4] at e;injection e with e;subst e;exact hd _ _ h5
theorem Acc.app{h:Hp}{n0 nx:Nat}{o o':Own}{es:List V}(a:Acc h n0 o es)(hd:aW h nx)(hne:∀id,o'= .tok id→o≠ .tok id):Acc (((h.set nx .tip).aBW o').set (nx+1) .tip) n0 o es:=
 Acc.set (Acc.aBW (Acc.set a (hd.aFp (Kf _)) _) hne) (aW.aFp (aW.aBW (aW.set hd (Nat.lt_succ_self _) (Nat.le_succ _) _) o') (Kf _)) _
set_option maxHeartbeats 2000000 in
theorem s9(o:Own)(l:List TR)(hl:l.length≤1000000)(c:Nat)(aBH:∀p∈l,p.1≠ .nil∧c<p.2.length∧p.2.length≤1000000)(k:List Vl)(v2:V)(h:Hp)(hv:Rd h v2 k)(hn:∀p∈l,p.ok):
 aO Tryz.prog 32 [tps o l, .int .i64 c,v2] h (.tup [lst (.agg 3) ((iA c k (aS l)).map Vl.v),lst .leaf ((iB c k l).map TR.v)]):=by
 have hnm:∀L,bM L ((iB c k l).map TR.v):=fun L=>by
  have:∀p∈iB c k l,p.ok:=fun p hp=>hn p (Kt.1 hp).1;revert this;generalize iB c k l=l2;induction l2 with
  |nil=>exact fun _=>trivial
  |cons x xs ih=>exact fun q=>⟨TR.names (q x Zm) L,ih fun y hy=>q y (by simp[hy])⟩
 refine cB (fun L=>⟨gS (fun L=>cN (fun x=>Vl.aAI L x) _) L,gS hnm L,trivial⟩) fun h' nx hh=>aB L.aTa fun hd=>?_;simp only[jL,jM,jA,jB,jN,jO,jP,jQ,V.undef];have hml:(l.map TR.v).length=l.length:=jK ..;refine aue hml ?_
 refine aT (fun q:Nat×Own×Own=>aD 36 0 [(0,tps o l),(1, .int .i64 c),(2,v2),(6,vls q.2.1 (iA c k (aS (l.take q.1)))),(7,tps q.2.2 (iB c k (l.take q.1))),(10,tps o l),(11, .int .i64 l.length),(12, .int .i64 q.1)])
  (fun q hp nx1=>q.1≤l.length∧nx≤nx1∧aW hp nx1∧Hp.same nx h' hp∧Acc hp nx q.2.1 ((iA c k (aS (l.take q.1))).map Vl.v)∧Acc hp nx q.2.2 ((iB c k (l.take q.1)).map TR.v)∧∀id,q.2.1= .tok id→q.2.2≠ .tok id)
  (fun q=>l.length-q.1) (0, .nil, .nil) ⟨Kz _,Kf _,hd,Hp.same.aAt,Acc.nil,Acc.nil,fun id e=>by cases e⟩ (by simp only[WkL,aD,jH,jI,jJ,vls,tps,aS,List.take_zero,iB,iA,List.filter_nil,Ke,go_sem,reduceIte,jA,jB,jC,jD,reduceCtorEq,jE,jF]) ?_
 rintro⟨i,o1,o2⟩ hp nx1 ⟨hi,hnx,hdm,hsm,ha1,ha2,hne⟩;generalize hQ:bB _ _ _ _ _=Q0;dsimp only at hi ha1 ha2 hne;simp only[aD,go_sem,reduceIte,jA,jB,jC,jD,reduceCtorEq,jE,jF];rcases Kw i l.length with hlt|hge
 ·have hc:decide ((i:Int)<(l.length:Int))=true:=dct;obtain⟨p,hpq⟩:∃p,l[i]=p:=⟨_,rfl⟩;have hpm:p∈l:=hpq▸Kq _;obtain⟨r1,r2,r3⟩:=aBH p hpm;have hg:(l.map TR.v).getD i (.tup [])=vls p.1 p.2:=by rw[aR TR.v l i hlt,hpq];rfl
  have hw:IntKind.i64.wrap ((i:Int)+1)=((i+1:Nat):Int):=wrp;have C1:=fun h=>dj p.1 p.2 r3 r1 c r2 h;have hhp:Hp.has h hp:=fun m b e q=>by rw[hsm m (hd _ _ (hh _ _ e q))];exact hh m b e q
  have C5:=(tJ .free (bC c p.2) k (by simp only[bC,Km];split<;>omega) v2 h hv).mono hhp;have hto:iA c k (aS (l.take (i+1)))=iA c k (aS (l.take i))++if bC c p.2=k then [p.2.getD c eD] else []:=by
   rw[Kc hlt,hpq];simp only[aS,iA,Ka,Ko,Kg,Ke];congr 1;by_cases e:bC c p.2=k<;>simp[e]
  have htm:iB c k (l.take (i+1))=iB c k (l.take i)++if bC c p.2=k then [] else [p]:=by
   rw[Kc hlt,hpq];simp only[iB,Ko];congr 1;by_cases e:bC c p.2=k<;>simp[e]
  by_cases hk:bC c p.2=k
  ·have h0:bK (bC c p.2) k=0:=(c3T.eq _ _).2 hk;rw[h0] at C5;have hz:((0:Int)==0)=true:=rfl;have hg2:(p.2.map Vl.v).getD c (.tup [])=(p.2.getD c eD).v:=by
    rw[aR Vl.v p.2 c r2,Kb,Kj r2];rfl
   rw[if_pos hk] at hto htm;rw[Ku] at htm;have aAP:=ha1;have hcap:(iA c k (aS (l.take i))).length≤1000000:=by
    have:(iA c k (aS (l.take i))).length≤(l.take i).length:=by
     simp only[iA,aS,jK];exact Kx (Kh _ _) Zm
    rw[Ks] at this;omega
   refine aue (e10 hc hml hg hlt hz hg2 r2 (@jK Vl V) jG Vl.aAA) ?_;rw[←hQ];refine aH (i+1, .tok (nx1+1),o2) Zw ⟨hlt,or,dmo hdm,vZ hsm ha1,?_,?_,?_⟩ (by simp only[WkL,aD,jH,jI,jJ,vls,tps,hw,hto,htm,Ka,Kg,Ke,go_sem,reduceIte,jA,jB,jC,jD,reduceCtorEq,jE,jF])
   ·dsimp only;rw[hto,Ka];exact Acc.new _ Zm or
   ·dsimp only;rw[htm];exact ha2.app hdm hne
   rintro id e e2;injection e with e;have:=ha2.lt hdm id e2;omega
  have h0:bK (bC c p.2) k≠0:=fun e=>hk ((c3T.eq _ _).1 e);have hz:(bK (bC c p.2) k==0)=false:=by simpa using h0
  rw[if_neg hk] at hto htm;rw[Ku] at hto;have aAP:=ha2;have hcap:(iB c k (l.take i)).length≤1000000:=by
   have:(iB c k (l.take i)).length≤(l.take i).length:=Kh _ _;rw[Ks] at this;omega
  have hfl:V.fits .leaf (vls p.1 p.2)=true:=rfl;refine aue (e8 hc hml hg hlt hz hfl (@jK TR V) jG) ?_;rw[←hQ];refine aH (i+1,o1, .tok (nx1+1)) Zw ⟨hlt,or,dmo hdm,vZ hsm ha2,?_,?_,?_⟩ (by simp only[WkL,aD,jH,jI,jJ,vls,tps,hw,hto,htm,Ka,Kg,Ke,TR.v,go_sem,reduceIte,jA,jB,jC,jD,reduceCtorEq,jE,jF])
  ·dsimp only;rw[hto];exact ha1.app hdm fun id e e2=>hne id e2 e
  ·dsimp only;rw[htm,Ka];exact Acc.new _ Zm or
  rintro id e e2;injection e2 with e2;have:=ha1.lt hdm id e;omega
 have hc:decide ((i:Int)<(l.length:Int))=false:=dcf;have hil:l.take i=l:=Kd or;rw[hil] at ha1 ha2;rw[hil];refine aue hc ?_;rw[←hQ];refine au ?_;refine aU hp (Hp.le_refl _) ⟨?_,hsm.le hd (Hp.le_refl _)⟩;refine Zn ?_;show V.tup [(V.sl (.agg 3) o1 _).loose,(V.sl .leaf o2 _).loose]=_;rw[ha1.loose,ha2.loose];rfl
theorem Ah(c:Nat)(t:List Vl)(hc:c<t.length)(v:Vl):(bC c t).take c++[v]++(bC c t).drop c=t.set c v:=by
 have hl:(t.take c).length=c:=by simp;omega
 rw[bC,List.eraseIdx_eq_take_drop_succ,List.take_left' hl,List.drop_left' hl,List.set_eq_take_append_cons_drop,if_pos hc,List.append_assoc];rfl
theorem ul(n m:Nat)(c:Nat)(t:List Vl)(hc:c<t.length)(hl:t.length≤1000000)(x:Vl)(h:Hp)(nx:Nat)(hn:h n=some (.arr (.agg 3) ((bC c t).map Vl.v++[zvl])))(hm:h m=some (.arr (.agg 3) [x.v]))(hnm:m≠n):
 aX Tryz.prog 34 [.rs n (.agg 3) 0 (bC c t).length, .int .i64 c, .rs m (.agg 3) 0 1] h nx fun v h' _=>v=vls .free (t.set c x)∧h'=h.del n:=by
 have hkl:(bC c t).length=t.length-1:=by simp[bC,Km,hc]
 have hel:((bC c t).map Vl.v++[zvl]).length=t.length:=by simp;omega
 have c1:=fp n m ((bC c t).map Vl.v++[zvl]) x.v c h nx hn hm hnm or or;rw[hel,←hkl] at c1;refine(tC (n:=n) (k:= .agg 3) (G:=fun es=>es=(t.set c x).map Vl.v) (c1.mono ?_)).mono ?_
 ·rintro v h' nx' _ ⟨rfl,rfl⟩;have hlen:((bC c t).map Vl.v).length=t.length-1:=by simp[hkl]
  have he:((bC c t).map Vl.v++[zvl]).take c++[x.v]++(((bC c t).map Vl.v++[zvl]).drop c).take (t.length-1-c)=(t.set c x).map Vl.v:=by
   rw[←Ah c t hc x,Ka,Ka,List.map_take,List.map_drop,Kg,Ke,Ki or,List.drop_append_of_le_length or];congr 1;rw[Ki (by simp;omega),Kd (by simp;omega)]
  rw[hkl];refine⟨0,t.length,_,rfl,?_,rfl,?_⟩
  ·rw[he];simp
  rw[he,Kk];exact Kd Zm
 rintro v h' nx' _ ⟨es,rfl,rfl,rfl⟩;exact⟨rfl,rfl⟩
def zq(g col:Int)(rows:List (List Vl))(h:Hp)(v:V)(h':Hp):Prop:=∃zs:List TR,v= .tup [lst .leaf (zs.map TR.v),gY (bP g col rows).2]∧aS zs=(bP g col rows).1∧(∀z∈zs,z.ok)∧h'=h
theorem gN{g col:Int}{rows:List (List Vl)}{h:Hp}{n:Int}(hg:bP g col rows=([],n)):zq g col rows h (.tup [.sl .leaf .nil [],gY n]) h:=⟨[],by rw[hg];rfl,by rw[hg];rfl,Zm,rfl⟩
theorem zj{h:Hp}{n:Nat}{b:Blk}(e:h n=some b):h.set n b=h:=by
 funext x;unfold Hp.set;split
 ·rename_i q;rw[q,e]
 rfl
theorem wF(l:List TR)(h:l≠ []):lst .leaf (l.map TR.v)= .sl .leaf .free (l.map TR.v):=by
 cases l with
 |nil=>exact absurd rfl h
 |cons a b=>rfl
set_option maxRecDepth 100000 in
set_option maxHeartbeats 4000000 in
theorem vO(g col:Int)(o:Own)(l:List TR)(hl:l.length≤100000)(aBH:∀p∈l,p.2.length≤1000∧p.ok)(h':Hp)(nx:Nat):aX Tryz.prog 16 [.int .i64 g, .int .i64 col,tps o l] h' nx fun v h'' _=>zq g col (aS l) h' v h'':=by
 refine aB L.aTs fun hd=>?_;simp only[jL,jM,jA,jB,jN,jO,jP,jQ,V.undef];by_cases h1:g<0
 ·have c1:decide (g<0)=true:=dct;refine aue c1 ?_;refine aU h' (leo hd) ?_;refine Zn ?_;exact gN (by unfold bP;rw[if_pos (.inl h1)])
 have c1:decide (g<0)=false:=dcf;by_cases h2:4<g
 ·have c2:decide (4<g)=true:=dct;refine aue (e2 c1 c2) ?_;refine aU h' (leo hd) ?_;refine Zn ?_;exact gN (by unfold bP;rw[if_pos (.inr h2)])
 have c2:decide (4<g)=false:=dcf;refine aue (e2 c1 c2) ?_;refine bG ((mW o l or (fun p hp=>⟨by have:=(aBH p hp).1;omega,(aBH p hp).2⟩) _ _).dom.mono ?_);rintro v h2 nx2 aEq ⟨⟨zs,hzr,hzl,hv⟩,hd2,_⟩;unfold dF;refine Zn ?_;have hz0:zs=[]→l=[]:=fun e=>by
  subst e;have:=(rV c3T _).1 hzr.symm;simpa using this
 have aQ4:zs.length≤l.length:=by
  have:=dV (c:=bK) (aS l);rw[←hzr] at this;simpa using this
 have aEg:¬(g<0∨4<g):=or;rcases hv with⟨rfl,rfl,rfl⟩|⟨hzn,id,es,hid,rfl,hze,rfl,htk⟩
 ·--nothing
  dsimp only at hd2 aEq⊢;have hln:=hz0 rfl;subst hln;have hgv:bP g col (aS [])=([],0):=by
   unfold bP;rw[if_neg aEg,if_neg (fun k=>k.2 Zm)];split<;>rfl
  have cz:decide ((0:Int)<0)=false:=ZM;refine aue (e2 cz jJ) ?_;refine aT (fun _:Unit=>aD 90 0 [(0, .int .i64 g),(1, .int .i64 col),(8, .sl .leaf .nil []),(26, .sl .leaf .nil []),(27, .int .i64 0),(28, .int .i64 0)]) (fun _ hp _=>hp=h2) (fun _=>0) () rfl (by simp only[WkL,aD,jH,jI,jJ,go_sem,reduceIte,jA,jB,jC,jD,reduceCtorEq,jE,jF]) ?_;rintro _ hp nx1 rfl;generalize hQ:bB _ _ _ _ _=Q0;simp only[aD,go_sem,reduceIte,jA,jB,jC,jD,reduceCtorEq,jE,jF];refine aue cz ?_;rw[←hQ];cases c0:(g==0) with
  |true=>
   refine aue c0 ?_;refine aU hp (Hp.le_refl _) ?_;refine Zn ?_;exact gN hgv
  |false=>
   refine aue c0 ?_;refine aT (fun _:Unit=>aD 90 0 [(8, .sl .leaf .nil []),(11, .sl .leaf .nil [])]) (fun _ hp2 _=>hp2=hp) (fun _=>0) () rfl (by simp only[WkL,aD,jH,jI,jJ,go_sem,reduceIte,jA,jB,jC,jD,reduceCtorEq,jE,jF]) ?_;rintro _ hp2 nx1 rfl;generalize hQ2:bB _ _ _ _ _=Q2;simp only[aD,go_sem,reduceIte,jA,jB,jC,jD,reduceCtorEq,jE,jF];refine aue (e2 cz jJ) ?_;rw[←hQ2];refine au ?_;refine bG ((mW .nil [] Zm Zm _ _).mono ?_);rintro v h3 nx3 _ ⟨zs,hzr,hzl,hv⟩;have hzn:zs=[]:=by
    cases zs with
    |nil=>rfl
    |cons z _=>exact absurd (hzl z Zm) Zm
   subst hzn;rcases hv with⟨_,rfl,rfl⟩|⟨k,_⟩
   ·unfold dF;refine Zn ?_;refine au ?_;refine aU h3 (Hp.le_refl _) ?_;refine Zn ?_;exact gN hgv
   exact absurd rfl k
 --rows
 dsimp only at hid hd2 aEq⊢;have aKe:id<nx2:=hd2 id (.arr .leaf es) (by simp[Hp.set]);have hrz:∀p∈zs,p.2.length≤1000∧p.ok:=fun p hp=>aBH p (hzl p hp);have aQZ:∀i,(hi:i<zs.length)→es.getD i (.tup [])=vls zs[i].1 zs[i].2:=fun i hi=>by
  have e1:es.getD i (.tup [])=(es.take zs.length).getD i (.tup []):=by rw[Kb,Kb,List.getElem?_take_of_lt hi]
  rw[e1,htk,aR TR.v zs i hi];rfl
 refine au ?_
 refine aT (fun i:Nat=>aD 90 0 [(0, .int .i64 g),(1, .int .i64 col),(8, .rs id .leaf 0 zs.length),(26, .rs id .leaf 0 zs.length),(27, .int .i64 zs.length),(28, .int .i64 i)])
  (fun i hp nx1=>i≤zs.length∧nx2≤nx1∧hp=h'.set id (.arr .leaf es)∧(0<g→∀p∈zs.take i,0≤col∧col<p.2.length)) (fun i=>zs.length-i) 0 ⟨Kz _,Kf _,rfl,Zm⟩ (by simp only[WkL,aD,jH,jI,jJ,go_sem,reduceIte,jA,jB,jC,jD,reduceCtorEq,jE,jF]) ?_
 rintro i hp nx1 ⟨hi,hnx,rfl,aAe⟩;generalize hQ:bB _ _ _ _ _=Q0;simp only[aD,go_sem,reduceIte,jA,jB,jC,jD,reduceCtorEq,jE,jF];obtain⟨H,hH⟩:∃H,H=h'.set id (.arr .leaf es):=⟨_,rfl⟩;have hHi:H id=some (.arr .leaf es):=by rw[hH];simp[Hp.set]
 have aKj:h'.le H:=by rw[hH];exact gM (Hp.le_refl _) (aW.none hd hid) _
 rw[←hH];have hni:id<nx1:=or;rcases Kw i zs.length with hlt|hge
 ·have hc:decide ((i:Int)<(zs.length:Int))=true:=dct;have hw:IntKind.i64.wrap ((i:Int)+1)=((i+1:Nat):Int):=wrp;obtain⟨p,hpq⟩:∃p,zs[i]=p:=⟨_,rfl⟩;have hpm:p∈zs:=hpq▸Kq _;have hg:=aQZ i hlt;rw[hpq] at hg;have hie:i<es.length:=or;have hpl:(p.2.map Vl.v).length=p.2.length:=jK ..;have C1:=fun h=>u9 p (by have:=(hrz p hpm).1;omega) (hrz p hpm).2 h;have hpv:TR.v p= .sl (.agg 3) p.1 (p.2.map Vl.v):=rfl;have aDh:0<g→¬(0≤col∧col<p.2.length)→bP g col (aS l)=([],1):=fun hg0 hb=>by
   unfold bP;rw[if_neg aEg,if_pos ⟨hg0,fun k=>hb (k p.2 (Ky.2 ⟨p,hzl p hpm,rfl⟩))⟩]
  have aAO:H.set id (.arr .leaf (es.set i (TR.v p)))=H:=by
   have:es.set i (TR.v p)=es:=by
    apply List.ext_getElem
    ·simp
    intro j a b;rw[List.getElem_set];split
    ·rename_i e;subst e;have:=hg;rw[Kb,Kj hie] at this;exact this.symm
    rfl
   rw[this];exact zj hHi
  have hlf:(TR.v p).aAE=true:=rfl;have hsp:bQ .leaf 0 (vls p.1 p.2) (TR.v p)=TR.v p:=rfl;have aA9:(0<g→0≤col∧col<p.2.length)→0<g→∀q∈zs.take (i+1),0≤col∧col<q.2.length:=fun k hg0 q hq=>by
   rw[Kc hlt,hpq] at hq;rcases Kv.1 hq with hq|hq
   ·exact aAe hg0 q hq
   rw[Kp.1 hq];exact k hg0
  cases cg:decide (0<g) with
  |true=>
   have hg0:0<g:=of_decide_eq_true cg;by_cases k1:col<0
   ·have ck:decide (col<0)=true:=dct;refine aue (e7 hc hg cg ck hHi hni hie) ?_;rw[←hQ];refine au ?_;refine aU h' aKj ?_;refine Zn ?_;exact gN (aDh hg0 or)
   have ck:decide (col<0)=false:=dcf;by_cases k2:(p.2.length:Int)≤col
   ·have ck2:decide ((p.2.length:Int)≤col)=true:=dct;refine aue (e10 hc hg cg ck hHi hni hie ck2 hpl jG) ?_;rw[←hQ];refine au ?_;refine aU h' aKj ?_;refine Zn ?_;exact gN (aDh hg0 or)
   have ck2:decide ((p.2.length:Int)≤col)=false:=dcf;refine aue (e14 hc hg cg ck hHi hni hie ck2 hpl jG hw hlt hlf (e2 hsp aAO)) ?_;rw[←hQ];exact aH (i+1) or ⟨hlt,or,hH,aA9 fun _=>or⟩ (by simp only[WkL,aD,jH,jI,jJ,go_sem,reduceIte,jA,jB,jC,jD,reduceCtorEq,jE,jF])
  |false=>
   have hg0:¬0<g:=of_decide_eq_false cg;refine aue (e12 hc hg cg hHi hni hie hpl jG hw hlt hlf (e2 hsp aAO)) ?_;rw[←hQ];exact aH (i+1) or ⟨hlt,or,hH,aA9 fun k=>absurd k hg0⟩ (by simp only[WkL,aD,jH,jI,jJ,go_sem,reduceIte,jA,jB,jC,jD,reduceCtorEq,jE,jF])
 have hc:decide ((i:Int)<(zs.length:Int))=false:=dcf;have hil:zs.take i=zs:=Kd or;rw[hil] at aAe;have hHd:h'.le (H.del id):=kX aKj (aW.none hd hid);have hfz:(es.drop 0).take zs.length=zs.map TR.v:=by rw[Kk];exact htk
 cases c0:(g==0) with
 |true=>
  have hg0:g=0:=by simpa using c0
  have hgv:bP g col (aS l)=(aS zs,0):=by
   unfold bP;rw[if_neg aEg,if_neg (fun k=>or),if_pos hg0,hzr]
  refine aue hc ?_;rw[←hQ];refine au ?_;rw[c0];refine gq ?_;refine eO (fI ?_);refine fB 3 rfl (by simp only[go_sem,reduceIte,jA,jB,jC,jD,reduceCtorEq,jE,jF]) ?_;refine Zn ?_;refine iL (gQ (t:=6) (n:=id) (k:= .leaf) (off:=0) (len:=zs.length) (es:=es) rfl hHi or) ?_;rw[hfz];refine au ?_;refine aU h' hHd ?_;refine Zn ?_;exact⟨zs,by rw[hgv,wF zs hzn];rfl,by rw[hgv],fun z hz=>(hrz z hz).2,rfl⟩
 |false=>
 have hg0:0<g:=by have:g≠0:=by simpa using c0
                  omega
 have aUJ:0≤col:=by
  cases zs with
  |nil=>exact absurd rfl hzn
  |cons z _=>exact(aAe hg0 z Zm).1
 obtain⟨c,rfl⟩:∃c:Nat,col=c:=⟨col.toNat,or⟩;have hgv:bP g c (aS l)=lK g c [] (aS zs):=by
  unfold bP;rw[if_neg aEg,if_neg,if_neg or,hzr]
  ·rfl
  rintro⟨_,k⟩;refine k fun t ht=>?_;have h1:t∈aS zs:=by rw[hzr];exact((bR c3T _).2 t).2 ht
  obtain⟨p,hp,rfl⟩:=Ky.1 h1;exact aAe hg0 p hp
 have aQ3:∀p∈zs,p.1≠ .nil∧c<p.2.length∧p.2.length≤1000∧p.ok:=fun p hp=>by
  have h1:=(aAe hg0 p hp).2;have h2:=hrz p hp;refine⟨fun e=>?_,or,h2.1,h2.2⟩;rcases h2.2 with⟨_,h3⟩|h3
  ·rw[h3] at h1;simp at h1;omega
  rw[h3] at e;cases e
 refine aue hc ?_;rw[←hQ];refine aue c0 ?_;refine tT (gQ (t:=8) (n:=id) (k:= .leaf) (off:=0) (len:=zs.length) (es:=es) rfl hHi or) ?_;rw[hfz];have hdn:aW (H.del id) (nx1+1):=aW.up (aW.del (by rw[hH];exact hd2)) or;have hsn:Hp.same nx h' (H.del id):=fun m hm=>by
  rw[hH];simp only[Hp.aAL,Hp.aAn];rw[if_neg or,if_neg or]
 clear hQ Q0 hH hHi aKj hHd hfz aQZ htk hze;generalize H.del id=H1 at hdn hsn
 refine aT (fun q:List TR×Own×Own×List TR=>aD 90 0 [(0, .int .i64 g),(1, .int .i64 c),(8,tps q.2.1 q.1),(11,tps q.2.2.1 q.2.2.2)])
  (fun q hp nx1=>nx≤nx1∧aW hp nx1∧Hp.same nx h' hp∧Acc hp nx q.2.2.1 (q.2.2.2.map TR.v)∧lK g c [] (aS zs)=lK g c (aS q.2.2.2) (aS q.1)∧q.2.2.2.length+q.1.length≤zs.length∧
    (∀p∈q.1,p.1≠ .nil∧c<p.2.length∧p.2.length≤1000∧p.ok)∧∀p∈q.2.2.2,p.2.length≤1000∧p.ok)
  (fun q=>q.1.length) (zs, .free, .nil,[]) ⟨Zw,hdn,hsn,Acc.nil,rfl,Zm,aQ3,Zm⟩ (by simp only[WkL,aD,jH,jI,jJ,tps,Ke,go_sem,reduceIte,jA,jB,jC,jD,reduceCtorEq,jE,jF]) ?_
 clear hdn hsn H1 hc hil hge hi hnx hni i nx1;rintro⟨L,oL,oo,out⟩ hp nx1 ⟨hnx,hdm,hsm,aAP,hre,hlen,aFV,aHB⟩;generalize hQ:bB _ _ _ _ _=Q0;dsimp only at hnx aAP hre hlen aFV aHB;simp only[aD,go_sem,reduceIte,jA,jB,jC,jD,reduceCtorEq,jE,jF];cases L with
 |nil=>
  have cz:decide ((0:Int)<0)=false:=ZM;refine aue (e3 cz jJ tps.eq_1) ?_;rw[←hQ];refine au ?_;refine bG ((mW oo out (by simp at hlen;omega) (fun q hq=>⟨by have:=(aHB q hq).1;omega,(aHB q hq).2⟩) _ _).mono ?_);rintro v h3 nx3 _ ⟨ws,hwr,hwl,hv⟩;unfold dF;refine Zn ?_;have aBl:bP g c (aS l)=(aS ws,0):=by
   rw[hgv,hre,hwr];exact bo _ _ _
  have hle:=hsm.le hd (Hp.le_refl _);rcases hv with⟨rfl,rfl,rfl⟩|⟨hwn,wid,wes,aKw,rfl,hwe,rfl,hwt⟩
  ·refine au ?_;refine aU h' hle ?_;refine Zn ?_;exact⟨[],by rw[aBl];rfl,by rw[aBl],Zm,rfl⟩
  dsimp only at aKw;refine fB 2 rfl (by simp only[go_sem,reduceIte,jA,jB,jC,jD,reduceCtorEq,jE,jF]) ?_;refine Zn ?_;refine iL (gQ (t:=6) (n:=wid) (k:= .leaf) (off:=0) (len:=ws.length) (es:=wes) rfl (by simp[Hp.set]) or) ?_;rw[Kk,hwt];refine au ?_;refine aU h' (kX (gM hle (aW.none hd or) _) (aW.none hd or)) ?_;refine Zn ?_;exact⟨ws,by rw[aBl,wF ws hwn];rfl,by rw[aBl],fun z hz=>(aHB z (hwl z hz)).2,rfl⟩
 |cons p L=>
  obtain⟨M,hM⟩:∃M,M=p::L:=⟨_,rfl⟩;rw[←hM] at hre hlen aFV⊢;have hpm:p∈M:=by rw[hM];simp
  obtain⟨q1,q2,q3,q4⟩:=aFV p hpm;have hml:(M.map TR.v).length=M.length:=jK ..;have hmp:0<M.length:=by rw[hM];simp
  have hc:decide (0<(M.length:Int))=true:=dct;have hg0:(M.map TR.v).getD 0 (.tup [])=vls p.1 p.2:=by rw[hM];rfl
  refine aue (e4 hc hml hg0 hmp) ?_;refine bG ((qF p.1 p.2 or q1 c q2 _ _).dom.mono ?_);rintro v h2 nx3 aF2 ⟨⟨kid,aQW,rfl,rfl⟩,hd3,_⟩;dsimp only at aQW hd3 aF2;unfold dF;refine Zn ?_;obtain⟨H2,hH2⟩:∃H2,H2=hp.set kid (.arr (.agg 3) ((bC c p.2).map Vl.v++[zvl])):=⟨_,rfl⟩;rw[←hH2] at hd3⊢;have hk2:H2 kid=some (.arr (.agg 3) ((bC c p.2).map Vl.v++[zvl])):=by rw[hH2];simp[Hp.set]
  have hs2:Hp.same nx h' H2:=by rw[hH2];exact eT hsm or _
  have ha2:Acc H2 nx oo (out.map TR.v):=by rw[hH2];exact Acc.set aAP (hdm.aFp aQW) _
  have hkn:kid<nx3:=hd3 _ _ hk2;clear hH2;have hrl:(aS M).length=M.length:=jK ..;have C5:=s9 oL M or c (fun q hq=>⟨(aFV q hq).1,(aFV q hq).2.1,by have:=(aFV q hq).2.2.1;omega⟩) (bC c p.2) _ H2 (.inr ⟨kid,[zvl],rfl,hk2⟩) fun q hq=>(aFV q hq).2.2.2;obtain⟨ow,how⟩:∃ow,iA c (bC c p.2) (aS M)=ow:=⟨_,rfl⟩;have aQT:ow.length≤M.length:=by
   rw[←how,iA,jK];exact Kx (Kh _ _) (by rw[hrl];exact Kf _)
  obtain⟨oO,hoO⟩:=iR (.agg 3) (ow.map Vl.v);obtain⟨oM,hoM⟩:=iR .leaf ((iB c (bC c p.2) M).map TR.v);rw[how,hoO,hoM] at C5;have C1:=fun h=>uu g oO ow or h;obtain⟨x,n,hx⟩:∃x n,dD g ow=(x,n):=⟨_,_,rfl⟩;rw[hx] at C1;have hrM:aS M=p.2::aS L:=by rw[hM];rfl
  refine aue (e2 zy Vl.aAA) ?_;cases he:decide (n=0) with
  |false=>
   have hn0:n≠0:=of_decide_eq_false he;have aBl:bP g c (aS l)=([],n):=by
    rw[hgv,hre,hrM,bp]
    ·rw[←hrM,how,hx]
    rw[←hrM,how,hx];exact hn0
   refine gq ?_;rw[←hQ];refine au ?_;refine aU h' (lef hd (hs2.le hd (Hp.le_refl _))) ?_;refine Zn ?_;exact gN aBl
  |true=>
   have hn0:n=0:=of_decide_eq_true he;refine rq ?_;repeat (first|with_reducible refine eO ?_|with_reducible refine dY ?_|with_reducible refine iC ?_|with_reducible refine bZ ?_|with_reducible refine bW ?_|with_reducible refine fI ?_|with_reducible refine fC ?_)
   have hxf:=x.aAA;have e1:(kid=nx3)=False:=eq_false or;refine fB 4 rfl (by simp only[hxf,aQ hxf,go_sem,reduceIte,jA,jB,jC,jD,reduceCtorEq,jE,jF]) ?_;simp only[hxf,aQ hxf,go_sem,reduceIte,jA,jB,jC,jD,reduceCtorEq,jE,jF];refine jX (by simp[aK.ev,hxf]) ?_;refine Zn ?_;refine bG ((ul kid (nx3+2) c p.2 q2 or x _ _ ?_ ?_ or).dom.mono ?_)
   ·simp only[Hp.aAL];repeat rw[if_neg or]
    exact hk2
   ·simp[Hp.set]
   rintro v h4 nx4 aLE ⟨⟨rfl,rfl⟩,hd4,_⟩;dsimp only at hd4 aLE;unfold dF;refine Zn ?_;obtain⟨z0,aQM⟩:∃z0,z0=(.arr (.agg 3) [.agg [.int .i64 0, .int .i64 0, .str ⟨#[]⟩]]:Blk):=⟨_,rfl⟩;rw[←aQM] at hd4⊢;have hnt:∀H:Hp,aW H nx3→H (nx3+2)≠some .tip:=fun H hH=>hH.aFp or;have hs4:Hp.same nx h' ((((H2.set nx3 z0).set nx3 (.arr (.agg 3) [x.v])).set (nx3+2) (.arr (.agg 3) [x.v])).del kid):=
    rW (eT (eT (eT hs2 or _) or _) or _) or
   have ha4:Acc ((((H2.set nx3 z0).set nx3 (.arr (.agg 3) [x.v])).set (nx3+2) (.arr (.agg 3) [x.v])).del kid) nx oo (out.map TR.v):=by
    refine Acc.del (Acc.set (Acc.set (Acc.set ha2 (hd3.aFp (Kf _)) _) ?_ _) ?_ _) fun e=>?_
    ·rw[aQM];exact jg
    ·refine xG or (xG or (hd3.aFp or))
    have:=ha2.lt hd3 kid e;rcases ha2 with⟨_,k⟩|⟨_,id',_,k,k2⟩
    ·rw[k] at e;cases e
    rw[k] at e;injection e with e;subst e;rw[hk2] at k2;cases k2
   generalize (((H2.set nx3 z0).set nx3 (.arr (.agg 3) [x.v])).set (nx3+2) (.arr (.agg 3) [x.v])).del kid=H4 at hd4 hs4 ha4⊢;have aAP:=ha4;have hdm:=hd4;have hcap:out.length≤1000000:=or;have hfl:V.fits .leaf (vls .free (p.2.set c x))=true:=rfl;refine aue (e3 hfl (@jK TR V) jG) ?_;rw[←hQ];have aUF:(iB c (bC c p.2) M).length≤L.length:=by
    have h1:=pO c p.2 (aS L);rw[←hrM,←xI] at h1;simpa using h1
   have hMl:M.length=L.length+1:=by rw[hM];rfl
   refine aH (iB c (bC c p.2) M,oM, .tok (nx4+1),out++[(.free,p.2.set c x)]) (by first|(show(iB c (bC c p.2) M).length<(p::L).length;rw[jL];omega)|(show(iB c (bC c p.2) M).length<M.length;omega)) ⟨or,dmo hdm,vZ hs4 ha4,?_,?_,?_,?_,?_⟩ (by simp only[WkL,aD,jH,jI,jJ,vls,tps,Ka,Kg,Ke,TR.v,go_sem,reduceIte,jA,jB,jC,jD,reduceCtorEq,jE,jF])
   ·dsimp only;rw[Ka];exact Acc.new _ Zm or
   ·dsimp only;rw[hre,xI,hrM,xC]
    ·rw[←hrM,how,hx];congr 1;simp[aS]
    rw[←hrM,how,hx];exact hn0
   ·dsimp only;rw[List.length_append];simp only[jL,jM];omega
   ·exact fun q hq=>aFV q (Kt.1 hq).1
   intro q hq;rcases Kv.1 hq with hq|hq
   ·exact aHB q hq
   rw[Kp.1 hq];exact⟨by dsimp only;rw[List.length_set];exact q3, .inr rfl⟩
end Go.Proofs.YtjfdoohogiojcaaGreatDoor
