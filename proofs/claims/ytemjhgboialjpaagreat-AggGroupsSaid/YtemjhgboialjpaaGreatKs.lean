/-
Texts of this proof,one behind the other. No conditions.
-/
import Derived.Test.YtemjhgboialjpaaGreatKd
import Derived.Test.YtemjhgboialjpaaGreatKr
open Nat renaming reduceAdd→jA,reduceSub→jB,reduceLT→jC,reduceLeDiff→jD,reduceEqDiff→jE
open Int renaming reduceToNat→jF,toNat_natCast→jG,natCast_add→jH,natCast_one→jI,natCast_zero→jJ
open List renaming length_map→jK,length_cons→jL,length_nil→jM,replicate_succ→jN,replicate_zero→jO,cons_append→jP,nil_append→jQ
set_option linter.unusedSimpArgs false
set_option linter.unusedVariables false
set_option linter.unusedSectionVars false
namespace Go.Proofs.YtemjhgboialjpaaGreat
open Go.RowKit Go.Sort
attribute [local irreducible] IntKind.wrap
theorem tF{K:Nat}{l:List (List Vl)}(h:∀t∈l,t.length≤K):∀t∈bT bS l,t.length≤K:=fun t ht=>h t (((bO c3T l).2 t).1 ht)
abbrev aDM:aJ:=((aJ.ops L.corollaryref16_Group_r10).seq (aJ.cond (aG.slot 53) ((aJ.ops L.corollaryref16_Group_r11).seq aJ.ret) aJ.skip)).seq ((aJ.ops L.corollaryref16_Group_r12).seq (((aJ.ops L.corollaryref16_Group_r13).seq (aJ.block 2 (.loop L.corollaryref16_Group_l2))).seq ((aJ.ops L.corollaryref16_Group_r31).seq aJ.ret)))
set_option maxRecDepth 100000 in
set_option maxHeartbeats 16000000 in
theorem xC(g col:Int)(l:List TR)(hl:l.length≤100000)(h1:¬g<0)(h2:¬4<g)(hrow:∀p∈l,p.2.length≤1000)(hsmx:∀p∈l,∀x∈p.2,x.sm)(h':Hp)(nx:Nat)(hd:aX h' nx)(hp:Hp)(nx1:Nat)(hn0:nx<nx1)(hdm:aX hp nx1)(hsm:Hp.same nx h' hp)
 (hbx:hp nx=some (.arr (.agg 2) [eX 0 (bT bS (aK l))])) (hall:0<g→∀p∈l,0≤col∧col<p.2.length):
 lwp Tryz.prog aDM (qM [pG.slot 6,pG.slot 7] fun v' h'' x=>v'=V.tup [lst .leaf (lsV (bE g col (aK l)).1), .int .i64 (bE g col (aK l)).2]∧h''=h') ⟨aC 127 0 [(0, .int .i64 g),(1, .int .i64 col),(8, .ptr nx (.agg 2) 0 0)],hp,nx1⟩:=by
 have hbig:¬(g<0∨4<g):=by omega
 have hle:=hsm.le hd (Hp.le_refl _)
 have hrl:(aK l).length=l.length:=jK ..
 have hrow2:∀t∈aK l,t.length≤1000:=fun t ht=>by
  obtain⟨p,hp,rfl⟩:=List.mem_map.1 ht
  exact hrow p hp
 obtain⟨S,hS⟩:∃S,bT bS (aK l)=S:=⟨_,rfl⟩
 have hSm:∀t,t∈S↔t∈aK l:=fun t=>by rw[←hS];exact(bO c3T _).2 t
 have hSl:S.length≤100000:=by
  have:=dV (c:=bS) (aK l)
  rw[hS,hrl] at this;omega
 rw[hS] at hbx
 obtain⟨ow,how⟩:=iV .leaf (lsV S)
 have hrv:eX 0 S= .agg [.int .i64 0, .sl .leaf ow (lsV S)]:=by rw[eX,how]
 rw[hrv] at hbx
 have hls:(lsV S).length=S.length:=jK ..
 simp only[aC,go_sem,reduceIte,jA,jB,jC,jD,reduceCtorEq,jE,jF]
 cases c0:(g==0) with
 |true=>
  have hg0:g=0:=by simpa using c0
  have hgv:bE g col (aK l)=(S,0):=by
   unfold bE
   rw[if_neg hbig,if_neg (fun k=>by omega),if_pos hg0,hS]
  refine aue (e3 c0 hbx hn0) ?_
  refine bJ h' (lef hd hle) ⟨?_,rfl⟩
  rw[hgv,how];rfl
 |false=>
 have hg0:0<g:=by have:g≠0:=by simpa using c0
                  omega
 cases hl0:l with
 |nil=>
  have hS0:S=[]:=by rw[←hS,hl0];rfl
  have hgv:bE g col (aK [])=([],0):=by
   unfold bE
   rw[if_neg hbig,if_neg (fun k=>k.2 (by simp)),if_neg (by omega)];rfl
  rw[hS0] at hbx
  have cz:decide ((0:Int)<0)=false:=by decide
  have hlz:(lsV []).length=0:=rfl
  refine aue c0 ?_
  refine aY (fun _:Unit=>aC 127 0 [(8, .ptr nx (.agg 2) 0 0),(10, .ptr nx1 (.agg 2) 0 0),(11, .int .i64 0)])
   (fun _ hp2 nx2=>nx1+1≤nx2∧Hp.same nx h' hp2∧hp2 nx=some (.arr (.agg 2) [.agg [.int .i64 0, .sl .leaf ow (lsV [])]])∧hp2 nx1=some (.arr (.agg 2) [.agg [.int .i64 0, .sl .leaf .nil []]])) (fun _=>0) () ⟨by first|omega|(dsimp only;omega),kep hsm,by simp only[Hp.set_app];rw[if_neg (by omega),if_neg (by omega)];exact hbx,by simp[Hp.set]⟩ (by simp only[WkL,aC,jH,jI,jJ,go_sem,reduceIte,jA,jB,jC,jD,reduceCtorEq,jE,jF]) ?_
  rintro _ hp2 nx2 ⟨hnx2,hsm2,hbx2,hbo2⟩
  generalize hQ:bU _ _ _ _ _=Q0
  simp only[aC,go_sem,reduceIte,jA,jB,jC,jD,reduceCtorEq,jE,jF]
  have hn2:nx<nx2:=by omega
  have hn3:nx1<nx2:=by omega
  refine aue (e5 cz hbx2 hn2 hlz jJ) ?_
  rw[←hQ]
  refine aue (e2 hbo2 hn3) ?_
  refine bJ h' (lef hd (hsm2.le hd (Hp.le_refl _))) ⟨?_,rfl⟩
  rw[show bE g col []=([],0) from hgv];rfl
 |cons p0 l0=>
 have hp0:p0∈l:=by rw[hl0];simp
 rw[←hl0]
 obtain⟨c,rfl⟩:∃c:Nat,col=c:=⟨col.toNat,by have:=(hall hg0 p0 hp0).1;omega⟩
 have hrowS:∀t∈S,c<t.length∧t.length≤1000:=fun t ht=>by
  obtain⟨p,hp,rfl⟩:=List.mem_map.1 ((hSm t).1 ht)
  exact⟨by have:=(hall hg0 p hp).2;omega,hrow p hp⟩
 have hsmS:∀t∈S,∀x∈t,x.sm:=fun t ht=>by
  obtain⟨p,hp,rfl⟩:=List.mem_map.1 ((hSm t).1 ht)
  exact hsmx p hp
 have hgv:bE g c (aK l)=gX g c [] S:=by
  unfold bE
  rw[if_neg hbig,if_neg,if_neg (by omega),hS]
  ·rfl
  rintro⟨_,k⟩
  refine k fun t ht=>?_
  have:=(hrowS t ((hSm t).2 ht)).1
  omega
 have hzm:Vl.sm dF:=by show(0:Nat)≤9223372036854775807;omega
 have hfR:∀ls,V.fits (.agg 2) (eX 0 ls)=true:=fun ls=>oU 0 ls
 refine aue c0 ?_
 refine aY (fun q:Nat×List (List Vl)=>aC 127 0 (rgS g c nx nx1 q.1))
  (fun q hp nx2=>q.1≤S.length∧nx1+1≤nx2∧aX hp nx2∧Hp.same nx h' hp∧hp nx=some (.arr (.agg 2) [.agg [.int .i64 0, .sl .leaf ow (lsV S)]])∧hp nx1=some (.arr (.agg 2) [eX 0 (bT bS q.2)])∧gX g c [] S=gX g c q.2 (jV c S q.1)∧q.2.length≤q.1∧∀t∈q.2,t.length≤1000)
  (fun q=>S.length-q.1) (0,[]) ⟨Nat.zero_le _,by first|omega|(dsimp only;omega),dmo hdm,kep hsm,by simp only[Hp.set_app];rw[if_neg (by omega),if_neg (by omega)];exact hbx,by simp[Hp.set,eX,bT,aAB],by rw[zV],by simp,by simp⟩ (by simp only[WkL,aC,jH,jI,jJ,rgS,go_sem,reduceIte,jA,jB,jC,jD,reduceCtorEq,jE,jF]) ?_
 rintro⟨i,out⟩ hp2 nx2 ⟨hi,hnx2,hdm2,hsm2,hbx2,hbo2,hre,hol,hor⟩
 generalize hQ:bU _ _ _ _ _=Q0
 dsimp only at hi hbo2 hre hol hor
 simp only[aC,go_sem,reduceIte,jA,jB,jC,jD,reduceCtorEq,jE,jF]
 have hle2:=hsm2.le hd (Hp.le_refl _)
 have hn2:nx<nx2:=by omega
 have hn3:nx1<nx2:=by omega
 rcases Nat.lt_or_ge i S.length with hlt|hge
 ·have hc:decide ((i:Int)<(S.length:Int))=true:=dct
  have hw:IntKind.i64.wrap ((i:Int)+1)=((i+1:Nat):Int):=wrp
  refine aue (e5 hc hls hbx2 hn2 jG) ?_
  refine oW (s':=⟨aC 127 0 (rgS g c nx nx1 i++[(12, .bool true),(13, .sl (.agg 3) .nil []),(14, .int .i64 0)]),hp2,nx2⟩) (Wk.tell ⟨by simp only[WkL,aC,jH,jI,jJ,rgS,jP,jQ,go_sem,reduceIte,jA,jB,jC,jD,reduceCtorEq,jE,jF],Hp.le_refl _,Nat.le_refl _⟩) ?_
  refine aDX g c S (by omega) hrowS ow h' nx2 nx nx1 i hlt hp2 nx2 hn2 (Nat.le_refl _) hbx2 hdm2 _ ?_
  intro oo hp3 nx3 hn3' hd3 hs3 hacc3 sl hsl
  refine iR ⟨aC 127 0 (rgS g c nx nx1 i++[(12, .bool (iX c S i S.length)),(13,vls oo (lT c S i S.length))]),hp3,nx3⟩ ⟨hsl,Hp.le_refl _,Nat.le_refl _⟩ ?_
  have hgi:S.getD i []=S[i]:=by rw[List.getD_eq_getElem?_getD,List.getElem?_eq_getElem hlt];rfl
  have hfG:iX c S i S.length=decide (∀s∈S.take i,aU c s≠aU c S[i]):=by
   unfold iX
   rw[hgi,List.take_of_length_le (l:=S.take i) (by rw[List.length_take];omega)]
  have hoK:lT c S i S.length=fA c (aU c S[i]) S:=by unfold lT;rw[hgi,List.take_length]
  have hb3:hp3 nx=some (.arr (.agg 2) [.agg [.int .i64 0, .sl .leaf ow (lsV S)]]):=by rw[hs3 nx hn2];exact hbx2
  have ho3:hp3 nx1=some (.arr (.agg 2) [eX 0 (bT bS out)]):=by rw[hs3 nx1 hn3];exact hbo2
  have hsm3:Hp.same nx h' hp3:=fun m hm=>by rw[hs3 m (by omega)];exact hsm2 m hm
  have howl:(lT c S i S.length).length≤1000000:=by
   rw[hoK,fA,jK]
   have:=List.length_filter_le (fun s=>decide (aU c s=aU c S[i])) S
   omega
  have hown:∀x∈lT c S i S.length,x.sm:=fun x hx=>by
   rw[hoK] at hx
   simp only[fA,List.mem_map,List.mem_filter] at hx
   obtain⟨s,⟨hs,_⟩,rfl⟩:=hx
   have hcl:=(hrowS s hs).1
   rw[List.getD_eq_getElem?_getD,List.getElem?_eq_getElem hcl]
   exact hsmS s hs _ (List.getElem_mem _)
  have hsl2:=dV (c:=bS) out
  refine aDW g c S hrowS ow nx nx1 i hlt hp3 nx3 (by omega) (by omega) (by omega) hb3 hd3 (bT bS out) (bO c3T out).1 (by omega) (fun t ht=>by have:=tF hor t ht;omega) ho3 _ oo _ howl hown _ ?_ ?_ ?_
  ·intro hf sl2 hsl2
   refine iR ⟨aC 127 0 (rgS g c nx nx1 i),hp3,nx3⟩ ⟨hsl2,Hp.le_refl _,Nat.le_refl _⟩ ?_
   simp only[aC,go_sem,reduceIte,jA,jB,jC,jD,reduceCtorEq,jE,jF]
   rw[hfG] at hf
   have hex:∃s∈S.take i,aU c s=aU c S[i]:=Classical.byContradiction fun k=>(of_decide_eq_false hf) fun s hs e=>k ⟨s,hs,e⟩
   refine aue hw ?_
   rw[←hQ]
   exact aM (i+1,out) (by dsimp only;omega) ⟨hlt,by omega,hd3,hsm3,hb3,ho3,by rw[hre,aBs hlt hex],by dsimp only;omega,hor⟩ (by simp only[WkL,aC,jH,jI,jJ,rgS,hw,go_sem,reduceIte,jA,jB,jC,jD,reduceCtorEq,jE,jF])
  ·intro hf hne sl2 hp4 nx4 hs4 q6 q7
   rw[hfG] at hf
   obtain⟨l',e1,e2,e3⟩:=tV hlt (of_decide_eq_true hf)
   refine eY ?_
   rw[←hQ]
   refine au ?_
   refine bJ h' (fun m b e=>?_) ⟨?_,rfl⟩
   ·have:=hd m b e
    dsimp only
    rw[hs4 m (by omega),hsm3 m this];exact e
   show V.tup [sl2.getD 6 V.undef,sl2.getD 7 V.undef]=_
   rw[q6,q7,hgv,hre,e1,tL (by rw[e2,←hoK];exact hne),e2,←hoK];rfl
  intro hf h0 hp4 nx5 hn5 hd5 hk5 hb5 sl2 hsl2
  rw[hfG] at hf
  obtain⟨l',e1,e2,e3⟩:=tV hlt (of_decide_eq_true hf)
  refine iR ⟨aC 127 0 (rgS g c nx nx1 i),hp4,nx5⟩ ⟨hsl2,Hp.le_refl _,Nat.le_refl _⟩ ?_
  simp only[aC,go_sem,reduceIte,jA,jB,jC,jD,reduceCtorEq,jE,jF]
  refine aue hw ?_
  rw[←hQ]
  refine aM (i+1,out++[S[i].set c (cH g (lT c S i S.length)).1]) (by dsimp only;omega) ⟨hlt,by omega,hd5,fun m hm=>by rw[hk5 m (by omega) (by omega)];exact hsm3 m hm,by rw[hk5 nx (by omega) (by omega)];exact hb3,by rw[hb5,lB],?_,by dsimp only;rw[List.length_append];simp only[jL,jM];omega,?_⟩ (by simp only[WkL,aC,jH,jI,jJ,rgS,hw,go_sem,reduceIte,jA,jB,jC,jD,reduceCtorEq,jE,jF])
  ·rw[hre,e1,qJ (by rw[e2,←hoK];exact h0),e2,←hoK,e3]
  intro t ht
  rcases List.mem_append.1 ht with ht|ht
  ·exact hor t ht
  rw[List.mem_singleton.1 ht,List.length_set];exact(hrowS _ (List.getElem_mem hlt)).2
 have hc:decide ((i:Int)<(S.length:Int))=false:=dcf
 have hie:i=S.length:=by omega
 rw[hie,aBt,tK] at hre
 obtain⟨ow2,how2⟩:=iV .leaf (lsV (bT bS out))
 rw[eX,how2] at hbo2
 refine aue (e4 hc hls hbx2 hn2) ?_
 rw[←hQ]
 refine aue (e2 hbo2 hn3) ?_
 refine bJ h' (lef hd hle2) ⟨?_,rfl⟩
 rw[hgv,hre,how2];rfl
set_option maxRecDepth 100000 in
set_option maxHeartbeats 16000000 in
theorem xD(g col:Int)(o:Own)(l:List TR)(hl:l.length≤100000)(hrow:∀p∈l,p.2.length≤1000)(hsmx:∀p∈l,∀x∈p.2,x.sm)(h:Hp):bH Tryz.prog 12 [.int .i64 g, .int .i64 col,tps o l] h (.tup [lst .leaf (lsV (bE g col (aK l)).1), .int .i64 (bE g col (aK l)).2]):=by
 refine aT (fun L=>⟨iM (fun L=>tS _ L) L,trivial,trivial⟩) fun h' nx hh=>aF L.corollaryref16_Group_low fun hd=>?_
 simp only[jL,jM,jA,jB,jN,jO,jP,jQ,V.undef]
 by_cases h1:g<0
 ·have c1:decide (g<0)=true:=dct
  have hgv:bE g col (aK l)=([],1):=by unfold bE;rw[if_pos (.inl h1)]
  refine aue c1 ?_
  refine bJ h' (leo hd) ⟨?_,rfl⟩
  rw[hgv];rfl
 have c1:decide (g<0)=false:=dcf
 by_cases h2:4<g
 ·have c2:decide (4<g)=true:=dct
  have hgv:bE g col (aK l)=([],1):=by unfold bE;rw[if_pos (.inr h2)]
  refine aue (e2 c1 c2) ?_
  refine bJ h' (leo hd) ⟨?_,rfl⟩
  rw[hgv];rfl
 have c2:decide (4<g)=false:=dcf
 have hbig:¬(g<0∨4<g):=by omega
 have hrow2:∀t∈aK l,t.length≤1000:=fun t ht=>by
  obtain⟨p,hp,rfl⟩:=List.mem_map.1 ht
  exact hrow p hp
 have hfR:∀ls,V.fits (.agg 2) (eX 0 ls)=true:=fun ls=>oU 0 ls
 refine aue (e2 c1 c2) ?_
 refine aY (fun i:Nat=>aC 127 0 [(0, .int .i64 g),(1, .int .i64 col),(2,tps o l),(8, .ptr nx (.agg 2) 0 0),(9, .int .i64 i)])
  (fun i hp nx1=>i≤l.length∧nx+1≤nx1∧aX hp nx1∧Hp.same nx h' hp∧hp nx=some (.arr (.agg 2) [eX 0 (bT bS (aK (l.take i)))])∧(0<g→∀p∈l.take i,0≤col∧col<p.2.length))
  (fun i=>l.length-i) 0 ⟨Nat.zero_le _,by first|omega|(dsimp only;omega),dmo hd,kep Hp.same.rfl',by simp[Hp.set,eX,bT,aAB],by simp⟩ (by simp only[WkL,aC,jH,jI,jJ,go_sem,reduceIte,jA,jB,jC,jD,reduceCtorEq,jE,jF]) ?_
 rintro i hp nx1 ⟨hi,hnx,hdm,hsm,hbx,hall⟩
 generalize hQ:bU _ _ _ _ _=Q0
 simp only[aC,go_sem,reduceIte,jA,jB,jC,jD,reduceCtorEq,jE,jF]
 have hle:=hsm.le hd (Hp.le_refl _)
 have hn0:nx<nx1:=by omega
 rcases Nat.lt_or_ge i l.length with hlt|hge
 ·have hc:decide ((i:Int)<(l.length:Int))=true:=dct
  have hw:IntKind.i64.wrap ((i:Int)+1)=((i+1:Nat):Int):=wrp
  obtain⟨p,hpq⟩:∃p,l[i]=p:=⟨_,rfl⟩
  have hpm:p∈l:=hpq▸List.getElem_mem _
  have hg:(l.map TR.v).getD i (.tup [])=vls p.1 p.2:=by rw[aO TR.v l i hlt,hpq];rfl
  have hS2:bT bS (aK (l.take (i+1)))=fU bS p.2 (bT bS (aK (l.take i))):=by
   rw[List.take_succ_eq_append_getElem hlt,hpq]
   simp only[aK,List.map_append,List.map_cons,List.map_nil]
   exact lB bS _ _
  have hrt:∀t∈aK (l.take i),t.length≤1000:=fun t ht=>by
   obtain⟨q,hq,rfl⟩:=List.mem_map.1 ht
   exact hrow q (List.mem_of_mem_take hq)
  have hSl:(bT bS (aK (l.take i))).length≤1000000:=by
   have:=dV (c:=bS) (aK (l.take i))
   have e:(aK (l.take i)).length=(l.take i).length:=jK ..
   rw[e,List.length_take] at this;omega
  obtain⟨S,hS⟩:∃S,bT bS (aK (l.take i))=S:=⟨_,rfl⟩
  have hSs:Str bS S:=by rw[←hS];exact(bO c3T _).1
  have hSr:∀t∈S,t.length≤1000000:=fun t ht=>by have:=tF hrt t (by rw[hS];exact ht);omega
  rw[hS] at hbx hS2 hSl
  have D1:=fun h=>tJ 0 S hSs hSl hSr p.1 p.2 (by have:=hrow p hpm;omega) h
  have hbadg:0<g→¬(0≤col∧col<p.2.length)→bE g col (aK l)=([],1):=fun hg0 hb=>by
   unfold bE
   rw[if_neg hbig,if_pos ⟨hg0,fun k=>hb (k p.2 (List.mem_map.2 ⟨p,hpm,rfl⟩))⟩]
  have hnext:(0<g→0≤col∧col<p.2.length)→0<g→∀q∈l.take (i+1),0≤col∧col<q.2.length:=fun k hg0 q hq=>by
   rw[List.take_succ_eq_append_getElem hlt,hpq] at hq
   rcases List.mem_append.1 hq with hq|hq
   ·exact hall hg0 q hq
   rw[List.mem_singleton.1 hq];exact k hg0
  have E:=e10 hc hw hg hlt (@jK TR V) (@jK Vl V) jG hbx hn0 (e3 hfR (fun l=>aL (hfR l)) (fun l=>aN (hfR S) (hfR l)))
  have tst:(decide (0<g)=true∧decide (col<0)=true)∨(decide (0<g)=true∧decide (col<0)=false∧decide ((p.2.length:Int)≤col)=true)∨(decide (0<g)=true∧decide (col<0)=false∧decide ((p.2.length:Int)≤col)=false)∨decide (0<g)=false:=by
   cases decide (0<g)<;>cases decide (col<0)<;>cases decide ((p.2.length:Int)≤col)<;>simp
  rcases tst with⟨t1,t2⟩|⟨t1,t2,t3⟩|⟨t1,t2,t3⟩|t1
  ·refine aue (e3 E t1 t2) ?_
   rw[←hQ]
   refine au ?_
   refine bJ h' (lef hd hle) ⟨?_,rfl⟩
   rw[hbadg (of_decide_eq_true t1) (by have:=of_decide_eq_true t2;omega)];rfl
  ·refine aue (e4 E t1 t2 t3) ?_
   rw[←hQ]
   refine au ?_
   refine bJ h' (lef hd hle) ⟨?_,rfl⟩
   rw[hbadg (of_decide_eq_true t1) (by have:=of_decide_eq_true t3;omega)];rfl
  ·refine aue (e4 E t1 t2 t3) ?_
   rw[←hQ]
   exact aM (i+1) (by omega) ⟨hlt,by omega,dmo hdm,kep hsm,by rw[hS2];simp[Hp.set],hnext fun _=>by have:=of_decide_eq_false t2;have:=of_decide_eq_false t3;omega⟩ (by simp only[WkL,aC,jH,jI,jJ,hw,go_sem,reduceIte,jA,jB,jC,jD,reduceCtorEq,jE,jF])
  refine aue (e2 E t1) ?_
  rw[←hQ]
  exact aM (i+1) (by omega) ⟨hlt,by omega,dmo hdm,kep hsm,by rw[hS2];simp[Hp.set],hnext fun k=>absurd k (of_decide_eq_false t1)⟩ (by simp only[WkL,aC,jH,jI,jJ,hw,go_sem,reduceIte,jA,jB,jC,jD,reduceCtorEq,jE,jF])
 have hc:decide ((i:Int)<(l.length:Int))=false:=dcf
 rw[List.take_of_length_le hge] at hbx hall
 refine aue hc ?_
 rw[←hQ]
 refine dZ (eD (iR ⟨aC 127 0 [(0, .int .i64 g),(1, .int .i64 col),(8, .ptr nx (.agg 2) 0 0)],hp,nx1⟩ ⟨by simp only[WkL,aC,jH,jI,jJ,go_sem,reduceIte,jA,jB,jC,jD,reduceCtorEq,jE,jF],Hp.le_refl _,Nat.le_refl _⟩ ?_))
 exact xC g col l hl h1 h2 hrow hsmx h' nx hd hp nx1 hn0 hdm hsm hbx hall
end Go.Proofs.YtemjhgboialjpaaGreat
